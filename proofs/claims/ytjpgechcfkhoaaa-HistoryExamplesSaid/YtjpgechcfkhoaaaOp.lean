import Derived.Test.YtjpgechcfkhoaaaP
import Derived.Test.YtjpgechcfkhoaaaC
import Derived.Test.YtjpgechcfkhoaaaLaw
namespace Go.Proofs.Ytjpgechcfkhoaaa
open Go.RowKit Go.Xt
abbrev KC : List Leaf := [Leaf.int .i64, Leaf.int .i64, Leaf.int .u8, Leaf.int .u64, Leaf.int .u64, Leaf.int .u64, Leaf.int .u64, Leaf.int .u64, Leaf.int .u64, Leaf.int .i64, Leaf.int .i64, Leaf.int .i64, Leaf.int .i64, Leaf.int .i64, Leaf.bool, Leaf.int .u64, Leaf.int .u64, Leaf.int .i64]
/-- The calls of a slice that came in. -/
theorem calls_of {W : World} {A : Option Addr} {len : Nat} {L : List (List Value)} (hn : L.length = len) (hall : ∀ cs ∈ L, All2 KC cs)
    (hrd : 0 < len → ∃ b o, A = some ⟨b, o, none⟩ ∧ b < W.heap.size ∧ ∀ i cs, L[i]? = some cs → ∀ j u, cs[j]? = some u → W.cell? ⟨b, o + (i * KC.length + j), none⟩ = some u) : ∃ l, Cs W A len l ∧ ∀ y ∈ l, WfC y := by
  have one : ∀ cs ∈ L, ∃ x : Cl, cs = cl x ∧ WfC x := by
    intro cs hcs
    obtain ⟨_, _, rfl, ⟨th, rfl, w1⟩, h1⟩ := All2.cons (hall cs hcs)
    obtain ⟨_, _, rfl, ⟨ix, rfl, w2⟩, h2⟩ := All2.cons h1
    obtain ⟨_, _, rfl, ⟨kd, rfl, w3⟩, h3⟩ := All2.cons h2
    obtain ⟨_, _, rfl, ⟨ka, rfl, w4⟩, h4⟩ := All2.cons h3
    obtain ⟨_, _, rfl, ⟨kb, rfl, w5⟩, h5⟩ := All2.cons h4
    obtain ⟨_, _, rfl, ⟨kc, rfl, w6⟩, h6⟩ := All2.cons h5
    obtain ⟨_, _, rfl, ⟨kx, rfl, w7⟩, h7⟩ := All2.cons h6
    obtain ⟨_, _, rfl, ⟨ky, rfl, w8⟩, h8⟩ := All2.cons h7
    obtain ⟨_, _, rfl, ⟨kz, rfl, w9⟩, h9⟩ := All2.cons h8
    obtain ⟨_, _, rfl, ⟨inv, rfl, w10⟩, h10⟩ := All2.cons h9
    obtain ⟨_, _, rfl, ⟨took, rfl, w11⟩, h11⟩ := All2.cons h10
    obtain ⟨_, _, rfl, ⟨ans, rfl, w12⟩, h12⟩ := All2.cons h11
    obtain ⟨_, _, rfl, ⟨st, rfl, w13⟩, h13⟩ := All2.cons h12
    obtain ⟨_, _, rfl, ⟨re, rfl, w14⟩, h14⟩ := All2.cons h13
    obtain ⟨_, _, rfl, ⟨rf, rfl⟩, h15⟩ := All2.cons h14
    obtain ⟨_, _, rfl, ⟨rk, rfl, w16⟩, h16⟩ := All2.cons h15
    obtain ⟨_, _, rfl, ⟨rv, rfl, w17⟩, h17⟩ := All2.cons h16
    obtain ⟨_, _, rfl, ⟨rc, rfl, w18⟩, h18⟩ := All2.cons h17
    obtain rfl := All2.nil h18
    exact ⟨⟨th, ix, kd, ka, kb, kc, kx, ky, kz, inv, took, ans, st, re, rf, rk, rv, rc⟩, rfl, ⟨WfI64 w1, WfI64 w2, WfI64 w10, WfI64 w11, WfI64 w12, WfI64 w13⟩⟩
  have pick : ∀ cs : List Value, ∃ x : Cl, cs ∈ L → cs = cl x ∧ WfC x := fun cs => by
    by_cases h : cs ∈ L
    · obtain ⟨x, hx⟩ := one cs h; exact ⟨x, fun _ => hx⟩
    · exact ⟨zc, fun h' => absurd h' h⟩
  refine ⟨L.map fun cs => Classical.choose (pick cs), ⟨by simpa using hn, fun hp => ?_⟩, fun s hs => ?_⟩
  · obtain ⟨b, o, rfl, hb, hc⟩ := hrd hp
    refine ⟨b, o, rfl, hb, fun i x hx => ?_⟩
    rw [List.getElem?_map] at hx
    obtain ⟨cs, hcs, rfl⟩ := Option.map_eq_some_iff.1 hx
    have h1 := (Classical.choose_spec (pick cs) (List.mem_of_getElem? hcs)).1
    refine AtC.of_range fun j u hu => ?_
    rw [← h1] at hu
    have := hc i cs hcs j u hu
    rw [show o + i * 18 + j = o + (i * KC.length + j) by show _ = o + (i * 18 + j); omega]
    exact this
  · obtain ⟨cs, hcs, rfl⟩ := List.mem_map.1 hs
    exact (Classical.choose_spec (pick cs) hcs).2
/-- The ints of a slice that came in. -/
theorem ints_of {W : World} {A : Option Addr} {len : Nat} {L : List (List Value)} (hn : L.length = len) (hall : ∀ cs ∈ L, All2 [Leaf.int .i64] cs)
    (hrd : 0 < len → ∃ b o, A = some ⟨b, o, none⟩ ∧ b < W.heap.size ∧ ∀ i cs, L[i]? = some cs → ∀ j u, cs[j]? = some u → W.cell? ⟨b, o + (i * 1 + j), none⟩ = some u) : ∃ l, Is W A len l ∧ ∀ y ∈ l, (Lit.int .i64 y).wf = true := by
  have one : ∀ cs ∈ L, ∃ x : Int, cs = [.int .i64 x] ∧ (Lit.int .i64 x).wf = true := by
    intro cs hcs
    obtain ⟨_, _, rfl, ⟨x, rfl, w1⟩, h1⟩ := All2.cons (hall cs hcs)
    obtain rfl := All2.nil h1
    exact ⟨x, rfl, w1⟩
  have pick : ∀ cs : List Value, ∃ x : Int, cs ∈ L → cs = [.int .i64 x] ∧ (Lit.int .i64 x).wf = true := fun cs => by
    by_cases h : cs ∈ L
    · obtain ⟨x, hx⟩ := one cs h; exact ⟨x, fun _ => hx⟩
    · exact ⟨0, fun h' => absurd h' h⟩
  refine ⟨L.map fun cs => Classical.choose (pick cs), ⟨by simpa using hn, fun hp => ?_⟩, fun s hs => ?_⟩
  · obtain ⟨b, o, rfl, hb, hc⟩ := hrd hp
    refine ⟨b, o, rfl, hb, fun i x hx => ?_⟩
    rw [List.getElem?_map] at hx
    obtain ⟨cs, hcs, rfl⟩ := Option.map_eq_some_iff.1 hx
    have h1 := (Classical.choose_spec (pick cs) (List.mem_of_getElem? hcs)).1
    have := hc i cs hcs 0 (.int .i64 (Classical.choose (pick cs))) ((congrArg (fun c : List Value => c[0]?) h1).trans rfl)
    simpa using this
  · obtain ⟨cs, hcs, rfl⟩ := List.mem_map.1 hs
    exact (Classical.choose_spec (pick cs) hcs).2
end Go.Proofs.Ytjpgechcfkhoaaa
