import Derived.Test.YtdhinclpmmpkhaaL
import Derived.Test.YtdhinclpmmpkhaaLaw
namespace Go.Proofs.Ytdhinclpmmpkhaa
open Go.RowKit Go.Xt
def decS : List Value → Int × Int
  | [.int _ a, .int _ b] => (a, b)
  | _ => (0, 0)
theorem spans_of {W : World} {A : Option Addr} {len : Nat} {L : List (List Value)} (hn : L.length = len) (hall : ∀ cs ∈ L, All2 [Leaf.int .u64, Leaf.int .u64] cs)
    (hrd : 0 < len → ∃ b o, A = some ⟨b, o, none⟩ ∧ b < W.heap.size ∧ ∀ i cs, L[i]? = some cs → ∀ j u, cs[j]? = some u → W.cell? ⟨b, o + (i * 2 + j), none⟩ = some u) : ∃ l, Sp W A len l ∧ Bd l := by
  have two : ∀ cs ∈ L, ∃ a b, cs = [.int .u64 a, .int .u64 b] ∧ (0 ≤ a ∧ a < 18446744073709551616) ∧ 0 ≤ b ∧ b < 18446744073709551616 := by
    intro cs hcs
    obtain ⟨_, l1, rfl, ⟨a, rfl, wa⟩, h1⟩ := All2.cons (hall cs hcs)
    obtain ⟨_, l2, rfl, ⟨b, rfl, wb⟩, h2⟩ := All2.cons h1
    obtain rfl := All2.nil h2
    exact ⟨a, b, rfl, WfU64 wa, WfU64 wb⟩
  refine ⟨L.map decS, ⟨by simpa using hn, fun hp => ?_⟩, fun s hs => ?_⟩
  · obtain ⟨b, o, rfl, hb, hc⟩ := hrd hp
    refine ⟨b, o, rfl, hb, fun i x hx => ?_⟩
    rw [List.getElem?_map] at hx
    obtain ⟨cs, hcs, rfl⟩ := Option.map_eq_some_iff.1 hx
    obtain ⟨a, b', rfl, _, _⟩ := two cs (List.mem_of_getElem? hcs)
    have h0 := hc i _ hcs 0 _ rfl
    have h1 := hc i _ hcs 1 _ rfl
    exact ⟨h0, h1⟩
  · obtain ⟨cs, hcs, rfl⟩ := List.mem_map.1 hs
    obtain ⟨a, b', rfl, ha, hb⟩ := two cs hcs
    simp only [decS]
    omega
end Go.Proofs.Ytdhinclpmmpkhaa
