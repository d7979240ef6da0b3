import Derived.Test.YtahagplegmcaaaaDoorLaw
import Derived.Test.YtahagplegmcaaaaDoorGQo
set_option linter.unusedVariables false
set_option linter.unusedSimpArgs false
set_option linter.unnecessarySimpa false
namespace Go.Proofs.YtahagplegmcaaaaDoor
open Go.ChangeShapes Go.WideShapes Go.ChangeAt Go.RowKit Go.Joins Go.Xt
/-! The deeds opened. -/
abbrev ddLeaves : List Leaf := [Leaf.int .i64, Leaf.int .u8, Leaf.int .u64, Leaf.int .u64, Leaf.int .u64, Leaf.int .u64, Leaf.int .u64, Leaf.int .u64, Leaf.bool, Leaf.int .u8, Leaf.int .i64, Leaf.bool, Leaf.int .u64, Leaf.int .u64, Leaf.int .i64]
def decD : List Value → Dd
  | [.int _ t, .int _ k, .int _ a, .int _ b, .int _ c, .int _ d, .int _ e, .int _ f, .bool j, .int _ y, .int _ er, .bool fd, .int _ rk, .int _ rv, .int _ rc] => ⟨t, ⟨k, a, b, c, d, e, f⟩, j, y, ⟨er, fd, rk, rv, rc⟩⟩
  | _ => ⟨0, ⟨0, 0, 0, 0, 0, 0, 0⟩, false, 0, ⟨0, false, 0, 0, 0⟩⟩
theorem decD_ok {cs : List Value} (h : All2 ddLeaves cs) : dc (decD cs) = cs ∧ (decD cs).o.Wf := by
  obtain ⟨_, l1, rfl, ⟨t, rfl, wt⟩, h1⟩ := All2.cons h
  obtain ⟨_, l2, rfl, ⟨k, rfl, wk⟩, h2⟩ := All2.cons h1
  obtain ⟨_, l3, rfl, ⟨a, rfl, wa⟩, h3⟩ := All2.cons h2
  obtain ⟨_, l4, rfl, ⟨b, rfl, wb⟩, h4⟩ := All2.cons h3
  obtain ⟨_, l5, rfl, ⟨c, rfl, wc⟩, h5⟩ := All2.cons h4
  obtain ⟨_, l6, rfl, ⟨d, rfl, wd⟩, h6⟩ := All2.cons h5
  obtain ⟨_, l7, rfl, ⟨e, rfl, we⟩, h7⟩ := All2.cons h6
  obtain ⟨_, l8, rfl, ⟨f, rfl, wf⟩, h8⟩ := All2.cons h7
  obtain ⟨_, l9, rfl, ⟨j, rfl⟩, h9⟩ := All2.cons h8
  obtain ⟨_, l10, rfl, ⟨y, rfl, wy⟩, h10⟩ := All2.cons h9
  obtain ⟨_, l11, rfl, ⟨er, rfl, wer⟩, h11⟩ := All2.cons h10
  obtain ⟨_, l12, rfl, ⟨fd, rfl⟩, h12⟩ := All2.cons h11
  obtain ⟨_, l13, rfl, ⟨rk, rfl, wrk⟩, h13⟩ := All2.cons h12
  obtain ⟨_, l14, rfl, ⟨rv, rfl, wrv⟩, h14⟩ := All2.cons h13
  obtain ⟨_, l15, rfl, ⟨rc, rfl, wrc⟩, h15⟩ := All2.cons h14
  obtain rfl := All2.nil h15
  exact ⟨rfl, ⟨WfU8 wk, WfU64 wa, WfU64 wb, WfU64 wc, WfU64 wd, WfU64 we, WfU64 wf⟩⟩
theorem deeds_of {W : World} {A : Option Addr} {len : Nat} {L : List (List Value)} (hn : L.length = len) (hall : ∀ cs ∈ L, All2 ddLeaves cs)
    (hrd : 0 < len → ∃ b o, A = some ⟨b, o, none⟩ ∧ b < W.heap.size ∧ ∀ i cs, L[i]? = some cs → ∀ j u, cs[j]? = some u → W.cell? ⟨b, o + (i * 15 + j), none⟩ = some u) : ∃ ds, Rd W 15 A len (dcells ds) ∧ ∀ d ∈ ds, d.o.Wf := by
  refine ⟨L.map decD, ⟨by rw [dcells_len, List.length_map, hn], fun hp => ?_⟩, fun d hd => ?_⟩
  · obtain ⟨b, o, rfl, hb, hc⟩ := hrd hp
    refine ⟨b, o, rfl, hb, fun j u hu => ?_⟩
    have hj : j < (dcells (L.map decD)).length := (List.getElem?_eq_some_iff.1 hu).1
    rw [dcells_len, List.length_map] at hj
    obtain ⟨cs, hcs⟩ : ∃ cs, L[j / 15]? = some cs := ⟨_, List.getElem?_eq_getElem (by omega)⟩
    have h1 := (decD_ok (hall cs (List.mem_of_getElem? hcs))).1
    have hl : (dc (decD cs)).length = 15 := rfl
    obtain ⟨v, hv⟩ : ∃ v, (dc (decD cs))[j % 15]? = some v := ⟨_, List.getElem?_eq_getElem (by omega)⟩
    have h2 := dcells_get (L.map decD) (j / 15) (decD cs) (by rw [List.getElem?_map, hcs]; rfl) (j % 15) v hv
    have e : j / 15 * 15 + j % 15 = j := by omega
    rw [e, hu] at h2
    cases h2
    rw [h1] at hv
    have h3 := hc _ _ hcs _ _ hv
    rw [e] at h3
    exact h3
  · obtain ⟨cs, hcs, rfl⟩ := List.mem_map.1 hd
    exact (decD_ok (hall cs hcs)).2
end Go.Proofs.YtahagplegmcaaaaDoor
