import Derived.Test.YtfnapkfdocabcaaGreatGOl0
import Derived.Test.YtfnapkfdocabcaaGreatGOj
set_option linter.unusedVariables false
set_option linter.unusedSimpArgs false
set_option linter.unnecessarySimpa false
namespace Go.Proofs.YtfnapkfdocabcaaGreat
open Go.ChangeShapes Go.WideShapes Go.ChangeAt Go.RowKit Go.Joins Go.Xt
/-! The arguments of WitnessAlone opened: operations, and the struct Other. -/
def KO : List Leaf := [Leaf.int .u8, Leaf.int .u64, Leaf.int .u64, Leaf.int .u64, Leaf.int .u64, Leaf.int .u64, Leaf.int .u64]
/-- The operations of a slice that came in. -/
theorem ops_of {W : World} {A : Option Addr} {len : Nat} {L : List (List Value)} (hn : L.length = len) (hall : ∀ cs ∈ L, All2 KO cs)
    (hrd : 0 < len → ∃ b o, A = some ⟨b, o, none⟩ ∧ b < W.heap.size ∧ ∀ i cs, L[i]? = some cs → ∀ j u, cs[j]? = some u → W.cell? ⟨b, o + (i * KO.length + j), none⟩ = some u) : ∃ l, Ops W A len l ∧ ∀ y ∈ l, y.Wf := by
  have one : ∀ cs ∈ L, ∃ x : Ox, cs = ocells x ∧ x.Wf := by
    intro cs hcs
    obtain ⟨_, _, rfl, ⟨k, rfl, w1⟩, h1⟩ := All2.cons (hall cs hcs)
    obtain ⟨_, _, rfl, ⟨a, rfl, w2⟩, h2⟩ := All2.cons h1
    obtain ⟨_, _, rfl, ⟨b, rfl, w3⟩, h3⟩ := All2.cons h2
    obtain ⟨_, _, rfl, ⟨c, rfl, w4⟩, h4⟩ := All2.cons h3
    obtain ⟨_, _, rfl, ⟨d, rfl, w5⟩, h5⟩ := All2.cons h4
    obtain ⟨_, _, rfl, ⟨e, rfl, w6⟩, h6⟩ := All2.cons h5
    obtain ⟨_, _, rfl, ⟨f, rfl, w7⟩, h7⟩ := All2.cons h6
    obtain rfl := All2.nil h7
    exact ⟨⟨k, a, b, c, d, e, f⟩, rfl, ⟨WfU8 w1, WfU64 w2, WfU64 w3, WfU64 w4, WfU64 w5, WfU64 w6, WfU64 w7⟩⟩
  have pick : ∀ cs : List Value, ∃ x : Ox, cs ∈ L → cs = ocells x ∧ x.Wf := fun cs => by
    by_cases h : cs ∈ L
    · obtain ⟨x, hx⟩ := one cs h; exact ⟨x, fun _ => hx⟩
    · exact ⟨⟨0, 0, 0, 0, 0, 0, 0⟩, fun h' => absurd h' h⟩
  refine ⟨L.map fun cs => Classical.choose (pick cs), ⟨by simpa using hn, fun hp => ?_⟩, fun s hs => ?_⟩
  · obtain ⟨b, o, rfl, hb, hc⟩ := hrd hp
    refine ⟨b, o, rfl, hb, fun i x hx => ?_⟩
    rw [List.getElem?_map] at hx
    cases hL : L[i]? with
    | none => rw [hL] at hx; cases hx
    | some cs =>
      rw [hL] at hx
      have hx : Classical.choose (pick cs) = x := by injection hx
      have h1 : cs = ocells x ∧ x.Wf := hx ▸ Classical.choose_spec (pick cs) (List.mem_of_getElem? hL)
      intro j v hv
      rw [← h1.1] at hv
      have := hc i cs hL j v hv
      rw [show KO.length = 7 from rfl] at this
      rw [show o + i * 7 + j = o + (i * 7 + j) by omega]; exact this
  · obtain ⟨cs, hcs, rfl⟩ := List.mem_map.1 hs
    exact (Classical.choose_spec (pick cs) hcs).2
section
variable {H : Type} {enc : TypeId × Value → H} {w : World} {base : Nat} {held : Bool}
theorem cSlI : Tryz.prog.cellsOf 29 = 1 := by kernel_rfl
theorem cRes5 : Tryz.prog.cellsOf 33 = 5 := by kernel_rfl
theorem cBool : Tryz.prog.cellsOf 4 = 1 := by kernel_rfl
theorem cErrno : Tryz.prog.cellsOf 30 = 1 := by kernel_rfl
theorem cOther : Tryz.prog.cellsOf 35 = 7 := by kernel_rfl
set_option maxRecDepth 100000 in
theorem open_other {v : Value} {d : DataW H} {p : List MemPlace} {r : Reach} {b0 : Nat} (hv : Value.okWide Tryz.prog w r b0 35 v) (h : DataW.Trod enc Tryz.prog w base (fun _ => true) held 35 v d p) :
    ∃ (Aw : Option Addr) (nw cw : Nat) (who : List Int) (wh : Int) (r : Rs), v = .agg #[.slice Aw nw cw, .int .i64 wh, .int .i64 r.err, .bool r.fd, .int .u64 r.key, .int .u64 r.val, .int .i64 r.cnt] ∧ Is w Aw nw who ∧ (0 ≤ r.key ∧ r.key < 18446744073709551616) := by
  obtain ⟨cs, rfl, _⟩ := okWide_struct Tryz.underlying35 hv
  obtain ⟨fuel, hf⟩ := h
  have hf : DataW.trod enc Tryz.prog w base (fun _ => true) held fuel 35 cs.toList = some (d, p) := by simpa [Value.cells] using hf
  obtain ⟨xs, m, -, -, hl, hxl, hfi⟩ := DataW.trod_struct Tryz.underlying35 hf
  rw [cOther] at hl
  obtain ⟨v0, v1, v2, v3, v4, v5, v6, hL⟩ : ∃ v0 v1 v2 v3 v4 v5 v6, cs.toList = [v0, v1, v2, v3, v4, v5, v6] := by
    match cs.toList, hl with
    | [v0, v1, v2, v3, v4, v5, v6], _ => exact ⟨v0, v1, v2, v3, v4, v5, v6, rfl⟩
  have hcs : cs = #[v0, v1, v2, v3, v4, v5, v6] := by cases cs; simp at hL; rw [hL]
  have hxl : xs.length = 3 := hxl
  have g0 : DataW.trod enc Tryz.prog w base (fun _ => true) held m 29 ((cs.toList.drop 0).take (Tryz.prog.cellsOf 29)) = xs[0]? := hfi 0 _ rfl
  have g1 : DataW.trod enc Tryz.prog w base (fun _ => true) held m 3 ((cs.toList.drop 1).take (Tryz.prog.cellsOf 3)) = xs[1]? := hfi 1 _ rfl
  have g2 : DataW.trod enc Tryz.prog w base (fun _ => true) held m 33 ((cs.toList.drop 2).take (Tryz.prog.cellsOf 33)) = xs[2]? := hfi 2 _ rfl
  simp only [hL, cInt, cSlI, cRes5, List.drop_zero, List.drop_succ_cons, List.take_succ_cons, List.take_zero] at g0 g1 g2
  obtain ⟨wh, rfl, -⟩ := int_of Tryz.underlying3 g1 (some_of hxl (by decide))
  obtain ⟨x2, hx2⟩ := Option.isSome_iff_exists.1 (some_of (i := 2) hxl (by decide))
  rw [hx2] at g2
  obtain ⟨L2, hL2⟩ : ∃ L2, L2 = [v2, v3, v4, v5, v6] := ⟨_, rfl⟩
  rw [← hL2] at g2
  obtain ⟨ys, m2, -, -, -, hyl, hyi⟩ := DataW.trod_struct Tryz.underlying33 g2
  have hyl : ys.length = 5 := hyl
  have e0 : DataW.trod enc Tryz.prog w base (fun _ => true) held m2 30 ((L2.drop 0).take (Tryz.prog.cellsOf 30)) = ys[0]? := hyi 0 _ rfl
  have e1 : DataW.trod enc Tryz.prog w base (fun _ => true) held m2 4 ((L2.drop 1).take (Tryz.prog.cellsOf 4)) = ys[1]? := hyi 1 _ rfl
  have e2 : DataW.trod enc Tryz.prog w base (fun _ => true) held m2 31 ((L2.drop 2).take (Tryz.prog.cellsOf 31)) = ys[2]? := hyi 2 _ rfl
  have e3 : DataW.trod enc Tryz.prog w base (fun _ => true) held m2 31 ((L2.drop 3).take (Tryz.prog.cellsOf 31)) = ys[3]? := hyi 3 _ rfl
  have e4 : DataW.trod enc Tryz.prog w base (fun _ => true) held m2 3 ((L2.drop 4).take (Tryz.prog.cellsOf 3)) = ys[4]? := hyi 4 _ rfl
  simp only [hL2, cInt, cBool, cErrno, cU64, List.drop_zero, List.drop_succ_cons, List.take_succ_cons, List.take_zero] at e0 e1 e2 e3 e4
  obtain ⟨er, rfl, -⟩ := int_of Tryz.underlying30 e0 (some_of hyl (by decide))
  obtain ⟨ke, rfl, wke⟩ := int_of Tryz.underlying31 e2 (some_of hyl (by decide))
  obtain ⟨va, rfl, -⟩ := int_of Tryz.underlying31 e3 (some_of hyl (by decide))
  obtain ⟨cn, rfl, -⟩ := int_of Tryz.underlying3 e4 (some_of hyl (by decide))
  obtain ⟨y1, hy1⟩ := Option.isSome_iff_exists.1 (some_of (i := 1) hyl (by decide))
  rw [hy1] at e1
  obtain ⟨fd, hfd, _⟩ := DataW.trod_bool Tryz.underlying4 e1
  simp only [List.cons.injEq, and_true] at hfd
  subst hfd
  obtain ⟨z0, hz0⟩ := Option.isSome_iff_exists.1 (some_of (i := 0) hxl (by decide))
  rw [hz0] at g0
  rcases Deep.open_slice1 Tryz.underlying29 cInt g0 with ⟨hcs6, _⟩ | ⟨a, len, cap, mm, k, V, D, Pl, hcs6, _, hlc, hcm, hmm, _, hi⟩
  · simp only [List.cons.injEq, and_true] at hcs6
    subst hcs6
    exact ⟨none, 0, 0, [], wh, ⟨er, fd, ke, va, cn⟩, by rw [hcs], ⟨rfl, fun h => absurd h (by simp)⟩, WfU64 wke⟩
  · simp only [List.cons.injEq, and_true] at hcs6
    subst hcs6
    simp only [if_true] at hmm
    have get : ∀ i, i < len → ∃ n : Int, w.cell? (a.add i) = some (.int .i64 n) := fun i hil => by
      obtain ⟨h1, h2⟩ := hi i (by omega)
      obtain ⟨n, h3, hw⟩ := int_of Tryz.underlying3 h2 rfl
      exact ⟨n, by rw [h1, h3]⟩
    let who := (List.range len).map fun i => if h : i < len then Classical.choose (get i h) else 0
    have hcut : ∀ i (hil : i < len), who[i]? = some (Classical.choose (get i hil)) := by
      intro i hil
      simp only [who, List.getElem?_map, List.getElem?_range hil, Option.map_some, dif_pos hil]
    have hcl : who.length = len := by simp [who]
    refine ⟨some a, len, cap, who, wh, ⟨er, fd, ke, va, cn⟩, by rw [hcs], ⟨hcl, fun h0 => ?_⟩, WfU64 wke⟩
    have h00 := Classical.choose_spec (get 0 (by omega))
    have hsp : a.spot = none := by
      have := spot_of_cell h00
      rwa [add_zero] at this
    have hb := World.block_lt_of_cell? w _ h00
    rw [add_block] at hb
    refine ⟨a.block, a.off, by cases a; simp at hsp; subst hsp; rfl, hb, fun j u hu => ?_⟩
    have hj : j < len := by have := (List.getElem?_eq_some_iff.1 hu).1; omega
    have h1 := (congrArg w.cell? (add_spot hsp)).symm.trans (Classical.choose_spec (get j hj))
    rw [hcut j hj] at hu
    injection hu with hu
    rw [← hu]
    exact h1
end
end Go.Proofs.YtfnapkfdocabcaaGreat
