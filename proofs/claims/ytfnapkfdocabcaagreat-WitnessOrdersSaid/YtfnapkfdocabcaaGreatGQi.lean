import Derived.Test.YtfnapkfdocabcaaGreatGQh
set_option linter.unusedVariables false
set_option linter.unusedSimpArgs false
set_option linter.unnecessarySimpa false
namespace Go.Proofs.YtfnapkfdocabcaaGreat
open Go.RowKit Go.Xt
/-! The model's methods at any state: scan, seek, next. -/
theorem keys_agg (k a b c d e f : Int) (w : World) : Calls Tryz.prog 99 #[op7 k a b c d e f] w fun e w' => e = .returned (.agg #[.int .u64 a, .int .u64 b]) ∧ Nw w w' := keys_any k a b c d e f w
set_option maxRecDepth 20000 in
set_option maxHeartbeats 8000000 in
theorem m_seek (w : World) (p : Pl) (s : Md) (h : MAt w p s) (t : Nat) (x : Th) (ht : s.th[t]? = some x) (a b c d e f : Int) :
    Calls Tryz.prog 67 #[.pointer (some ⟨p.gm, 0, none⟩), .int .i64 t, op7 13 a b c d e f] w fun q w' => q = .returned (resV ⟨0, false, 0, 0, 0⟩) ∧ ∃ p', MUp w p { s with th := s.th.set t (x.from_ a) } p' w' := by
  obtain ⟨gm, gt, gp, v⟩ := p
  obtain ⟨p0, _⟩ := List.getElem?_eq_some_iff.1 ht
  obtain ⟨c0, c1, c2, c3, c4⟩ := ThR.cells (gt := gt) h.th ht
  have m1 : w.cell? ⟨gm, 1, none⟩ = some (.pointer (some ⟨gp, 0, none⟩)) := h.m1
  obtain ⟨ct, m2⟩ : ∃ ct, w.cell? ⟨gm, 2, none⟩ = some (.slice (some ⟨gt, 0, none⟩) s.th.length ct) := h.m2
  have z0 : w.frozen? ⟨gt, t * 5, none⟩ = false := ThR.frozen h.th _
  have z1 : w.frozen? ⟨gt, t * 5 + 1, none⟩ = false := ThR.frozen h.th _
  have z2 : w.frozen? ⟨gt, t * 5 + 2, none⟩ = false := ThR.frozen h.th _
  have z3 : w.frozen? ⟨gt, t * 5 + 3, none⟩ = false := ThR.frozen h.th _
  have it : gt < w.heap.size := h.it
  haveI : In gm w := ⟨h.im⟩
  haveI : In gt w := ⟨h.it⟩
  have H := Lib.hid h
  have HT := Lib.hid ht
  have HTH := Lib.hid (h.th : ThR w gt s.th)
  have HLEN := Lib.hid (fun y : Th => (List.length_set .. : (s.th.set t y).length = s.th.length))
  obtain ⟨n, hn⟩ : ∃ n, n = s.th.length := ⟨_, rfl⟩
  rw [← hn] at m2 p0
  have t0 : (0 : Int) ≤ (t : Int) := by omega
  have t1 : (t : Int) < (n : Int) := by omega
  unfold resV
  simp only
  have HS := Lib.hid (fun W (hw : Nw w W) => from_any W gt s.th (ThR.nw h.th hw) t x ht a)
  obtain ⟨W2, hW2⟩ : ∃ W2, W2 = (w.alloc (.cells #[.int .u8 13, .int .u64 a, .int .u64 b, .int .u64 c, .int .u64 d, .int .u64 e, .int .u64 f] 43)).alloc (.cells #[.int .i64 0, .bool false, .int .u64 0, .int .u64 0, .int .i64 0] 33) := ⟨_, rfl⟩
  have hn2 : Nw w W2 := by rw [hW2]; exact (by repeat (first | exact Xt.Nw.refl _ | refine Xt.Nw.drew ?_ | refine Xt.Nw.drewN ?_ _ | refine Xt.Nw.alloc ?_ _ | refine Xt.Nw.joined ?_ | refine Xt.Nw.drewd ?_ | refine Xt.Nw.drewdN ?_ | refine Xt.Nw.ext ?_ | refine Xt.Nw.ext_some ?_ (by assumption) | refine Xt.Nw.setCell ?_ (by simp [go_sem] <;> omega) _))
  have hf2 : Fr w W2 ⟨13, a, b, c, d, e, f⟩ := by rw [hW2]; exact Fr.made w 13 a b c d e f
  have HF2 := Lib.hid hf2
  obtain ⟨hs2, q0, q1, q2, q3, q4, q5, q6, -⟩ := hf2
  have HN2 := Lib.hid hn2
  have HW2 := Lib.hid hW2
  have HS2 := Lib.hid hs2
  simp only at q0 q1 q2 q3 q4 q5 q6
  replace m2 := cell_nw m2 hn2
  have hxm : gm ∉ [gt] := by have := h.nmt; simp at this ⊢; omega
  have hxb : w.heap.size ∉ [gt] := by simp; omega
  clear h ht hn hn2 hW2 hs2
  go_enter Tryz.func67, Tryz.ntmps67
  go_upto_region 1 with (fail)
  rw [← HW2.out]
  go_region_held3 (fun w' => w'.cell? ⟨gm, 2, none⟩ = some (.slice (some ⟨gt, 0, none⟩) n ct) ∧ w'.cell? ⟨w.heap.size, 1, none⟩ = some (.int .u64 a)) (first | exact ⟨m2, q1⟩ | exact ⟨hch.cell m2 hxm, hch.cell q1 hxb⟩)
    ((first | (go_at_call 77; refine (HS.out W2.drew (Nw.drew HN2.out)).mono ?_; rintro r W3 ⟨rfl, hth, hch⟩)))
  have hmu := MUp.ths (H.out.nw (Nw.drew HN2.out)) (HLEN.out _) hth hch
  obtain ⟨hs4, -, -, -, -, -, -, -, r0, r1, r2, r3, r4, y0, y1, y2, y3, y4⟩ := (HF2.out.nw (Nw.drew (Nw.refl W2))).foot H.out hmu.chg
  have HU := Lib.hid hmu
  clear hch hth hmu hs4
  go_wp2
  refine bodyPost_ret (v := res5 0 false 0 0 0) ?_ rfl ⟨rfl, _, MUp.res (Nw.drew HN2.out) (Nat.le_succ _) HS2.out H.out HU.out ⟨0, false, 0, 0, 0⟩⟩
  simp [results, Tryz.results67, go_sem, r0, r1, r2, r3, r4]
set_option maxRecDepth 20000 in
set_option maxHeartbeats 8000000 in
theorem m_scan (w : World) (p : Pl) (s : Md) (h : MAt w p s) (t : Nat) (x : Th) (ht : s.th[t]? = some x) (a b c d e f : Int) :
    Calls Tryz.prog 65 #[.pointer (some ⟨p.gm, 0, none⟩), .int .i64 t, op7 11 a b c d e f] w fun q w' => q = .returned (resV ⟨0, false, 0, 0, 0⟩) ∧ ∃ p', MUp w p { s with th := s.th.set t ⟨true, true, a, b, x.se⟩ } p' w' := by
  obtain ⟨gm, gt, gp, v⟩ := p
  obtain ⟨p0, _⟩ := List.getElem?_eq_some_iff.1 ht
  obtain ⟨c0, c1, c2, c3, c4⟩ := ThR.cells (gt := gt) h.th ht
  have m1 : w.cell? ⟨gm, 1, none⟩ = some (.pointer (some ⟨gp, 0, none⟩)) := h.m1
  obtain ⟨ct, m2⟩ : ∃ ct, w.cell? ⟨gm, 2, none⟩ = some (.slice (some ⟨gt, 0, none⟩) s.th.length ct) := h.m2
  have z0 : w.frozen? ⟨gt, t * 5, none⟩ = false := ThR.frozen h.th _
  have z1 : w.frozen? ⟨gt, t * 5 + 1, none⟩ = false := ThR.frozen h.th _
  have z2 : w.frozen? ⟨gt, t * 5 + 2, none⟩ = false := ThR.frozen h.th _
  have z3 : w.frozen? ⟨gt, t * 5 + 3, none⟩ = false := ThR.frozen h.th _
  have it : gt < w.heap.size := h.it
  haveI : In gm w := ⟨h.im⟩
  haveI : In gt w := ⟨h.it⟩
  have H := Lib.hid h
  have HT := Lib.hid ht
  have HTH := Lib.hid (h.th : ThR w gt s.th)
  have HLEN := Lib.hid (fun y : Th => (List.length_set .. : (s.th.set t y).length = s.th.length))
  obtain ⟨n, hn⟩ : ∃ n, n = s.th.length := ⟨_, rfl⟩
  rw [← hn] at m2 p0
  have t0 : (0 : Int) ≤ (t : Int) := by omega
  have t1 : (t : Int) < (n : Int) := by omega
  unfold resV
  simp only
  obtain ⟨W2, hW2⟩ : ∃ W2, W2 = (w.alloc (.cells #[.int .u8 11, .int .u64 a, .int .u64 b, .int .u64 c, .int .u64 d, .int .u64 e, .int .u64 f] 43)).alloc (.cells #[.int .i64 0, .bool false, .int .u64 0, .int .u64 0, .int .i64 0] 33) := ⟨_, rfl⟩
  have hn2 : Nw w W2 := by rw [hW2]; exact (by repeat (first | exact Xt.Nw.refl _ | refine Xt.Nw.drew ?_ | refine Xt.Nw.drewN ?_ _ | refine Xt.Nw.alloc ?_ _ | refine Xt.Nw.joined ?_ | refine Xt.Nw.drewd ?_ | refine Xt.Nw.drewdN ?_ | refine Xt.Nw.ext ?_ | refine Xt.Nw.ext_some ?_ (by assumption) | refine Xt.Nw.setCell ?_ (by simp [go_sem] <;> omega) _))
  have hf2 : Fr w W2 ⟨11, a, b, c, d, e, f⟩ := by rw [hW2]; exact Fr.made w 11 a b c d e f
  have HF2 := Lib.hid hf2
  obtain ⟨hs2, q0, q1, q2, q3, q4, q5, q6, -⟩ := hf2
  have HN2 := Lib.hid hn2
  have HW2 := Lib.hid hW2
  have HS2 := Lib.hid hs2
  simp only at q0 q1 q2 q3 q4 q5 q6
  replace m2 := cell_nw m2 hn2
  have hxm : gm ∉ [gt] := by have := h.nmt; simp at this ⊢; omega
  have hxb : w.heap.size ∉ [gt] := by simp; omega
  clear h ht hn hW2 hs2
  replace c0 := cell_nw c0 hn2
  replace c1 := cell_nw c1 hn2
  replace c2 := cell_nw c2 hn2
  replace c3 := cell_nw c3 hn2
  replace z0 := (frozen_nw it hn2).trans z0
  replace z1 := (frozen_nw it hn2).trans z1
  replace z2 := (frozen_nw it hn2).trans z2
  replace z3 := (frozen_nw it hn2).trans z3
  have it2 : gt < W2.heap.size := Nat.lt_of_lt_of_le it hn2.grown.size
  clear hn2
  go_enter Tryz.func65, Tryz.ntmps65
  go_upto_region 1 with (fail)
  rw [← HW2.out]
  go_region_held3 (fun w' => w'.cell? ⟨gm, 2, none⟩ = some (.slice (some ⟨gt, 0, none⟩) n ct) ∧ w'.cell? ⟨w.heap.size, 0, none⟩ = some (.int .u8 11) ∧ w'.cell? ⟨w.heap.size, 1, none⟩ = some (.int .u64 a) ∧ w'.cell? ⟨w.heap.size, 2, none⟩ = some (.int .u64 b) ∧ w'.cell? ⟨w.heap.size, 3, none⟩ = some (.int .u64 c) ∧ w'.cell? ⟨w.heap.size, 4, none⟩ = some (.int .u64 d) ∧ w'.cell? ⟨w.heap.size, 5, none⟩ = some (.int .u64 e) ∧ w'.cell? ⟨w.heap.size, 6, none⟩ = some (.int .u64 f)) (first | exact ⟨m2, q0, q1, q2, q3, q4, q5, q6⟩ | exact ⟨cell_nw m2 hnk, cell_nw q0 hnk, cell_nw q1 hnk, cell_nw q2 hnk, cell_nw q3 hnk, cell_nw q4 hnk, cell_nw q5 hnk, cell_nw q6 hnk⟩ | exact ⟨((((Chg.set1 Wk gt _ _).set2 _ _).set2 _ _).set2 _ _).cell (cell_nw m2 hnk) hxm, ((((Chg.set1 Wk gt _ _).set2 _ _).set2 _ _).set2 _ _).cell (cell_nw q0 hnk) hxb, ((((Chg.set1 Wk gt _ _).set2 _ _).set2 _ _).set2 _ _).cell (cell_nw q1 hnk) hxb, ((((Chg.set1 Wk gt _ _).set2 _ _).set2 _ _).set2 _ _).cell (cell_nw q2 hnk) hxb, ((((Chg.set1 Wk gt _ _).set2 _ _).set2 _ _).set2 _ _).cell (cell_nw q3 hnk) hxb, ((((Chg.set1 Wk gt _ _).set2 _ _).set2 _ _).set2 _ _).cell (cell_nw q4 hnk) hxb, ((((Chg.set1 Wk gt _ _).set2 _ _).set2 _ _).set2 _ _).cell (cell_nw q5 hnk) hxb, ((((Chg.set1 Wk gt _ _).set2 _ _).set2 _ _).set2 _ _).cell (cell_nw q6 hnk) hxb⟩)
    ((first | (go_at_call 99; refine (keys_agg _ _ _ _ _ _ _ _).mono ?_; rintro r Wk ⟨rfl, hnk0⟩; have hnk : Nw W2 Wk := (Nw.drew (Nw.refl W2)).trans hnk0; have d0 := cell_nw c0 hnk; have d1 := cell_nw c1 hnk; have d2 := cell_nw c2 hnk; have d3 := cell_nw c3 hnk; have y0 := (frozen_nw it2 hnk).trans z0; have y1 := (frozen_nw it2 hnk).trans z1; have y2 := (frozen_nw it2 hnk).trans z2; have y3 := (frozen_nw it2 hnk).trans z3)))
  rename_i hHeld
  clear hHeld
  have hth := ThR.it4 (HTH.out.nw (HN2.out.trans hnk)) HT.out true true a b
  have hch : Chg [gt] Wk _ := ((((Chg.set1 Wk gt (t * 5) (.bool true)).set2 (t * 5 + 1) (.bool true)).set2 (t * 5 + 2) (.int .u64 a)).set2 (t * 5 + 3) (.int .u64 b))
  obtain ⟨W3, hW3⟩ : ∃ W3, W3 = ((((Wk.setCell ⟨gt, t * 5, none⟩ (.bool true)).setCell ⟨gt, t * 5 + 1, none⟩ (.bool true)).setCell ⟨gt, t * 5 + 2, none⟩ (.int .u64 a)).setCell ⟨gt, t * 5 + 3, none⟩ (.int .u64 b)) := ⟨_, rfl⟩
  rw [← hW3] at hth hch ⊢
  have hmu := MUp.ths (H.out.nw (HN2.out.trans hnk)) (HLEN.out _) hth hch
  obtain ⟨hs4, -, -, -, -, -, -, -, r0, r1, r2, r3, r4, w0, w1, w2, w3, w4⟩ := (HF2.out.nw hnk).foot H.out hmu.chg
  have HU := Lib.hid hmu
  have HNK := Lib.hid hnk
  clear hch hth hmu hs4 hW3 hnk hnk0 d0 d1 d2 d3 y0 y1 y2 y3
  go_wp2
  refine bodyPost_ret (v := res5 0 false 0 0 0) ?_ rfl ⟨rfl, _, MUp.res (HN2.out.trans HNK.out) (Nat.le_succ _) (Nat.lt_of_lt_of_le HS2.out HNK.out.grown.size) H.out HU.out ⟨0, false, 0, 0, 0⟩⟩
  simp [results, Tryz.results65, go_sem, r0, r1, r2, r3, r4]
set_option maxRecDepth 20000 in
set_option maxHeartbeats 8000000 in
theorem m_next0 (w : World) (p : Pl) (s : Md) (h : MAt w p s) (t : Nat) (x : Th) (ht : s.th[t]? = some x) (a b c d e f : Int) (hl : s.l.length ≤ 500000) (hlx : x.lo ≤ x.hi) (hx : nextL x.lo x.hi s.l = none) :
    Calls Tryz.prog 66 #[.pointer (some ⟨p.gm, 0, none⟩), .int .i64 t, op7 12 a b c d e f] w fun q w' => q = .returned (resV ⟨14, false, 0, 0, 0⟩) ∧ ∃ p', MUp w p { s with th := s.th.set t x.fin } p' w' := by
  obtain ⟨gm, gt, gp, v⟩ := p
  obtain ⟨p0, _⟩ := List.getElem?_eq_some_iff.1 ht
  obtain ⟨c0, c1, c2, c3, c4⟩ := ThR.cells (gt := gt) h.th ht
  have m1 : w.cell? ⟨gm, 1, none⟩ = some (.pointer (some ⟨gp, 0, none⟩)) := h.m1
  obtain ⟨ct, m2⟩ : ∃ ct, w.cell? ⟨gm, 2, none⟩ = some (.slice (some ⟨gt, 0, none⟩) s.th.length ct) := h.m2
  have z0 : w.frozen? ⟨gt, t * 5, none⟩ = false := ThR.frozen h.th _
  have z1 : w.frozen? ⟨gt, t * 5 + 1, none⟩ = false := ThR.frozen h.th _
  have z2 : w.frozen? ⟨gt, t * 5 + 2, none⟩ = false := ThR.frozen h.th _
  have z3 : w.frozen? ⟨gt, t * 5 + 3, none⟩ = false := ThR.frozen h.th _
  have it : gt < w.heap.size := h.it
  haveI : In gm w := ⟨h.im⟩
  haveI : In gt w := ⟨h.it⟩
  have H := Lib.hid h
  have HT := Lib.hid ht
  have HTH := Lib.hid (h.th : ThR w gt s.th)
  have HLEN := Lib.hid (fun y : Th => (List.length_set .. : (s.th.set t y).length = s.th.length))
  obtain ⟨n, hn⟩ : ∃ n, n = s.th.length := ⟨_, rfl⟩
  rw [← hn] at m2 p0
  have t0 : (0 : Int) ≤ (t : Int) := by omega
  have t1 : (t : Int) < (n : Int) := by omega
  unfold resV
  simp only
  have HS := Lib.hid (fun W (hw : Nw w W) => next_none ((h.nw hw).om : OM W gp v s.l) (by omega) x.lo x.hi hlx hx)
  unfold spV at HS
  obtain ⟨W2, hW2⟩ : ∃ W2, W2 = (w.alloc (.cells #[.int .u8 12, .int .u64 a, .int .u64 b, .int .u64 c, .int .u64 d, .int .u64 e, .int .u64 f] 43)).alloc (.cells #[.int .i64 0, .bool false, .int .u64 0, .int .u64 0, .int .i64 0] 33) := ⟨_, rfl⟩
  have hn2 : Nw w W2 := by rw [hW2]; exact (by repeat (first | exact Xt.Nw.refl _ | refine Xt.Nw.drew ?_ | refine Xt.Nw.drewN ?_ _ | refine Xt.Nw.alloc ?_ _ | refine Xt.Nw.joined ?_ | refine Xt.Nw.drewd ?_ | refine Xt.Nw.drewdN ?_ | refine Xt.Nw.ext ?_ | refine Xt.Nw.ext_some ?_ (by assumption) | refine Xt.Nw.setCell ?_ (by simp [go_sem] <;> omega) _))
  have hf2 : Fr w W2 ⟨12, a, b, c, d, e, f⟩ := by rw [hW2]; exact Fr.made w 12 a b c d e f
  have HF2 := Lib.hid hf2
  obtain ⟨hs2, q0, q1, q2, q3, q4, q5, q6, -⟩ := hf2
  have HN2 := Lib.hid hn2
  have HW2 := Lib.hid hW2
  have HS2 := Lib.hid hs2
  simp only at q0 q1 q2 q3 q4 q5 q6
  replace m1 := cell_nw m1 hn2
  replace m2 := cell_nw m2 hn2
  replace c2 := cell_nw c2 hn2
  replace c3 := cell_nw c3 hn2
  have HLX := Lib.hid hlx
  clear h ht hn hW2 hs2 hn2 c0 c1 c4 z0 z1 z2 z3 hx hl hlx
  haveI : In gm W2 := ⟨World.block_lt_of_cell? W2 _ m1⟩
  haveI : In gt W2 := ⟨World.block_lt_of_cell? W2 _ c2⟩
  have HA := Lib.hid (show (W2.alloc (.cells #[.int .u64 0, .int .u64 0] 80)).drew.cell? ⟨W2.heap.size, 0, none⟩ = some (.int .u64 0) ∧ (W2.alloc (.cells #[.int .u64 0, .int .u64 0] 80)).drew.cell? ⟨W2.heap.size, 1, none⟩ = some (.int .u64 0) ∧ (W2.alloc (.cells #[.int .u64 0, .int .u64 0] 80)).drew.frozen? ⟨W2.heap.size, 0, none⟩ = false ∧ (W2.alloc (.cells #[.int .u64 0, .int .u64 0] 80)).drew.frozen? ⟨W2.heap.size, 1, none⟩ = false ∧ W2.heap.size < (W2.alloc (.cells #[.int .u64 0, .int .u64 0] 80)).drew.heap.size from ⟨by simp [go_sem], by simp [go_sem], by simp [go_sem], by simp [go_sem], by simp⟩)
  go_enter Tryz.func66, Tryz.ntmps66
  go_upto_region 1 with (fail)
  rw [← HW2.out]
  go_upto_region 2 with (fail)
  go_region_held3 (fun w' => w'.cell? ⟨gm, 1, none⟩ = some (.pointer (some ⟨gp, 0, none⟩)) ∧ w'.cell? ⟨gt, t * 5 + 2, none⟩ = some (.int .u64 x.lo) ∧ w'.cell? ⟨gt, t * 5 + 2 + 1, none⟩ = some (.int .u64 x.hi)) (first | exact ⟨m1, c2, c3⟩ | exact ⟨cell_nw m1 hnk, cell_nw c2 hnk, cell_nw c3 hnk⟩ | exact ⟨cell_nw m1 (Xt.Nw.alloc hnk _), cell_nw c2 (Xt.Nw.alloc hnk _), cell_nw c3 (Xt.Nw.alloc hnk _)⟩ | exact ⟨cell_nw m1 (Xt.Nw.setCell (Xt.Nw.setCell hnk (Nat.le_refl _) _) (Nat.le_refl _) _), cell_nw c2 (Xt.Nw.setCell (Xt.Nw.setCell hnk (Nat.le_refl _) _) (Nat.le_refl _) _), cell_nw c3 (Xt.Nw.setCell (Xt.Nw.setCell hnk (Nat.le_refl _) _) (Nat.le_refl _) _)⟩ | exact ⟨cell_nw m1 (Xt.Nw.alloc (Nw.refl W2) _), cell_nw c2 (Xt.Nw.alloc (Nw.refl W2) _), cell_nw c3 (Xt.Nw.alloc (Nw.refl W2) _)⟩ | exact ⟨cell_nw m1 (Xt.Nw.drew (Xt.Nw.alloc (Nw.refl W2) _)), cell_nw c2 (Xt.Nw.drew (Xt.Nw.alloc (Nw.refl W2) _)), cell_nw c3 (Xt.Nw.drew (Xt.Nw.alloc (Nw.refl W2) _))⟩)
    ((first | (go_at_call 102; refine (HS.out W2.drew (Nw.drew HN2.out)).mono ?_; rintro r Wk ⟨rfl, hnk0⟩; have hnk : Nw W2 Wk := (Nw.drew (Nw.refl W2)).trans hnk0) | (go_at_call 102; refine (HS.out ((W2.alloc (.cells #[.int .u64 0, .int .u64 0] 80)).drew) (Nw.drew (Nw.alloc HN2.out _))).mono ?_; rintro r Wk ⟨rfl, hnk0⟩; have hnk : Nw W2 Wk := (Nw.drew (Nw.alloc (Nw.refl W2) _)).trans hnk0; have g0 := cell_nw HA.out.1 hnk0; have g1 := cell_nw HA.out.2.1 hnk0; have g2 := (frozen_nw HA.out.2.2.2.2 hnk0).trans HA.out.2.2.1; have g3 := (frozen_nw HA.out.2.2.2.2 hnk0).trans HA.out.2.2.2.1)))
  · skip
    rename_i hHeld
    clear hHeld
    obtain ⟨W3, hW3⟩ : ∃ W3, W3 = Wk.alloc (.cells #[.int .u64 0, .int .u64 0] 80) := ⟨_, rfl⟩
    rw [← hW3]
    have hn3 : Nw W2 W3 := by rw [hW3]; exact Xt.Nw.alloc hnk _
    obtain ⟨g, hg⟩ : ∃ g, g = Wk.heap.size := ⟨_, rfl⟩
    rw [← hg]
    have hgs := hnk.grown.size
    have hs2 := HS2.out
    have hxg : g ∉ [gt] := by simp; omega
    have e0 : W3.cell? ⟨g, 0, none⟩ = some (.int .u64 0) := by rw [hW3, hg]; simp [go_sem]
    have e1 : W3.cell? ⟨g, 1, none⟩ = some (.int .u64 0) := by rw [hW3, hg]; simp [go_sem]
    have HN3 := Lib.hid hn3
    clear hgs hW3 hg hnk hnk0 hs2
    clear e0 e1
    go_wp2_with fail
    refine (end_any W3 gt s.th (HTH.out.nw (HN2.out.trans hn3)) t x HT.out).mono ?_
    rintro r W4 ⟨rfl, hth, hch⟩
    have hmu := MUp.ths (H.out.nw (HN2.out.trans hn3)) (HLEN.out _) hth hch
    obtain ⟨hs4, -, -, -, -, -, -, -, r0, r1, r2, r3, r4, w0, w1, w2, w3, w4⟩ := (HF2.out.nw hn3).foot H.out hmu.chg
    have HU := Lib.hid hmu
    clear hch hth hmu hs4 hn3
    go_wp2
    refine bodyPost_ret (v := res5 14 false 0 0 0) ?_ rfl ⟨rfl, _, MUp.res (HN2.out.trans HN3.out) (Nat.le_succ _) (Nat.lt_of_lt_of_le HS2.out HN3.out.grown.size) H.out HU.out ⟨14, false, 0, 0, 0⟩⟩
    simp [results, Tryz.results66, go_sem, r0, r1, r2, r3, r4]
  · skip
    rename_i hHeld
    clear hHeld
    obtain ⟨W3, hW3⟩ : ∃ W3, W3 = (Wk.setCell ⟨W2.heap.size, 0, none⟩ (.int .u64 0)).setCell ⟨W2.heap.size, 1, none⟩ (.int .u64 0) := ⟨_, rfl⟩
    rw [← hW3]
    have hn3 : Nw W2 W3 := by rw [hW3]; exact Xt.Nw.setCell (Xt.Nw.setCell hnk (Nat.le_refl _) _) (Nat.le_refl _) _
    obtain ⟨g, hg⟩ : ∃ g, g = W2.heap.size := ⟨_, rfl⟩
    rw [← hg]
    have hgs := hnk.grown.size
    have hs2 := HS2.out
    have hxg : g ∉ [gt] := by simp; omega
    have e0 : W3.cell? ⟨g, 0, none⟩ = some (.int .u64 0) := by rw [hW3, hg]; simp [go_sem, g0, g1]
    have e1 : W3.cell? ⟨g, 1, none⟩ = some (.int .u64 0) := by rw [hW3, hg]; simp [go_sem, g0, g1]
    clear g0 g1 g2 g3
    have HN3 := Lib.hid hn3
    clear hgs hW3 hg hnk hnk0 hs2
    clear e0 e1
    go_wp2_with fail
    refine (end_any W3 gt s.th (HTH.out.nw (HN2.out.trans hn3)) t x HT.out).mono ?_
    rintro r W4 ⟨rfl, hth, hch⟩
    have hmu := MUp.ths (H.out.nw (HN2.out.trans hn3)) (HLEN.out _) hth hch
    obtain ⟨hs4, -, -, -, -, -, -, -, r0, r1, r2, r3, r4, w0, w1, w2, w3, w4⟩ := (HF2.out.nw hn3).foot H.out hmu.chg
    have HU := Lib.hid hmu
    clear hch hth hmu hs4 hn3
    go_wp2
    refine bodyPost_ret (v := res5 14 false 0 0 0) ?_ rfl ⟨rfl, _, MUp.res (HN2.out.trans HN3.out) (Nat.le_succ _) (Nat.lt_of_lt_of_le HS2.out HN3.out.grown.size) H.out HU.out ⟨14, false, 0, 0, 0⟩⟩
    simp [results, Tryz.results66, go_sem, r0, r1, r2, r3, r4]
set_option maxRecDepth 20000 in
set_option maxHeartbeats 8000000 in
theorem m_next1 (w : World) (p : Pl) (s : Md) (h : MAt w p s) (t : Nat) (x : Th) (ht : s.th[t]? = some x) (a b c d e f : Int) (hl : s.l.length ≤ 500000) (hlx : x.lo ≤ x.hi) (k y : Int) (hk : 0 ≤ k ∧ k < 18446744073709551616) (hx : nextL x.lo x.hi s.l = some (k, y)) :
    Calls Tryz.prog 66 #[.pointer (some ⟨p.gm, 0, none⟩), .int .i64 t, op7 12 a b c d e f] w fun q w' => q = .returned (resV ⟨0, true, k, y, 0⟩) ∧ ∃ p', MUp w p { s with th := s.th.set t (x.after k) } p' w' := by
  obtain ⟨gm, gt, gp, v⟩ := p
  obtain ⟨p0, _⟩ := List.getElem?_eq_some_iff.1 ht
  obtain ⟨c0, c1, c2, c3, c4⟩ := ThR.cells (gt := gt) h.th ht
  have m1 : w.cell? ⟨gm, 1, none⟩ = some (.pointer (some ⟨gp, 0, none⟩)) := h.m1
  obtain ⟨ct, m2⟩ : ∃ ct, w.cell? ⟨gm, 2, none⟩ = some (.slice (some ⟨gt, 0, none⟩) s.th.length ct) := h.m2
  have z0 : w.frozen? ⟨gt, t * 5, none⟩ = false := ThR.frozen h.th _
  have z1 : w.frozen? ⟨gt, t * 5 + 1, none⟩ = false := ThR.frozen h.th _
  have z2 : w.frozen? ⟨gt, t * 5 + 2, none⟩ = false := ThR.frozen h.th _
  have z3 : w.frozen? ⟨gt, t * 5 + 3, none⟩ = false := ThR.frozen h.th _
  have it : gt < w.heap.size := h.it
  haveI : In gm w := ⟨h.im⟩
  haveI : In gt w := ⟨h.it⟩
  have H := Lib.hid h
  have HT := Lib.hid ht
  have HTH := Lib.hid (h.th : ThR w gt s.th)
  have HLEN := Lib.hid (fun y : Th => (List.length_set .. : (s.th.set t y).length = s.th.length))
  obtain ⟨n, hn⟩ : ∃ n, n = s.th.length := ⟨_, rfl⟩
  rw [← hn] at m2 p0
  have t0 : (0 : Int) ≤ (t : Int) := by omega
  have t1 : (t : Int) < (n : Int) := by omega
  unfold resV
  simp only
  have HS := Lib.hid (fun W (hw : Nw w W) => next_some ((h.nw hw).om : OM W gp v s.l) (by omega) x.lo x.hi hlx k y hx)
  unfold spV at HS
  obtain ⟨W2, hW2⟩ : ∃ W2, W2 = (w.alloc (.cells #[.int .u8 12, .int .u64 a, .int .u64 b, .int .u64 c, .int .u64 d, .int .u64 e, .int .u64 f] 43)).alloc (.cells #[.int .i64 0, .bool false, .int .u64 0, .int .u64 0, .int .i64 0] 33) := ⟨_, rfl⟩
  have hn2 : Nw w W2 := by rw [hW2]; exact (by repeat (first | exact Xt.Nw.refl _ | refine Xt.Nw.drew ?_ | refine Xt.Nw.drewN ?_ _ | refine Xt.Nw.alloc ?_ _ | refine Xt.Nw.joined ?_ | refine Xt.Nw.drewd ?_ | refine Xt.Nw.drewdN ?_ | refine Xt.Nw.ext ?_ | refine Xt.Nw.ext_some ?_ (by assumption) | refine Xt.Nw.setCell ?_ (by simp [go_sem] <;> omega) _))
  have hf2 : Fr w W2 ⟨12, a, b, c, d, e, f⟩ := by rw [hW2]; exact Fr.made w 12 a b c d e f
  have HF2 := Lib.hid hf2
  obtain ⟨hs2, q0, q1, q2, q3, q4, q5, q6, -⟩ := hf2
  have HN2 := Lib.hid hn2
  have HW2 := Lib.hid hW2
  have HS2 := Lib.hid hs2
  simp only at q0 q1 q2 q3 q4 q5 q6
  replace m1 := cell_nw m1 hn2
  replace m2 := cell_nw m2 hn2
  replace c2 := cell_nw c2 hn2
  replace c3 := cell_nw c3 hn2
  have HLX := Lib.hid hlx
  have HK := Lib.hid hk
  clear hk
  clear h ht hn hW2 hs2 hn2 c0 c1 c4 z0 z1 z2 z3 hx hl hlx
  haveI : In gm W2 := ⟨World.block_lt_of_cell? W2 _ m1⟩
  haveI : In gt W2 := ⟨World.block_lt_of_cell? W2 _ c2⟩
  have HA := Lib.hid (show (W2.alloc (.cells #[.int .u64 0, .int .u64 0] 80)).drew.cell? ⟨W2.heap.size, 0, none⟩ = some (.int .u64 0) ∧ (W2.alloc (.cells #[.int .u64 0, .int .u64 0] 80)).drew.cell? ⟨W2.heap.size, 1, none⟩ = some (.int .u64 0) ∧ (W2.alloc (.cells #[.int .u64 0, .int .u64 0] 80)).drew.frozen? ⟨W2.heap.size, 0, none⟩ = false ∧ (W2.alloc (.cells #[.int .u64 0, .int .u64 0] 80)).drew.frozen? ⟨W2.heap.size, 1, none⟩ = false ∧ W2.heap.size < (W2.alloc (.cells #[.int .u64 0, .int .u64 0] 80)).drew.heap.size from ⟨by simp [go_sem], by simp [go_sem], by simp [go_sem], by simp [go_sem], by simp⟩)
  go_enter Tryz.func66, Tryz.ntmps66
  go_upto_region 1 with (fail)
  rw [← HW2.out]
  go_upto_region 2 with (fail)
  go_region_held3 (fun w' => w'.cell? ⟨gm, 1, none⟩ = some (.pointer (some ⟨gp, 0, none⟩)) ∧ w'.cell? ⟨gt, t * 5 + 2, none⟩ = some (.int .u64 x.lo) ∧ w'.cell? ⟨gt, t * 5 + 2 + 1, none⟩ = some (.int .u64 x.hi)) (first | exact ⟨m1, c2, c3⟩ | exact ⟨cell_nw m1 hnk, cell_nw c2 hnk, cell_nw c3 hnk⟩ | exact ⟨cell_nw m1 (Xt.Nw.alloc hnk _), cell_nw c2 (Xt.Nw.alloc hnk _), cell_nw c3 (Xt.Nw.alloc hnk _)⟩ | exact ⟨cell_nw m1 (Xt.Nw.setCell (Xt.Nw.setCell hnk (Nat.le_refl _) _) (Nat.le_refl _) _), cell_nw c2 (Xt.Nw.setCell (Xt.Nw.setCell hnk (Nat.le_refl _) _) (Nat.le_refl _) _), cell_nw c3 (Xt.Nw.setCell (Xt.Nw.setCell hnk (Nat.le_refl _) _) (Nat.le_refl _) _)⟩ | exact ⟨cell_nw m1 (Xt.Nw.alloc (Nw.refl W2) _), cell_nw c2 (Xt.Nw.alloc (Nw.refl W2) _), cell_nw c3 (Xt.Nw.alloc (Nw.refl W2) _)⟩ | exact ⟨cell_nw m1 (Xt.Nw.drew (Xt.Nw.alloc (Nw.refl W2) _)), cell_nw c2 (Xt.Nw.drew (Xt.Nw.alloc (Nw.refl W2) _)), cell_nw c3 (Xt.Nw.drew (Xt.Nw.alloc (Nw.refl W2) _))⟩)
    ((first | (go_at_call 102; refine (HS.out W2.drew (Nw.drew HN2.out)).mono ?_; rintro r Wk ⟨rfl, hnk0⟩; have hnk : Nw W2 Wk := (Nw.drew (Nw.refl W2)).trans hnk0) | (go_at_call 102; refine (HS.out ((W2.alloc (.cells #[.int .u64 0, .int .u64 0] 80)).drew) (Nw.drew (Nw.alloc HN2.out _))).mono ?_; rintro r Wk ⟨rfl, hnk0⟩; have hnk : Nw W2 Wk := (Nw.drew (Nw.alloc (Nw.refl W2) _)).trans hnk0; have g0 := cell_nw HA.out.1 hnk0; have g1 := cell_nw HA.out.2.1 hnk0; have g2 := (frozen_nw HA.out.2.2.2.2 hnk0).trans HA.out.2.2.1; have g3 := (frozen_nw HA.out.2.2.2.2 hnk0).trans HA.out.2.2.2.1)))
  · skip
    rename_i hHeld
    clear hHeld
    obtain ⟨W3, hW3⟩ : ∃ W3, W3 = Wk.alloc (.cells #[.int .u64 k, .int .u64 y] 80) := ⟨_, rfl⟩
    rw [← hW3]
    have hn3 : Nw W2 W3 := by rw [hW3]; exact Xt.Nw.alloc hnk _
    obtain ⟨g, hg⟩ : ∃ g, g = Wk.heap.size := ⟨_, rfl⟩
    rw [← hg]
    have hgs := hnk.grown.size
    have hs2 := HS2.out
    have hxg : g ∉ [gt] := by simp; omega
    have e0 : W3.cell? ⟨g, 0, none⟩ = some (.int .u64 k) := by rw [hW3, hg]; simp [go_sem]
    have e1 : W3.cell? ⟨g, 1, none⟩ = some (.int .u64 y) := by rw [hW3, hg]; simp [go_sem]
    have HN3 := Lib.hid hn3
    clear hgs hW3 hg hnk hnk0 hs2
    go_upto_region 6 with (fail)
    go_region_held3 (fun w' => w'.cell? ⟨g, 0, none⟩ = some (.int .u64 k)) (first | exact e0 | exact hch.cell e0 hxg)
      ((first | (go_at_call 40; refine (after_any W3.drew gt s.th (HTH.out.nw (Nw.drew (HN2.out.trans hn3))) t x HT.out k HK.out).mono ?_; rintro r W4 ⟨rfl, hth, hch⟩)))
    have hmu := MUp.ths (H.out.nw (Nw.drew (HN2.out.trans hn3))) (HLEN.out _) hth hch
    obtain ⟨hs4, -, -, -, -, -, -, -, r0, r1, r2, r3, r4, w0, w1, w2, w3, w4⟩ := (HF2.out.nw (Nw.drew hn3)).foot H.out hmu.chg
    have f0 : W4.cell? ⟨g, 0, none⟩ = some (.int .u64 k) := hch.cell e0 hxg
    have f1 : W4.cell? ⟨g, 1, none⟩ = some (.int .u64 y) := hch.cell e1 hxg
    haveI : In g W4 := ⟨World.block_lt_of_cell? W4 _ f0⟩
    have HU := Lib.hid hmu
    clear hch hth hmu hs4 hn3 e0 e1
    go_wp2
    refine bodyPost_ret (v := res5 0 true k y 0) ?_ rfl ⟨rfl, _, MUp.res (Nw.drew (HN2.out.trans HN3.out)) (Nat.le_succ _) (Nat.lt_of_lt_of_le HS2.out HN3.out.grown.size) H.out HU.out ⟨0, true, k, y, 0⟩⟩
    simp [results, Tryz.results66, go_sem, r0, r1, r2, r3, r4]
  · skip
    rename_i hHeld
    clear hHeld
    obtain ⟨W3, hW3⟩ : ∃ W3, W3 = (Wk.setCell ⟨W2.heap.size, 0, none⟩ (.int .u64 k)).setCell ⟨W2.heap.size, 1, none⟩ (.int .u64 y) := ⟨_, rfl⟩
    rw [← hW3]
    have hn3 : Nw W2 W3 := by rw [hW3]; exact Xt.Nw.setCell (Xt.Nw.setCell hnk (Nat.le_refl _) _) (Nat.le_refl _) _
    obtain ⟨g, hg⟩ : ∃ g, g = W2.heap.size := ⟨_, rfl⟩
    rw [← hg]
    have hgs := hnk.grown.size
    have hs2 := HS2.out
    have hxg : g ∉ [gt] := by simp; omega
    have e0 : W3.cell? ⟨g, 0, none⟩ = some (.int .u64 k) := by rw [hW3, hg]; simp [go_sem, g0, g1]
    have e1 : W3.cell? ⟨g, 1, none⟩ = some (.int .u64 y) := by rw [hW3, hg]; simp [go_sem, g0, g1]
    clear g0 g1 g2 g3
    have HN3 := Lib.hid hn3
    clear hgs hW3 hg hnk hnk0 hs2
    go_upto_region 6 with (fail)
    go_region_held3 (fun w' => w'.cell? ⟨g, 0, none⟩ = some (.int .u64 k)) (first | exact e0 | exact hch.cell e0 hxg)
      ((first | (go_at_call 40; refine (after_any W3.drew gt s.th (HTH.out.nw (Nw.drew (HN2.out.trans hn3))) t x HT.out k HK.out).mono ?_; rintro r W4 ⟨rfl, hth, hch⟩)))
    have hmu := MUp.ths (H.out.nw (Nw.drew (HN2.out.trans hn3))) (HLEN.out _) hth hch
    obtain ⟨hs4, -, -, -, -, -, -, -, r0, r1, r2, r3, r4, w0, w1, w2, w3, w4⟩ := (HF2.out.nw (Nw.drew hn3)).foot H.out hmu.chg
    have f0 : W4.cell? ⟨g, 0, none⟩ = some (.int .u64 k) := hch.cell e0 hxg
    have f1 : W4.cell? ⟨g, 1, none⟩ = some (.int .u64 y) := hch.cell e1 hxg
    haveI : In g W4 := ⟨World.block_lt_of_cell? W4 _ f0⟩
    have HU := Lib.hid hmu
    clear hch hth hmu hs4 hn3 e0 e1
    go_wp2
    refine bodyPost_ret (v := res5 0 true k y 0) ?_ rfl ⟨rfl, _, MUp.res (Nw.drew (HN2.out.trans HN3.out)) (Nat.le_succ _) (Nat.lt_of_lt_of_le HS2.out HN3.out.grown.size) H.out HU.out ⟨0, true, k, y, 0⟩⟩
    simp [results, Tryz.results66, go_sem, r0, r1, r2, r3, r4]
end Go.Proofs.YtfnapkfdocabcaaGreat
