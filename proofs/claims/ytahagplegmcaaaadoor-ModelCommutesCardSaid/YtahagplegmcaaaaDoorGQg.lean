import Derived.Test.YtahagplegmcaaaaDoorGQf
set_option linter.unusedVariables false
set_option linter.unusedSimpArgs false
set_option linter.unnecessarySimpa false
namespace Go.Proofs.YtahagplegmcaaaaDoor
open Go.RowKit Go.Xt
/-! The model's methods at any state: swap, move, removeRange. -/
set_option maxRecDepth 20000 in
set_option maxHeartbeats 8000000 in
theorem m_swap1 (w : World) (p : Pl) (s : Md) (h : MAt w p s) (hl : s.l.length ≤ 500000) (t : Int) (a b c d e f : Int) (hcas : casB a d s.l = true) :
    Calls Tryd.prog 35 #[.pointer (some ⟨p.gm, 0, none⟩), .int .i64 t, op7 7 a b c d e f] w fun q w' => q = .returned (resV ⟨0, hasK a s.l, 0, valL a s.l, 1⟩) ∧ ∃ p', MUp w p { s with l := casL a d c s.l } p' w' := by
  obtain ⟨gm, gt, gp, v⟩ := p
  have m1 : w.cell? ⟨gm, 1, none⟩ = some (.pointer (some ⟨gp, 0, none⟩)) := h.m1
  haveI : In gm w := ⟨h.im⟩
  have H := Lib.hid h
  unfold resV
  simp only
  have HS := Lib.hid (fun W (hw : Nw w W) => cas_om ((h.nw hw).om : OM W gp v s.l) (by omega) a d c)
  obtain ⟨y, hy⟩ : ∃ y, y = valL a s.l := ⟨_, rfl⟩
  obtain ⟨bb, hb⟩ : ∃ y, y = hasK a s.l := ⟨_, rfl⟩
  rw [hcas, ← hy, ← hb] at HS
  rw [← hy, ← hb]
  clear hy hb hcas
  obtain ⟨W2, hW2⟩ : ∃ W2, W2 = (w.alloc (.cells #[.int .u8 7, .int .u64 a, .int .u64 b, .int .u64 c, .int .u64 d, .int .u64 e, .int .u64 f] 25)).alloc (.cells #[.int .i64 0, .bool false, .int .u64 0, .int .u64 0, .int .i64 0] 28) := ⟨_, rfl⟩
  have hn2 : Nw w W2 := by rw [hW2]; exact (by repeat (first | exact Xt.Nw.refl _ | refine Xt.Nw.drew ?_ | refine Xt.Nw.drewN ?_ _ | refine Xt.Nw.alloc ?_ _ | refine Xt.Nw.joined ?_ | refine Xt.Nw.drewd ?_ | refine Xt.Nw.drewdN ?_ | refine Xt.Nw.ext ?_ | refine Xt.Nw.ext_some ?_ (by assumption) | refine Xt.Nw.setCell ?_ (by simp [go_sem] <;> omega) _))
  have hf2 : Fr w W2 ⟨7, a, b, c, d, e, f⟩ := by rw [hW2]; exact Fr.made w 7 a b c d e f
  have HF2 := Lib.hid hf2
  obtain ⟨hs2, q0, q1, q2, q3, q4, q5, q6, -⟩ := hf2
  have HN2 := Lib.hid hn2
  have HW2 := Lib.hid hW2
  have HS2 := Lib.hid hs2
  simp only at q0 q1 q2 q3 q4 q5 q6
  replace m1 := cell_nw m1 hn2
  have hxm := unfootm h
  have hxb : w.heap.size ∉ foot gp v := unfootn h (Nat.le_refl _)
  have HLL := Lib.hid hl
  clear h hl hn2 hW2 hs2
  go_enter Tryd.func35, Tryd.ntmps35
  go_upto_region 1 with (fail)
  rw [← HW2.out]
  go_region_held3 (fun w' => w'.cell? ⟨gm, 1, none⟩ = some (.pointer (some ⟨gp, 0, none⟩)) ∧ w'.cell? ⟨w.heap.size, 1, none⟩ = some (.int .u64 a) ∧ w'.cell? ⟨w.heap.size, 3, none⟩ = some (.int .u64 c) ∧ w'.cell? ⟨w.heap.size, 4, none⟩ = some (.int .u64 d)) (first | exact ⟨m1, q1, q3, q4⟩ | exact ⟨hu.chg.cell m1 hxm, hu.chg.cell q1 hxb, hu.chg.cell q3 hxb, hu.chg.cell q4 hxb⟩)
    ((first | (go_at_call 57; refine (HS.out W2.drew (Nw.drew HN2.out)).mono ?_; rintro e W3 ⟨rfl, v', hu⟩)))
  have hmu := MUp.map (H.out.nw (Nw.drew HN2.out)) hu
  obtain ⟨hs4, -, -, -, -, -, -, -, r0, r1, r2, r3, r4, z0, z1, z2, z3, z4⟩ := (HF2.out.nw (Nw.drew (Nw.refl W2))).foot H.out hmu.chg
  have HU := Lib.hid hmu
  haveI : In (w.heap.size + 1) W3 := ⟨hs4⟩
  clear hu hmu hs4
  go_wp2
  have hfin := (MUp.res (Nw.drew HN2.out) (Nat.le_succ _) HS2.out H.out HU.out ⟨0, bb, 0, y, 1⟩).nw (Nw.alloc (Nw.refl _) (.cells #[.int .i64 0, .bool bb, .int .u64 0, .int .u64 y, .int .i64 1] 28))
  refine bodyPost_ret (v := res5 0 bb 0 y 1) ?_ rfl ⟨rfl, _, hfin⟩
  simp [results, Tryd.results35, go_sem, r0, r1, r2, r3, r4]
set_option maxRecDepth 20000 in
set_option maxHeartbeats 8000000 in
theorem m_swap0 (w : World) (p : Pl) (s : Md) (h : MAt w p s) (hl : s.l.length ≤ 500000) (t : Int) (a b c d e f : Int) (hcas : casB a d s.l = false) :
    Calls Tryd.prog 35 #[.pointer (some ⟨p.gm, 0, none⟩), .int .i64 t, op7 7 a b c d e f] w fun q w' => q = .returned (resV ⟨0, hasK a s.l, 0, valL a s.l, 0⟩) ∧ ∃ p', MUp w p { s with l := casL a d c s.l } p' w' := by
  obtain ⟨gm, gt, gp, v⟩ := p
  have m1 : w.cell? ⟨gm, 1, none⟩ = some (.pointer (some ⟨gp, 0, none⟩)) := h.m1
  haveI : In gm w := ⟨h.im⟩
  have H := Lib.hid h
  unfold resV
  simp only
  have HS := Lib.hid (fun W (hw : Nw w W) => cas_om ((h.nw hw).om : OM W gp v s.l) (by omega) a d c)
  obtain ⟨y, hy⟩ : ∃ y, y = valL a s.l := ⟨_, rfl⟩
  obtain ⟨bb, hb⟩ : ∃ y, y = hasK a s.l := ⟨_, rfl⟩
  rw [hcas, ← hy, ← hb] at HS
  rw [← hy, ← hb]
  clear hy hb hcas
  obtain ⟨W2, hW2⟩ : ∃ W2, W2 = (w.alloc (.cells #[.int .u8 7, .int .u64 a, .int .u64 b, .int .u64 c, .int .u64 d, .int .u64 e, .int .u64 f] 25)).alloc (.cells #[.int .i64 0, .bool false, .int .u64 0, .int .u64 0, .int .i64 0] 28) := ⟨_, rfl⟩
  have hn2 : Nw w W2 := by rw [hW2]; exact (by repeat (first | exact Xt.Nw.refl _ | refine Xt.Nw.drew ?_ | refine Xt.Nw.drewN ?_ _ | refine Xt.Nw.alloc ?_ _ | refine Xt.Nw.joined ?_ | refine Xt.Nw.drewd ?_ | refine Xt.Nw.drewdN ?_ | refine Xt.Nw.ext ?_ | refine Xt.Nw.ext_some ?_ (by assumption) | refine Xt.Nw.setCell ?_ (by simp [go_sem] <;> omega) _))
  have hf2 : Fr w W2 ⟨7, a, b, c, d, e, f⟩ := by rw [hW2]; exact Fr.made w 7 a b c d e f
  have HF2 := Lib.hid hf2
  obtain ⟨hs2, q0, q1, q2, q3, q4, q5, q6, -⟩ := hf2
  have HN2 := Lib.hid hn2
  have HW2 := Lib.hid hW2
  have HS2 := Lib.hid hs2
  simp only at q0 q1 q2 q3 q4 q5 q6
  replace m1 := cell_nw m1 hn2
  have hxm := unfootm h
  have hxb : w.heap.size ∉ foot gp v := unfootn h (Nat.le_refl _)
  have HLL := Lib.hid hl
  clear h hl hn2 hW2 hs2
  go_enter Tryd.func35, Tryd.ntmps35
  go_upto_region 1 with (fail)
  rw [← HW2.out]
  go_region_held3 (fun w' => w'.cell? ⟨gm, 1, none⟩ = some (.pointer (some ⟨gp, 0, none⟩)) ∧ w'.cell? ⟨w.heap.size, 1, none⟩ = some (.int .u64 a) ∧ w'.cell? ⟨w.heap.size, 3, none⟩ = some (.int .u64 c) ∧ w'.cell? ⟨w.heap.size, 4, none⟩ = some (.int .u64 d)) (first | exact ⟨m1, q1, q3, q4⟩ | exact ⟨hu.chg.cell m1 hxm, hu.chg.cell q1 hxb, hu.chg.cell q3 hxb, hu.chg.cell q4 hxb⟩)
    ((first | (go_at_call 57; refine (HS.out W2.drew (Nw.drew HN2.out)).mono ?_; rintro e W3 ⟨rfl, v', hu⟩)))
  have hmu := MUp.map (H.out.nw (Nw.drew HN2.out)) hu
  obtain ⟨hs4, -, -, -, -, -, -, -, r0, r1, r2, r3, r4, z0, z1, z2, z3, z4⟩ := (HF2.out.nw (Nw.drew (Nw.refl W2))).foot H.out hmu.chg
  have HU := Lib.hid hmu
  haveI : In (w.heap.size + 1) W3 := ⟨hs4⟩
  clear hu hmu hs4
  go_wp2
  have hfin := (MUp.res (Nw.drew HN2.out) (Nat.le_succ _) HS2.out H.out HU.out ⟨0, bb, 0, y, 0⟩).nw (Nw.alloc (Nw.refl _) (.cells #[.int .i64 0, .bool bb, .int .u64 0, .int .u64 y, .int .i64 0] 28))
  refine bodyPost_ret (v := res5 0 bb 0 y 0) ?_ rfl ⟨rfl, _, hfin⟩
  simp [results, Tryd.results35, go_sem, r0, r1, r2, r3, r4]
theorem m_swap (w : World) (p : Pl) (s : Md) (h : MAt w p s) (hl : s.l.length ≤ 500000) (t : Int) (a b c d e f : Int) :
    Calls Tryd.prog 35 #[.pointer (some ⟨p.gm, 0, none⟩), .int .i64 t, op7 7 a b c d e f] w fun e w' => e = .returned (resV ⟨0, hasK a s.l, 0, valL a s.l, if casB a d s.l = true then 1 else 0⟩) ∧ ∃ p', MUp w p { s with l := casL a d c s.l } p' w' := by
  cases hc : casB a d s.l with
  | true => exact m_swap1 w p s h hl t a b c d e f hc
  | false => exact m_swap0 w p s h hl t a b c d e f hc
set_option maxRecDepth 20000 in
set_option maxHeartbeats 8000000 in
theorem m_drop (w : World) (p : Pl) (s : Md) (h : MAt w p s) (hl : s.l.length ≤ 500000) (t : Int) (a b c d e f : Int) (hab : a ≤ b) :
    Calls Tryd.prog 37 #[.pointer (some ⟨p.gm, 0, none⟩), .int .i64 t, op7 9 a b c d e f] w fun q w' => q = .returned (resV ⟨0, false, 0, 0, (inR a b s.l).length⟩) ∧ ∃ p', MUp w p { s with l := outR a b s.l } p' w' := by
  obtain ⟨gm, gt, gp, v⟩ := p
  have m1 : w.cell? ⟨gm, 1, none⟩ = some (.pointer (some ⟨gp, 0, none⟩)) := h.m1
  haveI : In gm w := ⟨h.im⟩
  have H := Lib.hid h
  unfold resV
  simp only
  have HS := Lib.hid (fun W (hw : Nw w W) => delr_om ((h.nw hw).om : OM W gp v s.l) (by omega) a b hab)
  obtain ⟨n, hn⟩ : ∃ n : Int, n = (inR a b s.l).length := ⟨_, rfl⟩
  rw [← hn] at HS ⊢
  clear hn
  obtain ⟨W2, hW2⟩ : ∃ W2, W2 = (w.alloc (.cells #[.int .u8 9, .int .u64 a, .int .u64 b, .int .u64 c, .int .u64 d, .int .u64 e, .int .u64 f] 25)).alloc (.cells #[.int .i64 0, .bool false, .int .u64 0, .int .u64 0, .int .i64 0] 28) := ⟨_, rfl⟩
  have hn2 : Nw w W2 := by rw [hW2]; exact (by repeat (first | exact Xt.Nw.refl _ | refine Xt.Nw.drew ?_ | refine Xt.Nw.drewN ?_ _ | refine Xt.Nw.alloc ?_ _ | refine Xt.Nw.joined ?_ | refine Xt.Nw.drewd ?_ | refine Xt.Nw.drewdN ?_ | refine Xt.Nw.ext ?_ | refine Xt.Nw.ext_some ?_ (by assumption) | refine Xt.Nw.setCell ?_ (by simp [go_sem] <;> omega) _))
  have hf2 : Fr w W2 ⟨9, a, b, c, d, e, f⟩ := by rw [hW2]; exact Fr.made w 9 a b c d e f
  have HF2 := Lib.hid hf2
  obtain ⟨hs2, q0, q1, q2, q3, q4, q5, q6, -⟩ := hf2
  have HN2 := Lib.hid hn2
  have HW2 := Lib.hid hW2
  have HS2 := Lib.hid hs2
  simp only at q0 q1 q2 q3 q4 q5 q6
  replace m1 := cell_nw m1 hn2
  have hxm := unfootm h
  have hxb : w.heap.size ∉ foot gp v := unfootn h (Nat.le_refl _)
  clear h hl hn2 hW2 hs2
  go_enter Tryd.func37, Tryd.ntmps37
  go_upto_region 1 with (fail)
  rw [← HW2.out]
  go_region_held3 (fun w' => w'.cell? ⟨gm, 1, none⟩ = some (.pointer (some ⟨gp, 0, none⟩)) ∧ w'.cell? ⟨w.heap.size, 0, none⟩ = some (.int .u8 9) ∧ w'.cell? ⟨w.heap.size, 1, none⟩ = some (.int .u64 a) ∧ w'.cell? ⟨w.heap.size, 2, none⟩ = some (.int .u64 b) ∧ w'.cell? ⟨w.heap.size, 3, none⟩ = some (.int .u64 c) ∧ w'.cell? ⟨w.heap.size, 4, none⟩ = some (.int .u64 d) ∧ w'.cell? ⟨w.heap.size, 5, none⟩ = some (.int .u64 e) ∧ w'.cell? ⟨w.heap.size, 6, none⟩ = some (.int .u64 f)) (first | exact ⟨m1, q0, q1, q2, q3, q4, q5, q6⟩ | exact ⟨cell_nw m1 hnk, cell_nw q0 hnk, cell_nw q1 hnk, cell_nw q2 hnk, cell_nw q3 hnk, cell_nw q4 hnk, cell_nw q5 hnk, cell_nw q6 hnk⟩ | exact ⟨hu.chg.cell (cell_nw m1 hnk) hxm, hu.chg.cell (cell_nw q0 hnk) hxb, hu.chg.cell (cell_nw q1 hnk) hxb, hu.chg.cell (cell_nw q2 hnk) hxb, hu.chg.cell (cell_nw q3 hnk) hxb, hu.chg.cell (cell_nw q4 hnk) hxb, hu.chg.cell (cell_nw q5 hnk) hxb, hu.chg.cell (cell_nw q6 hnk) hxb⟩)
    ((first | (go_at_call 59; refine (keys_any _ _ _ _ _ _ _ _).mono ?_; rintro e Wk ⟨rfl, hnk0⟩; have hnk : Nw W2 Wk := (Nw.drew (Nw.refl W2)).trans hnk0) | (go_at_call 60; refine (HS.out _ (HN2.out.trans hnk)).mono ?_; rintro e W3 ⟨rfl, v', hu⟩)))
  have hmu := MUp.map (H.out.nw (HN2.out.trans hnk)) hu
  obtain ⟨hs4, -, -, -, -, -, -, -, r0, r1, r2, r3, r4, z0, z1, z2, z3, z4⟩ := (HF2.out.nw hnk).foot H.out hmu.chg
  have HU := Lib.hid hmu
  have HNK := Lib.hid hnk
  clear hu hmu hs4 hnk hnk0
  go_wp2
  refine bodyPost_ret (v := res5 0 false 0 0 n) ?_ rfl ⟨rfl, _, MUp.res (HN2.out.trans HNK.out) (Nat.le_succ _) (Nat.lt_of_lt_of_le HS2.out HNK.out.grown.size) H.out HU.out ⟨0, false, 0, 0, n⟩⟩
  simp [results, Tryd.results37, go_sem, r0, r1, r2, r3, r4]
set_option maxRecDepth 20000 in
set_option maxHeartbeats 8000000 in
theorem m_move (w : World) (p : Pl) (s : Md) (h : MAt w p s) (hl : s.l.length ≤ 500000) (t : Int) (a b c d e f : Int) (hab : a ≤ b) (ha : 0 ≤ a) (he : 0 < e) (he2 : e ≤ 18446744073709551615 - b) :
    Calls Tryd.prog 36 #[.pointer (some ⟨p.gm, 0, none⟩), .int .i64 t, op7 8 a b c d e f] w fun q w' => q = .returned (resV ⟨0, false, 0, 0, (inR a b s.l).length⟩) ∧ ∃ p', MUp w p { s with l := moveL a b e s.l } p' w' := by
  obtain ⟨gm, gt, gp, v⟩ := p
  have m1 : w.cell? ⟨gm, 1, none⟩ = some (.pointer (some ⟨gp, 0, none⟩)) := h.m1
  haveI : In gm w := ⟨h.im⟩
  have H := Lib.hid h
  unfold resV
  simp only
  have HS := Lib.hid (fun W (hw : Nw w W) => move_om ((h.nw hw).om : OM W gp v s.l) hl a b e hab ha he he2)
  obtain ⟨n, hn⟩ : ∃ n : Int, n = (inR a b s.l).length := ⟨_, rfl⟩
  rw [← hn] at HS ⊢
  clear hn
  obtain ⟨W2, hW2⟩ : ∃ W2, W2 = (w.alloc (.cells #[.int .u8 8, .int .u64 a, .int .u64 b, .int .u64 c, .int .u64 d, .int .u64 e, .int .u64 f] 25)).alloc (.cells #[.int .i64 0, .bool false, .int .u64 0, .int .u64 0, .int .i64 0] 28) := ⟨_, rfl⟩
  have hn2 : Nw w W2 := by rw [hW2]; exact (by repeat (first | exact Xt.Nw.refl _ | refine Xt.Nw.drew ?_ | refine Xt.Nw.drewN ?_ _ | refine Xt.Nw.alloc ?_ _ | refine Xt.Nw.joined ?_ | refine Xt.Nw.drewd ?_ | refine Xt.Nw.drewdN ?_ | refine Xt.Nw.ext ?_ | refine Xt.Nw.ext_some ?_ (by assumption) | refine Xt.Nw.setCell ?_ (by simp [go_sem] <;> omega) _))
  have hf2 : Fr w W2 ⟨8, a, b, c, d, e, f⟩ := by rw [hW2]; exact Fr.made w 8 a b c d e f
  have HF2 := Lib.hid hf2
  obtain ⟨hs2, q0, q1, q2, q3, q4, q5, q6, -⟩ := hf2
  have HN2 := Lib.hid hn2
  have HW2 := Lib.hid hW2
  have HS2 := Lib.hid hs2
  simp only at q0 q1 q2 q3 q4 q5 q6
  replace m1 := cell_nw m1 hn2
  have hxm := unfootm h
  have hxb : w.heap.size ∉ foot gp v := unfootn h (Nat.le_refl _)
  clear h hl hn2 hW2 hs2
  go_enter Tryd.func36, Tryd.ntmps36
  go_upto_region 1 with (fail)
  rw [← HW2.out]
  go_region_held3 (fun w' => w'.cell? ⟨gm, 1, none⟩ = some (.pointer (some ⟨gp, 0, none⟩)) ∧ w'.cell? ⟨w.heap.size, 0, none⟩ = some (.int .u8 8) ∧ w'.cell? ⟨w.heap.size, 1, none⟩ = some (.int .u64 a) ∧ w'.cell? ⟨w.heap.size, 2, none⟩ = some (.int .u64 b) ∧ w'.cell? ⟨w.heap.size, 3, none⟩ = some (.int .u64 c) ∧ w'.cell? ⟨w.heap.size, 4, none⟩ = some (.int .u64 d) ∧ w'.cell? ⟨w.heap.size, 5, none⟩ = some (.int .u64 e) ∧ w'.cell? ⟨w.heap.size, 6, none⟩ = some (.int .u64 f)) (first | exact ⟨m1, q0, q1, q2, q3, q4, q5, q6⟩ | exact ⟨cell_nw m1 hnk, cell_nw q0 hnk, cell_nw q1 hnk, cell_nw q2 hnk, cell_nw q3 hnk, cell_nw q4 hnk, cell_nw q5 hnk, cell_nw q6 hnk⟩ | exact ⟨hu.chg.cell (cell_nw m1 hnk) hxm, hu.chg.cell (cell_nw q0 hnk) hxb, hu.chg.cell (cell_nw q1 hnk) hxb, hu.chg.cell (cell_nw q2 hnk) hxb, hu.chg.cell (cell_nw q3 hnk) hxb, hu.chg.cell (cell_nw q4 hnk) hxb, hu.chg.cell (cell_nw q5 hnk) hxb, hu.chg.cell (cell_nw q6 hnk) hxb⟩)
    ((first | (go_at_call 59; refine (keys_any _ _ _ _ _ _ _ _).mono ?_; rintro e Wk ⟨rfl, hnk0⟩; have hnk : Nw W2 Wk := (Nw.drew (Nw.refl W2)).trans hnk0) | (go_at_call 58; refine (HS.out _ (HN2.out.trans hnk)).mono ?_; rintro e W3 ⟨rfl, v', hu⟩)))
  have hmu := MUp.map (H.out.nw (HN2.out.trans hnk)) hu
  obtain ⟨hs4, -, -, -, -, -, -, -, r0, r1, r2, r3, r4, z0, z1, z2, z3, z4⟩ := (HF2.out.nw hnk).foot H.out hmu.chg
  have HU := Lib.hid hmu
  have HNK := Lib.hid hnk
  clear hu hmu hs4 hnk hnk0
  go_wp2
  refine bodyPost_ret (v := res5 0 false 0 0 n) ?_ rfl ⟨rfl, _, MUp.res (HN2.out.trans HNK.out) (Nat.le_succ _) (Nat.lt_of_lt_of_le HS2.out HNK.out.grown.size) H.out HU.out ⟨0, false, 0, 0, n⟩⟩
  simp [results, Tryd.results36, go_sem, r0, r1, r2, r3, r4]
end Go.Proofs.YtahagplegmcaaaaDoor
namespace Go.Proofs.YtahagplegmcaaaaDoor
open Go.RowKit Go.Xt
/-! The model's methods at any state: open, shut, scan, seek, close, next. -/
def cntS (th : List Th) : Nat := th.countP (·.se)
theorem cntS_snoc (b : List Th) (x : Th) : cntS (b ++ [x]) = cntS b + if x.se then 1 else 0 := by
  cases h : x.se <;> simp [cntS, List.countP_append, h]
set_option maxRecDepth 20000 in
set_option maxHeartbeats 4000000 in
theorem sess_any (w : World) (p : Pl) (s : Md) (h : MAt w p s) (hb : s.th.length ≤ 1000) :
    Calls Tryd.prog 52 #[.pointer (some ⟨p.gm, 0, none⟩)] w fun e w' => e = .returned (.int .i64 (cntS s.th : Nat)) ∧ Nw w w' := by
  obtain ⟨gm, gt, gp, v⟩ := p
  have H := Lib.hid h
  obtain ⟨ct, m2⟩ : ∃ ct, w.cell? ⟨gm, 2, none⟩ = some (.slice (some ⟨gt, 0, none⟩) s.th.length ct) := h.m2
  haveI : In gm w := ⟨h.im⟩
  haveI : In gt w := ⟨h.it⟩
  obtain ⟨n, hn⟩ : ∃ n, n = s.th.length := ⟨_, rfl⟩
  rw [← hn] at m2 hb
  have HNL := Lib.hid hn
  have hcb : ∀ k, cntS (s.th.take k) ≤ k := fun k => Nat.le_trans List.countP_le_length (by simp; omega)
  have HCB := Lib.hid hcb
  simp only
  clear h hn hcb
  go_enter Tryd.func52, Tryd.ntmps52
  go_wp2
  go_loopw [3, 4, 10] (fun c _ i wr => ∃ (k m : Nat), k ≤ n ∧ c = .int .i64 (m : Int) ∧ i = .int .i64 k ∧ Hid (m = cntS (s.th.take k)) ∧ Nw w wr) (fun _ _ i _ => n - (intOf i).toNat)
  case atStart => exact ⟨0, 0, by omega, rfl, rfl, rfl, Nw.refl _⟩
  case round =>
    obtain ⟨k, m, hk, rfl, rfl, hm, d, rfl⟩ := hrel
    have hmk : m ≤ k := by rw [hm.out]; exact HCB.out k
    by_cases hlt : k < n
    · obtain ⟨x, hx⟩ : ∃ x, s.th[k]? = some x := ⟨_, List.getElem?_eq_getElem (by have := HNL.out; omega)⟩
      obtain ⟨c0, c1, c2, c3, c4⟩ := (H.out.th : ThR w gt s.th).cells hx
      have hnx : cntS (s.th.take (k + 1)) = m + if x.se then 1 else 0 := by
        obtain ⟨p1, q1⟩ := List.getElem?_eq_some_iff.1 hx
        rw [List.take_succ_eq_append_getElem p1, q1, cntS_snoc, hm.out]
      have HX := Lib.hid hnx
      obtain ⟨xo, xm, xl, xh, xs⟩ := x
      simp only at c4
      clear hx hnx hm c0 c1 c2 c3
      have k1 : (k : Int) < (n : Int) := by omega
      cases xs with
      | true =>
        go_wp2
        exact ⟨⟨k + 1, m + 1, by omega, by go_num, by go_num, HX.out.symm, (by repeat (first | exact Xt.Nw.refl _ | refine Xt.Nw.drew ?_ | refine Xt.Nw.drewN ?_ _ | refine Xt.Nw.alloc ?_ _ | refine Xt.Nw.joined ?_ | refine Xt.Nw.drewd ?_ | refine Xt.Nw.drewdN ?_ | refine Xt.Nw.ext ?_ | refine Xt.Nw.ext_some ?_ (by assumption) | refine Xt.Nw.setCell ?_ (by simp [go_sem] <;> omega) _))⟩, by simp [intOf]; omega⟩
      | false =>
        go_wp2
        exact ⟨⟨k + 1, m, by omega, by go_num, by go_num, HX.out.symm, (by repeat (first | exact Xt.Nw.refl _ | refine Xt.Nw.drew ?_ | refine Xt.Nw.drewN ?_ _ | refine Xt.Nw.alloc ?_ _ | refine Xt.Nw.joined ?_ | refine Xt.Nw.drewd ?_ | refine Xt.Nw.drewdN ?_ | refine Xt.Nw.ext ?_ | refine Xt.Nw.ext_some ?_ (by assumption) | refine Xt.Nw.setCell ?_ (by simp [go_sem] <;> omega) _))⟩, by simp [intOf]; omega⟩
    · have k1 : ¬ (k : Int) < (n : Int) := by omega
      go_wp2
      go_ret
      exact ⟨by rw [hm.out, List.take_of_length_le (by have := HNL.out; omega)]; rfl, (by repeat (first | exact Xt.Nw.refl _ | refine Xt.Nw.drew ?_ | refine Xt.Nw.drewN ?_ _ | refine Xt.Nw.alloc ?_ _ | refine Xt.Nw.joined ?_ | refine Xt.Nw.drewd ?_ | refine Xt.Nw.drewdN ?_ | refine Xt.Nw.ext ?_ | refine Xt.Nw.ext_some ?_ (by assumption) | refine Xt.Nw.setCell ?_ (by simp [go_sem] <;> omega) _))⟩
set_option maxRecDepth 20000 in
set_option maxHeartbeats 8000000 in
theorem m_shut (w : World) (p : Pl) (s : Md) (h : MAt w p s) (t : Nat) (x : Th) (ht : s.th[t]? = some x) (a b c d e f : Int) :
    Calls Tryd.prog 30 #[.pointer (some ⟨p.gm, 0, none⟩), .int .i64 t, op7 2 a b c d e f] w fun e w' => e = .returned (resV ⟨0, false, 0, 0, 0⟩) ∧ ∃ p', MUp w p { s with th := s.th.set t { x with se := false } } p' w' := by
  obtain ⟨gm, gt, gp, v⟩ := p
  obtain ⟨p0, _⟩ := List.getElem?_eq_some_iff.1 ht
  obtain ⟨c0, c1, c2, c3, c4⟩ := (h.th : ThR w gt s.th).cells ht
  obtain ⟨ct, m2⟩ : ∃ ct, w.cell? ⟨gm, 2, none⟩ = some (.slice (some ⟨gt, 0, none⟩) s.th.length ct) := h.m2
  have hz : w.frozen? ⟨gt, t * 5 + 4, none⟩ = false := ThR.frozen h.th _
  haveI : In gm w := ⟨h.im⟩
  haveI : In gt w := ⟨h.it⟩
  have H := Lib.hid (MUp.ths h (List.length_set ..) (ThR.se h.th ht false) (Chg.set1 w gt _ _))
  obtain ⟨n, hn⟩ : ∃ n, n = s.th.length := ⟨_, rfl⟩
  rw [← hn] at m2 p0
  have t0 : (0 : Int) ≤ (t : Int) := by omega
  have t1 : (t : Int) < (n : Int) := by omega
  unfold resV
  simp only
  clear h ht hn
  go_enter Tryd.func30, Tryd.ntmps30
  go_wp2
  refine bodyPost_ret (v := res5 0 false 0 0 0) ?_ rfl ⟨rfl, _, MUp.nw H.out (by repeat (first | exact Xt.Nw.refl _ | refine Xt.Nw.drew ?_ | refine Xt.Nw.drewN ?_ _ | refine Xt.Nw.alloc ?_ _ | refine Xt.Nw.joined ?_ | refine Xt.Nw.drewd ?_ | refine Xt.Nw.drewdN ?_ | refine Xt.Nw.ext ?_ | refine Xt.Nw.ext_some ?_ (by assumption) | refine Xt.Nw.setCell ?_ (by simp [go_sem] <;> omega) _))⟩
  simp [results, Tryd.results30, go_sem]
/-- What OpOpen makes of a thread that has no session. -/
def openE (s : Md) : Int := if s.slots ≤ (cntS s.th : Nat) then 10 else 0
def openM (s : Md) (t : Nat) (x : Th) : Md := if s.slots ≤ (cntS s.th : Nat) then s else { s with th := s.th.set t { x with se := true } }
set_option maxRecDepth 20000 in
set_option maxHeartbeats 8000000 in
theorem m_open (w : World) (p : Pl) (s : Md) (h : MAt w p s) (hb : s.th.length ≤ 1000) (t : Nat) (x : Th) (ht : s.th[t]? = some x) (a b c d e f : Int) :
    Calls Tryd.prog 29 #[.pointer (some ⟨p.gm, 0, none⟩), .int .i64 t, op7 1 a b c d e f] w fun e w' => e = .returned (resV ⟨openE s, false, 0, 0, 0⟩) ∧ ∃ p', MUp w p (openM s t x) p' w' := by
  have HS := Lib.hid (fun W (hw : Nw w W) => sess_any W p s (h.nw hw) hb)
  obtain ⟨gm, gt, gp, v⟩ := p
  obtain ⟨p0, _⟩ := List.getElem?_eq_some_iff.1 ht
  obtain ⟨c0, c1, c2, c3, c4⟩ := (h.th : ThR w gt s.th).cells ht
  obtain ⟨ct, m2⟩ : ∃ ct, w.cell? ⟨gm, 2, none⟩ = some (.slice (some ⟨gt, 0, none⟩) s.th.length ct) := h.m2
  have m0 : w.cell? ⟨gm, 0, none⟩ = some (.int .i64 s.slots) := h.m0
  have hz : w.frozen? ⟨gt, t * 5 + 4, none⟩ = false := ThR.frozen h.th _
  haveI : In gm w := ⟨h.im⟩
  haveI : In gt w := ⟨h.it⟩
  have H := Lib.hid (MUp.ths h (List.length_set ..) (ThR.se h.th ht true) (Chg.set1 w gt _ _))
  have H0 := Lib.hid h
  obtain ⟨n, hn⟩ : ∃ n, n = s.th.length := ⟨_, rfl⟩
  rw [← hn] at m2 p0
  have t0 : (0 : Int) ≤ (t : Int) := by omega
  have t1 : (t : Int) < (n : Int) := by omega
  unfold resV
  simp only at HS ⊢
  by_cases hs : s.slots ≤ ((cntS s.th : Nat) : Int)
  · have e1 : openE s = 10 := if_pos hs
    have e2 : openM s t x = s := if_pos hs
    rw [e1, e2]
    obtain ⟨cc, hc⟩ : ∃ c : Int, c = ((cntS s.th : Nat) : Int) := ⟨_, rfl⟩
    obtain ⟨sl, hsl⟩ : ∃ z, z = s.slots := ⟨_, rfl⟩
    rw [← hc] at HS hs
    rw [← hsl] at m0 hs
    have d1 : decide (sl ≤ cc) = true := by simpa using hs
    clear h ht hn hb hc hsl e1 e2 hs
    go_enter Tryd.func29, Tryd.ntmps29
    go_upto_region 1 with (fail)
    (refine wp_region_nw (by kernel_rfl) (by kernel_rfl) ?_; (repeat (go_big_quiet_step ((go_at_call 52; exact quiet_of (HS.out _ ((by repeat (first | exact Xt.Nw.refl _ | refine Xt.Nw.drew ?_ | refine Xt.Nw.drewN ?_ _ | refine Xt.Nw.alloc ?_ _ | refine Xt.Nw.joined ?_ | refine Xt.Nw.drewd ?_ | refine Xt.Nw.drewdN ?_ | refine Xt.Nw.ext ?_ | refine Xt.Nw.ext_some ?_ (by assumption) | refine Xt.Nw.setCell ?_ (by simp [go_sem] <;> omega) _)))))))); refine wpQuiet_nil ?_; intro _ hreg; obtain ⟨dW, rfl⟩ : Nw _ _ := hreg)
    go_wp2
    refine bodyPost_ret (v := res5 10 false 0 0 0) ?_ rfl ⟨rfl, _, MUp.same H0.out (by repeat (first | exact Xt.Nw.refl _ | refine Xt.Nw.drew ?_ | refine Xt.Nw.drewN ?_ _ | refine Xt.Nw.alloc ?_ _ | refine Xt.Nw.joined ?_ | refine Xt.Nw.drewd ?_ | refine Xt.Nw.drewdN ?_ | refine Xt.Nw.ext ?_ | refine Xt.Nw.ext_some ?_ (by assumption) | refine Xt.Nw.setCell ?_ (by simp [go_sem] <;> omega) _))⟩
    simp [results, Tryd.results29, go_sem]
  · have e1 : openE s = 0 := if_neg hs
    have e2 : openM s t x = { s with th := s.th.set t { x with se := true } } := if_neg hs
    rw [e1, e2]
    obtain ⟨cc, hc⟩ : ∃ c : Int, c = ((cntS s.th : Nat) : Int) := ⟨_, rfl⟩
    obtain ⟨sl, hsl⟩ : ∃ z, z = s.slots := ⟨_, rfl⟩
    rw [← hc] at HS hs
    rw [← hsl] at m0 hs
    have d1 : decide (sl ≤ cc) = false := by simpa using hs
    clear h ht hn hb hc hsl e1 e2 hs
    go_enter Tryd.func29, Tryd.ntmps29
    go_upto_region 1 with (fail)
    (refine wp_region_nw (by kernel_rfl) (by kernel_rfl) ?_; (repeat (go_big_quiet_step ((go_at_call 52; exact quiet_of (HS.out _ ((by repeat (first | exact Xt.Nw.refl _ | refine Xt.Nw.drew ?_ | refine Xt.Nw.drewN ?_ _ | refine Xt.Nw.alloc ?_ _ | refine Xt.Nw.joined ?_ | refine Xt.Nw.drewd ?_ | refine Xt.Nw.drewdN ?_ | refine Xt.Nw.ext ?_ | refine Xt.Nw.ext_some ?_ (by assumption) | refine Xt.Nw.setCell ?_ (by simp [go_sem] <;> omega) _)))))))); refine wpQuiet_nil ?_; intro _ hreg; obtain ⟨dW, rfl⟩ : Nw _ _ := hreg)
    go_wp2
    refine bodyPost_ret (v := res5 0 false 0 0 0) ?_ rfl ⟨rfl, _, MUp.nw H.out (by repeat (first | exact Xt.Nw.refl _ | refine Xt.Nw.drew ?_ | refine Xt.Nw.drewN ?_ _ | refine Xt.Nw.alloc ?_ _ | refine Xt.Nw.joined ?_ | refine Xt.Nw.drewd ?_ | refine Xt.Nw.drewdN ?_ | refine Xt.Nw.ext ?_ | refine Xt.Nw.ext_some ?_ (by assumption) | refine Xt.Nw.setCell ?_ (by simp [go_sem] <;> omega) _))⟩
    simp [results, Tryd.results29, go_sem]
/-- An iterator put. -/
theorem ThR.it4 {W : World} {gt : Nat} {th : List Th} (h : ThR W gt th) {k : Nat} {x : Th} (hk : th[k]? = some x) (op mo : Bool) (lo hi : Int) :
    ThR ((((W.setCell ⟨gt, k * 5, none⟩ (.bool op)).setCell ⟨gt, k * 5 + 1, none⟩ (.bool mo)).setCell ⟨gt, k * 5 + 2, none⟩ (.int .u64 lo)).setCell ⟨gt, k * 5 + 3, none⟩ (.int .u64 hi)) gt (th.set k ⟨op, mo, lo, hi, x.se⟩) := by
  have h3 := (((h.op hk op).mo (set_at hk _) mo).lo (set_at (set_at hk _) _) lo).hi (set_at (set_at (set_at hk _) _) _) hi
  rw [List.set_set, List.set_set, List.set_set] at h3
  exact h3
set_option maxRecDepth 20000 in
set_option maxHeartbeats 8000000 in
theorem m_close (w : World) (p : Pl) (s : Md) (h : MAt w p s) (t : Nat) (x : Th) (ht : s.th[t]? = some x) (a b c d e f : Int) :
    Calls Tryd.prog 42 #[.pointer (some ⟨p.gm, 0, none⟩), .int .i64 t, op7 14 a b c d e f] w fun e w' => e = .returned (resV ⟨0, false, 0, 0, 0⟩) ∧ ∃ p', MUp w p { s with th := s.th.set t ⟨false, false, 0, 0, x.se⟩ } p' w' := by
  obtain ⟨gm, gt, gp, v⟩ := p
  obtain ⟨p0, _⟩ := List.getElem?_eq_some_iff.1 ht
  obtain ⟨c0, c1, c2, c3, c4⟩ := (h.th : ThR w gt s.th).cells ht
  obtain ⟨ct, m2⟩ : ∃ ct, w.cell? ⟨gm, 2, none⟩ = some (.slice (some ⟨gt, 0, none⟩) s.th.length ct) := h.m2
  have z0 : w.frozen? ⟨gt, t * 5, none⟩ = false := ThR.frozen h.th _
  have z1 : w.frozen? ⟨gt, t * 5 + 1, none⟩ = false := ThR.frozen h.th _
  have z2 : w.frozen? ⟨gt, t * 5 + 2, none⟩ = false := ThR.frozen h.th _
  have z3 : w.frozen? ⟨gt, t * 5 + 3, none⟩ = false := ThR.frozen h.th _
  haveI : In gm w := ⟨h.im⟩
  haveI : In gt w := ⟨h.it⟩
  have H := Lib.hid (MUp.ths h (List.length_set ..) (ThR.it4 h.th ht false false 0 0) ((((Chg.set1 w gt _ _).set2 _ _).set2 _ _).set2 _ _))
  obtain ⟨n, hn⟩ : ∃ n, n = s.th.length := ⟨_, rfl⟩
  rw [← hn] at m2 p0
  have t0 : (0 : Int) ≤ (t : Int) := by omega
  have t1 : (t : Int) < (n : Int) := by omega
  unfold resV
  simp only
  clear h ht hn
  go_enter Tryd.func42, Tryd.ntmps42
  go_wp2
  refine bodyPost_ret (v := res5 0 false 0 0 0) ?_ rfl ⟨rfl, _, MUp.nw H.out (by repeat (first | exact Xt.Nw.refl _ | refine Xt.Nw.drew ?_ | refine Xt.Nw.drewN ?_ _ | refine Xt.Nw.alloc ?_ _ | refine Xt.Nw.joined ?_ | refine Xt.Nw.drewd ?_ | refine Xt.Nw.drewdN ?_ | refine Xt.Nw.ext ?_ | refine Xt.Nw.ext_some ?_ (by assumption) | refine Xt.Nw.setCell ?_ (by simp [go_sem] <;> omega) _))⟩
  simp [results, Tryd.results42, go_sem]
end Go.Proofs.YtahagplegmcaaaaDoor
