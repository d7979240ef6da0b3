import Derived.Test.YtfnapkfdocabcaaGreatGQd
set_option linter.unusedVariables false
set_option linter.unusedSimpArgs false
set_option linter.unnecessarySimpa false
namespace Go.Proofs.YtfnapkfdocabcaaGreat
open Go.RowKit Go.Xt
/-! The model's methods at any state. -/
theorem unfootm {gm gt gp : Nat} {v : Value} {W : World} {s : Md} (h : MAt W ⟨gm, gt, gp, v⟩ s) : gm ∉ foot gp v := fun e => by
  rcases mem_foot.1 e with e | e
  · exact h.nmp e
  · exact h.nmv e
theorem unfootn {gm gt gp : Nat} {v : Value} {W : World} {s : Md} (h : MAt W ⟨gm, gt, gp, v⟩ s) {g : Nat} (hg : W.heap.size ≤ g) : g ∉ foot gp v := fun e => by
  rcases mem_foot.1 e with e | e
  · have := h.om.lt; simp at this; omega
  · have := h.om.rlt (g := g) e; omega
set_option maxRecDepth 20000 in
set_option maxHeartbeats 8000000 in
theorem m_get (w : World) (p : Pl) (s : Md) (h : MAt w p s) (hl : s.l.length ≤ 500000) (t : Int) (a b c d e f : Int) :
    Calls Tryz.prog 57 #[.pointer (some ⟨p.gm, 0, none⟩), .int .i64 t, op7 3 a b c d e f] w fun q w' => q = .returned (resV ⟨0, hasK a s.l, 0, valL a s.l, 0⟩) ∧ ∃ p', MUp w p s p' w' := by
  obtain ⟨gm, gt, gp, v⟩ := p
  have m1 : w.cell? ⟨gm, 1, none⟩ = some (.pointer (some ⟨gp, 0, none⟩)) := h.m1
  haveI : In gm w := ⟨h.im⟩
  have H := Lib.hid h
  unfold resV
  simp only
  have HS := Lib.hid (fun W (hw : Nw w W) => get_om ((h.nw hw).om : OM W gp v s.l) (by omega) a)
  obtain ⟨y, hy⟩ : ∃ y, y = valL a s.l := ⟨_, rfl⟩
  obtain ⟨bb, hb⟩ : ∃ y, y = hasK a s.l := ⟨_, rfl⟩
  rw [← hy, ← hb] at HS ⊢
  clear h hl hy hb
  go_enter Tryz.func57, Tryz.ntmps57
  go_upto_region 1 with (fail)
  (refine wp_region_nw (by kernel_rfl) (by kernel_rfl) ?_; (repeat (go_big_quiet_step ((go_at_call 75; exact quiet_of (HS.out _ ((by repeat (first | exact Xt.Nw.refl _ | refine Xt.Nw.drew ?_ | refine Xt.Nw.drewN ?_ _ | refine Xt.Nw.alloc ?_ _ | refine Xt.Nw.joined ?_ | refine Xt.Nw.drewd ?_ | refine Xt.Nw.drewdN ?_ | refine Xt.Nw.ext ?_ | refine Xt.Nw.ext_some ?_ (by assumption) | refine Xt.Nw.setCell ?_ (by simp [go_sem] <;> omega) _)))))))); refine wpQuiet_nil ?_; intro _ hreg; obtain ⟨dW, rfl⟩ : Nw _ _ := hreg)
  go_wp2
  refine bodyPost_ret (v := res5 0 bb 0 y 0) ?_ rfl ⟨rfl, _, MUp.same H.out (by repeat (first | exact Xt.Nw.refl _ | refine Xt.Nw.drew ?_ | refine Xt.Nw.drewN ?_ _ | refine Xt.Nw.alloc ?_ _ | refine Xt.Nw.joined ?_ | refine Xt.Nw.drewd ?_ | refine Xt.Nw.drewdN ?_ | refine Xt.Nw.ext ?_ | refine Xt.Nw.ext_some ?_ (by assumption) | refine Xt.Nw.setCell ?_ (by simp [go_sem] <;> omega) _))⟩
  simp [results, Tryz.results57, go_sem, *]
set_option maxRecDepth 20000 in
set_option maxHeartbeats 8000000 in
theorem m_size (w : World) (p : Pl) (s : Md) (h : MAt w p s) (hl : s.l.length ≤ 500000) (t : Int) (a b c d e f : Int) :
    Calls Tryz.prog 64 #[.pointer (some ⟨p.gm, 0, none⟩), .int .i64 t, op7 10 a b c d e f] w fun q w' => q = .returned (resV ⟨0, false, 0, 0, s.l.length⟩) ∧ ∃ p', MUp w p s p' w' := by
  obtain ⟨gm, gt, gp, v⟩ := p
  have m1 : w.cell? ⟨gm, 1, none⟩ = some (.pointer (some ⟨gp, 0, none⟩)) := h.m1
  haveI : In gm w := ⟨h.im⟩
  have H := Lib.hid h
  unfold resV
  simp only
  have HS := Lib.hid (fun W (hw : Nw w W) => len_om ((h.nw hw).om : OM W gp v s.l))
  obtain ⟨y, hy⟩ : ∃ y : Int, y = s.l.length := ⟨_, rfl⟩
  rw [← hy] at HS ⊢
  clear h hl hy
  go_enter Tryz.func64, Tryz.ntmps64
  go_wp2_with (go_at_call 101; refine (HS.out _ ((by repeat (first | exact Xt.Nw.refl _ | refine Xt.Nw.drew ?_ | refine Xt.Nw.drewN ?_ _ | refine Xt.Nw.alloc ?_ _ | refine Xt.Nw.joined ?_ | refine Xt.Nw.drewd ?_ | refine Xt.Nw.drewdN ?_ | refine Xt.Nw.ext ?_ | refine Xt.Nw.ext_some ?_ (by assumption) | refine Xt.Nw.setCell ?_ (by simp [go_sem] <;> omega) _)))).mono ?_; rintro e w' ⟨rfl, dW, rfl⟩)
  refine bodyPost_ret (v := res5 0 false 0 0 y) ?_ rfl ⟨rfl, _, MUp.same H.out (by repeat (first | exact Xt.Nw.refl _ | refine Xt.Nw.drew ?_ | refine Xt.Nw.drewN ?_ _ | refine Xt.Nw.alloc ?_ _ | refine Xt.Nw.joined ?_ | refine Xt.Nw.drewd ?_ | refine Xt.Nw.drewdN ?_ | refine Xt.Nw.ext ?_ | refine Xt.Nw.ext_some ?_ (by assumption) | refine Xt.Nw.setCell ?_ (by simp [go_sem] <;> omega) _))⟩
  simp [results, Tryz.results64, go_sem, *]
set_option maxRecDepth 20000 in
set_option maxHeartbeats 8000000 in
theorem m_reclaim (w : World) (p : Pl) (s : Md) (h : MAt w p s) (t : Int) (a b c d e f : Int) :
    Calls Tryz.prog 69 #[.pointer (some ⟨p.gm, 0, none⟩), .int .i64 t, op7 15 a b c d e f] w fun q w' => q = .returned (resV ⟨0, false, 0, 0, 0⟩) ∧ ∃ p', MUp w p s p' w' := by
  obtain ⟨gm, gt, gp, v⟩ := p
  have m1 : w.cell? ⟨gm, 1, none⟩ = some (.pointer (some ⟨gp, 0, none⟩)) := h.m1
  haveI : In gm w := ⟨h.im⟩
  have H := Lib.hid h
  unfold resV
  simp only
  clear h
  go_enter Tryz.func69, Tryz.ntmps69
  go_wp2
  refine bodyPost_ret (v := res5 0 false 0 0 0) ?_ rfl ⟨rfl, _, MUp.same H.out (by repeat (first | exact Xt.Nw.refl _ | refine Xt.Nw.drew ?_ | refine Xt.Nw.drewN ?_ _ | refine Xt.Nw.alloc ?_ _ | refine Xt.Nw.joined ?_ | refine Xt.Nw.drewd ?_ | refine Xt.Nw.drewdN ?_ | refine Xt.Nw.ext ?_ | refine Xt.Nw.ext_some ?_ (by assumption) | refine Xt.Nw.setCell ?_ (by simp [go_sem] <;> omega) _))⟩
  simp [results, Tryz.results69, go_sem, *]
set_option maxRecDepth 20000 in
set_option maxHeartbeats 8000000 in
theorem m_put (w : World) (p : Pl) (s : Md) (h : MAt w p s) (hl : s.l.length ≤ 500000) (t : Int) (a b c d e f : Int) :
    Calls Tryz.prog 58 #[.pointer (some ⟨p.gm, 0, none⟩), .int .i64 t, op7 4 a b c d e f] w fun q w' => q = .returned (resV ⟨0, hasK a s.l, 0, valL a s.l, 0⟩) ∧ ∃ p', MUp w p { s with l := putL a c s.l } p' w' := by
  obtain ⟨gm, gt, gp, v⟩ := p
  have m1 : w.cell? ⟨gm, 1, none⟩ = some (.pointer (some ⟨gp, 0, none⟩)) := h.m1
  haveI : In gm w := ⟨h.im⟩
  have H := Lib.hid h
  unfold resV
  simp only
  have HS := Lib.hid (fun W (hw : Nw w W) => put_om ((h.nw hw).om : OM W gp v s.l) (by omega) a c)
  obtain ⟨y, hy⟩ : ∃ y, y = valL a s.l := ⟨_, rfl⟩
  obtain ⟨bb, hb⟩ : ∃ y, y = hasK a s.l := ⟨_, rfl⟩
  rw [← hy, ← hb] at HS ⊢
  clear hy hb
  obtain ⟨W2, hW2⟩ : ∃ W2, W2 = (w.alloc (.cells #[.int .u8 4, .int .u64 a, .int .u64 b, .int .u64 c, .int .u64 d, .int .u64 e, .int .u64 f] 43)).alloc (.cells #[.int .i64 0, .bool false, .int .u64 0, .int .u64 0, .int .i64 0] 33) := ⟨_, rfl⟩
  have hn2 : Nw w W2 := by rw [hW2]; exact (by repeat (first | exact Xt.Nw.refl _ | refine Xt.Nw.drew ?_ | refine Xt.Nw.drewN ?_ _ | refine Xt.Nw.alloc ?_ _ | refine Xt.Nw.joined ?_ | refine Xt.Nw.drewd ?_ | refine Xt.Nw.drewdN ?_ | refine Xt.Nw.ext ?_ | refine Xt.Nw.ext_some ?_ (by assumption) | refine Xt.Nw.setCell ?_ (by simp [go_sem] <;> omega) _))
  have hf2 : Fr w W2 ⟨4, a, b, c, d, e, f⟩ := by rw [hW2]; exact Fr.made w 4 a b c d e f
  have HF2 := Lib.hid hf2
  obtain ⟨hs2, q0, q1, q2, q3, q4, q5, q6, -⟩ := hf2
  have HN2 := Lib.hid hn2
  have HW2 := Lib.hid hW2
  have HS2 := Lib.hid hs2
  simp only at q0 q1 q2 q3 q4 q5 q6
  replace m1 := cell_nw m1 hn2
  have hxm := unfootm h
  have hxb : w.heap.size ∉ foot gp v := unfootn h (Nat.le_refl _)
  have HLL := Lib.hid hl
  clear h hl hn2 hW2 hs2
  go_enter Tryz.func58, Tryz.ntmps58
  go_upto_region 1 with (fail)
  rw [← HW2.out]
  go_region_held3 (fun w' => w'.cell? ⟨gm, 1, none⟩ = some (.pointer (some ⟨gp, 0, none⟩)) ∧ w'.cell? ⟨w.heap.size, 1, none⟩ = some (.int .u64 a) ∧ w'.cell? ⟨w.heap.size, 3, none⟩ = some (.int .u64 c)) (first | exact ⟨m1, q1, q3⟩ | exact ⟨hu.chg.cell m1 hxm, hu.chg.cell q1 hxb, hu.chg.cell q3 hxb⟩)
    ((first | (go_at_call 94; refine (HS.out W2.drew (Nw.drew HN2.out)).mono ?_; rintro e W3 ⟨rfl, v', hu⟩)))
  have hmu := MUp.map (H.out.nw (Nw.drew HN2.out)) hu
  obtain ⟨hs4, -, -, -, -, -, -, -, r0, r1, r2, r3, r4, z0, z1, z2, z3, z4⟩ := (HF2.out.nw (Nw.drew (Nw.refl W2))).foot H.out hmu.chg
  have HU := Lib.hid hmu
  haveI : In (w.heap.size + 1) W3 := ⟨hs4⟩
  clear hu hmu hs4
  go_wp2
  refine bodyPost_ret (v := res5 0 bb 0 y 0) ?_ rfl ⟨rfl, _, MUp.res (Nw.drew HN2.out) (Nat.le_succ _) HS2.out H.out HU.out ⟨0, bb, 0, y, 0⟩⟩
  simp [results, Tryz.results58, go_sem, r0, r1, r2, r3, r4]
set_option maxRecDepth 20000 in
set_option maxHeartbeats 8000000 in
theorem m_add (w : World) (p : Pl) (s : Md) (h : MAt w p s) (hl : s.l.length ≤ 500000) (t : Int) (a b c d e f : Int) :
    Calls Tryz.prog 59 #[.pointer (some ⟨p.gm, 0, none⟩), .int .i64 t, op7 5 a b c d e f] w fun q w' => q = .returned (resV ⟨0, hasK a s.l, 0, valL a s.l, 0⟩) ∧ ∃ p', MUp w p { s with l := addL a c s.l } p' w' := by
  obtain ⟨gm, gt, gp, v⟩ := p
  have m1 : w.cell? ⟨gm, 1, none⟩ = some (.pointer (some ⟨gp, 0, none⟩)) := h.m1
  haveI : In gm w := ⟨h.im⟩
  have H := Lib.hid h
  unfold resV
  simp only
  have HS := Lib.hid (fun W (hw : Nw w W) => add_om ((h.nw hw).om : OM W gp v s.l) (by omega) a c)
  obtain ⟨y, hy⟩ : ∃ y, y = valL a s.l := ⟨_, rfl⟩
  obtain ⟨bb, hb⟩ : ∃ y, y = hasK a s.l := ⟨_, rfl⟩
  rw [← hy, ← hb] at HS ⊢
  clear hy hb
  obtain ⟨W2, hW2⟩ : ∃ W2, W2 = (w.alloc (.cells #[.int .u8 5, .int .u64 a, .int .u64 b, .int .u64 c, .int .u64 d, .int .u64 e, .int .u64 f] 43)).alloc (.cells #[.int .i64 0, .bool false, .int .u64 0, .int .u64 0, .int .i64 0] 33) := ⟨_, rfl⟩
  have hn2 : Nw w W2 := by rw [hW2]; exact (by repeat (first | exact Xt.Nw.refl _ | refine Xt.Nw.drew ?_ | refine Xt.Nw.drewN ?_ _ | refine Xt.Nw.alloc ?_ _ | refine Xt.Nw.joined ?_ | refine Xt.Nw.drewd ?_ | refine Xt.Nw.drewdN ?_ | refine Xt.Nw.ext ?_ | refine Xt.Nw.ext_some ?_ (by assumption) | refine Xt.Nw.setCell ?_ (by simp [go_sem] <;> omega) _))
  have hf2 : Fr w W2 ⟨5, a, b, c, d, e, f⟩ := by rw [hW2]; exact Fr.made w 5 a b c d e f
  have HF2 := Lib.hid hf2
  obtain ⟨hs2, q0, q1, q2, q3, q4, q5, q6, -⟩ := hf2
  have HN2 := Lib.hid hn2
  have HW2 := Lib.hid hW2
  have HS2 := Lib.hid hs2
  simp only at q0 q1 q2 q3 q4 q5 q6
  replace m1 := cell_nw m1 hn2
  have hxm := unfootm h
  have hxb : w.heap.size ∉ foot gp v := unfootn h (Nat.le_refl _)
  have HLL := Lib.hid hl
  clear h hl hn2 hW2 hs2
  go_enter Tryz.func59, Tryz.ntmps59
  go_upto_region 1 with (fail)
  rw [← HW2.out]
  go_region_held3 (fun w' => w'.cell? ⟨gm, 1, none⟩ = some (.pointer (some ⟨gp, 0, none⟩)) ∧ w'.cell? ⟨w.heap.size, 1, none⟩ = some (.int .u64 a) ∧ w'.cell? ⟨w.heap.size, 3, none⟩ = some (.int .u64 c)) (first | exact ⟨m1, q1, q3⟩ | exact ⟨hu.chg.cell m1 hxm, hu.chg.cell q1 hxb, hu.chg.cell q3 hxb⟩)
    ((first | (go_at_call 95; refine (HS.out W2.drew (Nw.drew HN2.out)).mono ?_; rintro e W3 ⟨rfl, v', hu⟩)))
  have hmu := MUp.map (H.out.nw (Nw.drew HN2.out)) hu
  obtain ⟨hs4, -, -, -, -, -, -, -, r0, r1, r2, r3, r4, z0, z1, z2, z3, z4⟩ := (HF2.out.nw (Nw.drew (Nw.refl W2))).foot H.out hmu.chg
  have HU := Lib.hid hmu
  haveI : In (w.heap.size + 1) W3 := ⟨hs4⟩
  clear hu hmu hs4
  go_wp2
  refine bodyPost_ret (v := res5 0 bb 0 y 0) ?_ rfl ⟨rfl, _, MUp.res (Nw.drew HN2.out) (Nat.le_succ _) HS2.out H.out HU.out ⟨0, bb, 0, y, 0⟩⟩
  simp [results, Tryz.results59, go_sem, r0, r1, r2, r3, r4]
set_option maxRecDepth 20000 in
set_option maxHeartbeats 8000000 in
theorem m_remove (w : World) (p : Pl) (s : Md) (h : MAt w p s) (hl : s.l.length ≤ 500000) (t : Int) (a b c d e f : Int) :
    Calls Tryz.prog 60 #[.pointer (some ⟨p.gm, 0, none⟩), .int .i64 t, op7 6 a b c d e f] w fun q w' => q = .returned (resV ⟨0, hasK a s.l, 0, valL a s.l, 0⟩) ∧ ∃ p', MUp w p { s with l := delL a s.l } p' w' := by
  obtain ⟨gm, gt, gp, v⟩ := p
  have m1 : w.cell? ⟨gm, 1, none⟩ = some (.pointer (some ⟨gp, 0, none⟩)) := h.m1
  haveI : In gm w := ⟨h.im⟩
  have H := Lib.hid h
  unfold resV
  simp only
  have HS := Lib.hid (fun W (hw : Nw w W) => del_om ((h.nw hw).om : OM W gp v s.l) (by omega) a)
  obtain ⟨y, hy⟩ : ∃ y, y = valL a s.l := ⟨_, rfl⟩
  obtain ⟨bb, hb⟩ : ∃ y, y = hasK a s.l := ⟨_, rfl⟩
  rw [← hy, ← hb] at HS ⊢
  clear hy hb
  obtain ⟨W2, hW2⟩ : ∃ W2, W2 = (w.alloc (.cells #[.int .u8 6, .int .u64 a, .int .u64 b, .int .u64 c, .int .u64 d, .int .u64 e, .int .u64 f] 43)).alloc (.cells #[.int .i64 0, .bool false, .int .u64 0, .int .u64 0, .int .i64 0] 33) := ⟨_, rfl⟩
  have hn2 : Nw w W2 := by rw [hW2]; exact (by repeat (first | exact Xt.Nw.refl _ | refine Xt.Nw.drew ?_ | refine Xt.Nw.drewN ?_ _ | refine Xt.Nw.alloc ?_ _ | refine Xt.Nw.joined ?_ | refine Xt.Nw.drewd ?_ | refine Xt.Nw.drewdN ?_ | refine Xt.Nw.ext ?_ | refine Xt.Nw.ext_some ?_ (by assumption) | refine Xt.Nw.setCell ?_ (by simp [go_sem] <;> omega) _))
  have hf2 : Fr w W2 ⟨6, a, b, c, d, e, f⟩ := by rw [hW2]; exact Fr.made w 6 a b c d e f
  have HF2 := Lib.hid hf2
  obtain ⟨hs2, q0, q1, q2, q3, q4, q5, q6, -⟩ := hf2
  have HN2 := Lib.hid hn2
  have HW2 := Lib.hid hW2
  have HS2 := Lib.hid hs2
  simp only at q0 q1 q2 q3 q4 q5 q6
  replace m1 := cell_nw m1 hn2
  have hxm := unfootm h
  have hxb : w.heap.size ∉ foot gp v := unfootn h (Nat.le_refl _)
  have HLL := Lib.hid hl
  clear h hl hn2 hW2 hs2
  go_enter Tryz.func60, Tryz.ntmps60
  go_upto_region 1 with (fail)
  rw [← HW2.out]
  go_region_held3 (fun w' => w'.cell? ⟨gm, 1, none⟩ = some (.pointer (some ⟨gp, 0, none⟩)) ∧ w'.cell? ⟨w.heap.size, 1, none⟩ = some (.int .u64 a)) (first | exact ⟨m1, q1⟩ | exact ⟨hu.chg.cell m1 hxm, hu.chg.cell q1 hxb⟩)
    ((first | (go_at_call 96; refine (HS.out W2.drew (Nw.drew HN2.out)).mono ?_; rintro e W3 ⟨rfl, v', hu⟩)))
  have hmu := MUp.map (H.out.nw (Nw.drew HN2.out)) hu
  obtain ⟨hs4, -, -, -, -, -, -, -, r0, r1, r2, r3, r4, z0, z1, z2, z3, z4⟩ := (HF2.out.nw (Nw.drew (Nw.refl W2))).foot H.out hmu.chg
  have HU := Lib.hid hmu
  haveI : In (w.heap.size + 1) W3 := ⟨hs4⟩
  clear hu hmu hs4
  go_wp2
  refine bodyPost_ret (v := res5 0 bb 0 y 0) ?_ rfl ⟨rfl, _, MUp.res (Nw.drew HN2.out) (Nat.le_succ _) HS2.out H.out HU.out ⟨0, bb, 0, y, 0⟩⟩
  simp [results, Tryz.results60, go_sem, r0, r1, r2, r3, r4]
end Go.Proofs.YtfnapkfdocabcaaGreat
namespace Go.Proofs.YtfnapkfdocabcaaGreat
open Go.RowKit Go.Xt
/-! The model's methods at any state: swap, move, removeRange. -/
set_option maxRecDepth 20000 in
set_option maxHeartbeats 8000000 in
theorem m_swap1 (w : World) (p : Pl) (s : Md) (h : MAt w p s) (hl : s.l.length ≤ 500000) (t : Int) (a b c d e f : Int) (hcas : casB a d s.l = true) :
    Calls Tryz.prog 61 #[.pointer (some ⟨p.gm, 0, none⟩), .int .i64 t, op7 7 a b c d e f] w fun q w' => q = .returned (resV ⟨0, hasK a s.l, 0, valL a s.l, 1⟩) ∧ ∃ p', MUp w p { s with l := casL a d c s.l } p' w' := by
  obtain ⟨gm, gt, gp, v⟩ := p
  have m1 : w.cell? ⟨gm, 1, none⟩ = some (.pointer (some ⟨gp, 0, none⟩)) := h.m1
  haveI : In gm w := ⟨h.im⟩
  have H := Lib.hid h
  unfold resV
  simp only
  have HS := Lib.hid (fun W (hw : Nw w W) => cas_om ((h.nw hw).om : OM W gp v s.l) (by omega) a d c)
  obtain ⟨y, hy⟩ : ∃ y, y = valL a s.l := ⟨_, rfl⟩
  obtain ⟨bb, hb⟩ : ∃ y, y = hasK a s.l := ⟨_, rfl⟩
  rw [hcas, ← hy, ← hb] at HS
  rw [← hy, ← hb]
  clear hy hb hcas
  obtain ⟨W2, hW2⟩ : ∃ W2, W2 = (w.alloc (.cells #[.int .u8 7, .int .u64 a, .int .u64 b, .int .u64 c, .int .u64 d, .int .u64 e, .int .u64 f] 43)).alloc (.cells #[.int .i64 0, .bool false, .int .u64 0, .int .u64 0, .int .i64 0] 33) := ⟨_, rfl⟩
  have hn2 : Nw w W2 := by rw [hW2]; exact (by repeat (first | exact Xt.Nw.refl _ | refine Xt.Nw.drew ?_ | refine Xt.Nw.drewN ?_ _ | refine Xt.Nw.alloc ?_ _ | refine Xt.Nw.joined ?_ | refine Xt.Nw.drewd ?_ | refine Xt.Nw.drewdN ?_ | refine Xt.Nw.ext ?_ | refine Xt.Nw.ext_some ?_ (by assumption) | refine Xt.Nw.setCell ?_ (by simp [go_sem] <;> omega) _))
  have hf2 : Fr w W2 ⟨7, a, b, c, d, e, f⟩ := by rw [hW2]; exact Fr.made w 7 a b c d e f
  have HF2 := Lib.hid hf2
  obtain ⟨hs2, q0, q1, q2, q3, q4, q5, q6, -⟩ := hf2
  have HN2 := Lib.hid hn2
  have HW2 := Lib.hid hW2
  have HS2 := Lib.hid hs2
  simp only at q0 q1 q2 q3 q4 q5 q6
  replace m1 := cell_nw m1 hn2
  have hxm := unfootm h
  have hxb : w.heap.size ∉ foot gp v := unfootn h (Nat.le_refl _)
  have HLL := Lib.hid hl
  clear h hl hn2 hW2 hs2
  go_enter Tryz.func61, Tryz.ntmps61
  go_upto_region 1 with (fail)
  rw [← HW2.out]
  go_region_held3 (fun w' => w'.cell? ⟨gm, 1, none⟩ = some (.pointer (some ⟨gp, 0, none⟩)) ∧ w'.cell? ⟨w.heap.size, 1, none⟩ = some (.int .u64 a) ∧ w'.cell? ⟨w.heap.size, 3, none⟩ = some (.int .u64 c) ∧ w'.cell? ⟨w.heap.size, 4, none⟩ = some (.int .u64 d)) (first | exact ⟨m1, q1, q3, q4⟩ | exact ⟨hu.chg.cell m1 hxm, hu.chg.cell q1 hxb, hu.chg.cell q3 hxb, hu.chg.cell q4 hxb⟩)
    ((first | (go_at_call 97; refine (HS.out W2.drew (Nw.drew HN2.out)).mono ?_; rintro e W3 ⟨rfl, v', hu⟩)))
  have hmu := MUp.map (H.out.nw (Nw.drew HN2.out)) hu
  obtain ⟨hs4, -, -, -, -, -, -, -, r0, r1, r2, r3, r4, z0, z1, z2, z3, z4⟩ := (HF2.out.nw (Nw.drew (Nw.refl W2))).foot H.out hmu.chg
  have HU := Lib.hid hmu
  haveI : In (w.heap.size + 1) W3 := ⟨hs4⟩
  clear hu hmu hs4
  go_wp2
  have hfin := (MUp.res (Nw.drew HN2.out) (Nat.le_succ _) HS2.out H.out HU.out ⟨0, bb, 0, y, 1⟩).nw (Nw.alloc (Nw.refl _) (.cells #[.int .i64 0, .bool bb, .int .u64 0, .int .u64 y, .int .i64 1] 33))
  refine bodyPost_ret (v := res5 0 bb 0 y 1) ?_ rfl ⟨rfl, _, hfin⟩
  simp [results, Tryz.results61, go_sem, r0, r1, r2, r3, r4]
set_option maxRecDepth 20000 in
set_option maxHeartbeats 8000000 in
theorem m_swap0 (w : World) (p : Pl) (s : Md) (h : MAt w p s) (hl : s.l.length ≤ 500000) (t : Int) (a b c d e f : Int) (hcas : casB a d s.l = false) :
    Calls Tryz.prog 61 #[.pointer (some ⟨p.gm, 0, none⟩), .int .i64 t, op7 7 a b c d e f] w fun q w' => q = .returned (resV ⟨0, hasK a s.l, 0, valL a s.l, 0⟩) ∧ ∃ p', MUp w p { s with l := casL a d c s.l } p' w' := by
  obtain ⟨gm, gt, gp, v⟩ := p
  have m1 : w.cell? ⟨gm, 1, none⟩ = some (.pointer (some ⟨gp, 0, none⟩)) := h.m1
  haveI : In gm w := ⟨h.im⟩
  have H := Lib.hid h
  unfold resV
  simp only
  have HS := Lib.hid (fun W (hw : Nw w W) => cas_om ((h.nw hw).om : OM W gp v s.l) (by omega) a d c)
  obtain ⟨y, hy⟩ : ∃ y, y = valL a s.l := ⟨_, rfl⟩
  obtain ⟨bb, hb⟩ : ∃ y, y = hasK a s.l := ⟨_, rfl⟩
  rw [hcas, ← hy, ← hb] at HS
  rw [← hy, ← hb]
  clear hy hb hcas
  obtain ⟨W2, hW2⟩ : ∃ W2, W2 = (w.alloc (.cells #[.int .u8 7, .int .u64 a, .int .u64 b, .int .u64 c, .int .u64 d, .int .u64 e, .int .u64 f] 43)).alloc (.cells #[.int .i64 0, .bool false, .int .u64 0, .int .u64 0, .int .i64 0] 33) := ⟨_, rfl⟩
  have hn2 : Nw w W2 := by rw [hW2]; exact (by repeat (first | exact Xt.Nw.refl _ | refine Xt.Nw.drew ?_ | refine Xt.Nw.drewN ?_ _ | refine Xt.Nw.alloc ?_ _ | refine Xt.Nw.joined ?_ | refine Xt.Nw.drewd ?_ | refine Xt.Nw.drewdN ?_ | refine Xt.Nw.ext ?_ | refine Xt.Nw.ext_some ?_ (by assumption) | refine Xt.Nw.setCell ?_ (by simp [go_sem] <;> omega) _))
  have hf2 : Fr w W2 ⟨7, a, b, c, d, e, f⟩ := by rw [hW2]; exact Fr.made w 7 a b c d e f
  have HF2 := Lib.hid hf2
  obtain ⟨hs2, q0, q1, q2, q3, q4, q5, q6, -⟩ := hf2
  have HN2 := Lib.hid hn2
  have HW2 := Lib.hid hW2
  have HS2 := Lib.hid hs2
  simp only at q0 q1 q2 q3 q4 q5 q6
  replace m1 := cell_nw m1 hn2
  have hxm := unfootm h
  have hxb : w.heap.size ∉ foot gp v := unfootn h (Nat.le_refl _)
  have HLL := Lib.hid hl
  clear h hl hn2 hW2 hs2
  go_enter Tryz.func61, Tryz.ntmps61
  go_upto_region 1 with (fail)
  rw [← HW2.out]
  go_region_held3 (fun w' => w'.cell? ⟨gm, 1, none⟩ = some (.pointer (some ⟨gp, 0, none⟩)) ∧ w'.cell? ⟨w.heap.size, 1, none⟩ = some (.int .u64 a) ∧ w'.cell? ⟨w.heap.size, 3, none⟩ = some (.int .u64 c) ∧ w'.cell? ⟨w.heap.size, 4, none⟩ = some (.int .u64 d)) (first | exact ⟨m1, q1, q3, q4⟩ | exact ⟨hu.chg.cell m1 hxm, hu.chg.cell q1 hxb, hu.chg.cell q3 hxb, hu.chg.cell q4 hxb⟩)
    ((first | (go_at_call 97; refine (HS.out W2.drew (Nw.drew HN2.out)).mono ?_; rintro e W3 ⟨rfl, v', hu⟩)))
  have hmu := MUp.map (H.out.nw (Nw.drew HN2.out)) hu
  obtain ⟨hs4, -, -, -, -, -, -, -, r0, r1, r2, r3, r4, z0, z1, z2, z3, z4⟩ := (HF2.out.nw (Nw.drew (Nw.refl W2))).foot H.out hmu.chg
  have HU := Lib.hid hmu
  haveI : In (w.heap.size + 1) W3 := ⟨hs4⟩
  clear hu hmu hs4
  go_wp2
  have hfin := (MUp.res (Nw.drew HN2.out) (Nat.le_succ _) HS2.out H.out HU.out ⟨0, bb, 0, y, 0⟩).nw (Nw.alloc (Nw.refl _) (.cells #[.int .i64 0, .bool bb, .int .u64 0, .int .u64 y, .int .i64 0] 33))
  refine bodyPost_ret (v := res5 0 bb 0 y 0) ?_ rfl ⟨rfl, _, hfin⟩
  simp [results, Tryz.results61, go_sem, r0, r1, r2, r3, r4]
theorem m_swap (w : World) (p : Pl) (s : Md) (h : MAt w p s) (hl : s.l.length ≤ 500000) (t : Int) (a b c d e f : Int) :
    Calls Tryz.prog 61 #[.pointer (some ⟨p.gm, 0, none⟩), .int .i64 t, op7 7 a b c d e f] w fun e w' => e = .returned (resV ⟨0, hasK a s.l, 0, valL a s.l, if casB a d s.l = true then 1 else 0⟩) ∧ ∃ p', MUp w p { s with l := casL a d c s.l } p' w' := by
  cases hc : casB a d s.l with
  | true => exact m_swap1 w p s h hl t a b c d e f hc
  | false => exact m_swap0 w p s h hl t a b c d e f hc
set_option maxRecDepth 20000 in
set_option maxHeartbeats 8000000 in
theorem m_drop (w : World) (p : Pl) (s : Md) (h : MAt w p s) (hl : s.l.length ≤ 500000) (t : Int) (a b c d e f : Int) (hab : a ≤ b) :
    Calls Tryz.prog 63 #[.pointer (some ⟨p.gm, 0, none⟩), .int .i64 t, op7 9 a b c d e f] w fun q w' => q = .returned (resV ⟨0, false, 0, 0, (inR a b s.l).length⟩) ∧ ∃ p', MUp w p { s with l := outR a b s.l } p' w' := by
  obtain ⟨gm, gt, gp, v⟩ := p
  have m1 : w.cell? ⟨gm, 1, none⟩ = some (.pointer (some ⟨gp, 0, none⟩)) := h.m1
  haveI : In gm w := ⟨h.im⟩
  have H := Lib.hid h
  unfold resV
  simp only
  have HS := Lib.hid (fun W (hw : Nw w W) => delr_om ((h.nw hw).om : OM W gp v s.l) (by omega) a b hab)
  obtain ⟨n, hn⟩ : ∃ n : Int, n = (inR a b s.l).length := ⟨_, rfl⟩
  rw [← hn] at HS ⊢
  clear hn
  obtain ⟨W2, hW2⟩ : ∃ W2, W2 = (w.alloc (.cells #[.int .u8 9, .int .u64 a, .int .u64 b, .int .u64 c, .int .u64 d, .int .u64 e, .int .u64 f] 43)).alloc (.cells #[.int .i64 0, .bool false, .int .u64 0, .int .u64 0, .int .i64 0] 33) := ⟨_, rfl⟩
  have hn2 : Nw w W2 := by rw [hW2]; exact (by repeat (first | exact Xt.Nw.refl _ | refine Xt.Nw.drew ?_ | refine Xt.Nw.drewN ?_ _ | refine Xt.Nw.alloc ?_ _ | refine Xt.Nw.joined ?_ | refine Xt.Nw.drewd ?_ | refine Xt.Nw.drewdN ?_ | refine Xt.Nw.ext ?_ | refine Xt.Nw.ext_some ?_ (by assumption) | refine Xt.Nw.setCell ?_ (by simp [go_sem] <;> omega) _))
  have hf2 : Fr w W2 ⟨9, a, b, c, d, e, f⟩ := by rw [hW2]; exact Fr.made w 9 a b c d e f
  have HF2 := Lib.hid hf2
  obtain ⟨hs2, q0, q1, q2, q3, q4, q5, q6, -⟩ := hf2
  have HN2 := Lib.hid hn2
  have HW2 := Lib.hid hW2
  have HS2 := Lib.hid hs2
  simp only at q0 q1 q2 q3 q4 q5 q6
  replace m1 := cell_nw m1 hn2
  have hxm := unfootm h
  have hxb : w.heap.size ∉ foot gp v := unfootn h (Nat.le_refl _)
  clear h hl hn2 hW2 hs2
  go_enter Tryz.func63, Tryz.ntmps63
  go_upto_region 1 with (fail)
  rw [← HW2.out]
  go_region_held3 (fun w' => w'.cell? ⟨gm, 1, none⟩ = some (.pointer (some ⟨gp, 0, none⟩)) ∧ w'.cell? ⟨w.heap.size, 0, none⟩ = some (.int .u8 9) ∧ w'.cell? ⟨w.heap.size, 1, none⟩ = some (.int .u64 a) ∧ w'.cell? ⟨w.heap.size, 2, none⟩ = some (.int .u64 b) ∧ w'.cell? ⟨w.heap.size, 3, none⟩ = some (.int .u64 c) ∧ w'.cell? ⟨w.heap.size, 4, none⟩ = some (.int .u64 d) ∧ w'.cell? ⟨w.heap.size, 5, none⟩ = some (.int .u64 e) ∧ w'.cell? ⟨w.heap.size, 6, none⟩ = some (.int .u64 f)) (first | exact ⟨m1, q0, q1, q2, q3, q4, q5, q6⟩ | exact ⟨cell_nw m1 hnk, cell_nw q0 hnk, cell_nw q1 hnk, cell_nw q2 hnk, cell_nw q3 hnk, cell_nw q4 hnk, cell_nw q5 hnk, cell_nw q6 hnk⟩ | exact ⟨hu.chg.cell (cell_nw m1 hnk) hxm, hu.chg.cell (cell_nw q0 hnk) hxb, hu.chg.cell (cell_nw q1 hnk) hxb, hu.chg.cell (cell_nw q2 hnk) hxb, hu.chg.cell (cell_nw q3 hnk) hxb, hu.chg.cell (cell_nw q4 hnk) hxb, hu.chg.cell (cell_nw q5 hnk) hxb, hu.chg.cell (cell_nw q6 hnk) hxb⟩)
    ((first | (go_at_call 99; refine (keys_any _ _ _ _ _ _ _ _).mono ?_; rintro e Wk ⟨rfl, hnk0⟩; have hnk : Nw W2 Wk := (Nw.drew (Nw.refl W2)).trans hnk0) | (go_at_call 100; refine (HS.out _ (HN2.out.trans hnk)).mono ?_; rintro e W3 ⟨rfl, v', hu⟩)))
  have hmu := MUp.map (H.out.nw (HN2.out.trans hnk)) hu
  obtain ⟨hs4, -, -, -, -, -, -, -, r0, r1, r2, r3, r4, z0, z1, z2, z3, z4⟩ := (HF2.out.nw hnk).foot H.out hmu.chg
  have HU := Lib.hid hmu
  have HNK := Lib.hid hnk
  clear hu hmu hs4 hnk hnk0
  go_wp2
  refine bodyPost_ret (v := res5 0 false 0 0 n) ?_ rfl ⟨rfl, _, MUp.res (HN2.out.trans HNK.out) (Nat.le_succ _) (Nat.lt_of_lt_of_le HS2.out HNK.out.grown.size) H.out HU.out ⟨0, false, 0, 0, n⟩⟩
  simp [results, Tryz.results63, go_sem, r0, r1, r2, r3, r4]
set_option maxRecDepth 20000 in
set_option maxHeartbeats 8000000 in
theorem m_move (w : World) (p : Pl) (s : Md) (h : MAt w p s) (hl : s.l.length ≤ 500000) (t : Int) (a b c d e f : Int) (hab : a ≤ b) (ha : 0 ≤ a) (he : 0 < e) (he2 : e ≤ 18446744073709551615 - b) :
    Calls Tryz.prog 62 #[.pointer (some ⟨p.gm, 0, none⟩), .int .i64 t, op7 8 a b c d e f] w fun q w' => q = .returned (resV ⟨0, false, 0, 0, (inR a b s.l).length⟩) ∧ ∃ p', MUp w p { s with l := moveL a b e s.l } p' w' := by
  obtain ⟨gm, gt, gp, v⟩ := p
  have m1 : w.cell? ⟨gm, 1, none⟩ = some (.pointer (some ⟨gp, 0, none⟩)) := h.m1
  haveI : In gm w := ⟨h.im⟩
  have H := Lib.hid h
  unfold resV
  simp only
  have HS := Lib.hid (fun W (hw : Nw w W) => move_om ((h.nw hw).om : OM W gp v s.l) hl a b e hab ha he he2)
  obtain ⟨n, hn⟩ : ∃ n : Int, n = (inR a b s.l).length := ⟨_, rfl⟩
  rw [← hn] at HS ⊢
  clear hn
  obtain ⟨W2, hW2⟩ : ∃ W2, W2 = (w.alloc (.cells #[.int .u8 8, .int .u64 a, .int .u64 b, .int .u64 c, .int .u64 d, .int .u64 e, .int .u64 f] 43)).alloc (.cells #[.int .i64 0, .bool false, .int .u64 0, .int .u64 0, .int .i64 0] 33) := ⟨_, rfl⟩
  have hn2 : Nw w W2 := by rw [hW2]; exact (by repeat (first | exact Xt.Nw.refl _ | refine Xt.Nw.drew ?_ | refine Xt.Nw.drewN ?_ _ | refine Xt.Nw.alloc ?_ _ | refine Xt.Nw.joined ?_ | refine Xt.Nw.drewd ?_ | refine Xt.Nw.drewdN ?_ | refine Xt.Nw.ext ?_ | refine Xt.Nw.ext_some ?_ (by assumption) | refine Xt.Nw.setCell ?_ (by simp [go_sem] <;> omega) _))
  have hf2 : Fr w W2 ⟨8, a, b, c, d, e, f⟩ := by rw [hW2]; exact Fr.made w 8 a b c d e f
  have HF2 := Lib.hid hf2
  obtain ⟨hs2, q0, q1, q2, q3, q4, q5, q6, -⟩ := hf2
  have HN2 := Lib.hid hn2
  have HW2 := Lib.hid hW2
  have HS2 := Lib.hid hs2
  simp only at q0 q1 q2 q3 q4 q5 q6
  replace m1 := cell_nw m1 hn2
  have hxm := unfootm h
  have hxb : w.heap.size ∉ foot gp v := unfootn h (Nat.le_refl _)
  clear h hl hn2 hW2 hs2
  go_enter Tryz.func62, Tryz.ntmps62
  go_upto_region 1 with (fail)
  rw [← HW2.out]
  go_region_held3 (fun w' => w'.cell? ⟨gm, 1, none⟩ = some (.pointer (some ⟨gp, 0, none⟩)) ∧ w'.cell? ⟨w.heap.size, 0, none⟩ = some (.int .u8 8) ∧ w'.cell? ⟨w.heap.size, 1, none⟩ = some (.int .u64 a) ∧ w'.cell? ⟨w.heap.size, 2, none⟩ = some (.int .u64 b) ∧ w'.cell? ⟨w.heap.size, 3, none⟩ = some (.int .u64 c) ∧ w'.cell? ⟨w.heap.size, 4, none⟩ = some (.int .u64 d) ∧ w'.cell? ⟨w.heap.size, 5, none⟩ = some (.int .u64 e) ∧ w'.cell? ⟨w.heap.size, 6, none⟩ = some (.int .u64 f)) (first | exact ⟨m1, q0, q1, q2, q3, q4, q5, q6⟩ | exact ⟨cell_nw m1 hnk, cell_nw q0 hnk, cell_nw q1 hnk, cell_nw q2 hnk, cell_nw q3 hnk, cell_nw q4 hnk, cell_nw q5 hnk, cell_nw q6 hnk⟩ | exact ⟨hu.chg.cell (cell_nw m1 hnk) hxm, hu.chg.cell (cell_nw q0 hnk) hxb, hu.chg.cell (cell_nw q1 hnk) hxb, hu.chg.cell (cell_nw q2 hnk) hxb, hu.chg.cell (cell_nw q3 hnk) hxb, hu.chg.cell (cell_nw q4 hnk) hxb, hu.chg.cell (cell_nw q5 hnk) hxb, hu.chg.cell (cell_nw q6 hnk) hxb⟩)
    ((first | (go_at_call 99; refine (keys_any _ _ _ _ _ _ _ _).mono ?_; rintro e Wk ⟨rfl, hnk0⟩; have hnk : Nw W2 Wk := (Nw.drew (Nw.refl W2)).trans hnk0) | (go_at_call 98; refine (HS.out _ (HN2.out.trans hnk)).mono ?_; rintro e W3 ⟨rfl, v', hu⟩)))
  have hmu := MUp.map (H.out.nw (HN2.out.trans hnk)) hu
  obtain ⟨hs4, -, -, -, -, -, -, -, r0, r1, r2, r3, r4, z0, z1, z2, z3, z4⟩ := (HF2.out.nw hnk).foot H.out hmu.chg
  have HU := Lib.hid hmu
  have HNK := Lib.hid hnk
  clear hu hmu hs4 hnk hnk0
  go_wp2
  refine bodyPost_ret (v := res5 0 false 0 0 n) ?_ rfl ⟨rfl, _, MUp.res (HN2.out.trans HNK.out) (Nat.le_succ _) (Nat.lt_of_lt_of_le HS2.out HNK.out.grown.size) H.out HU.out ⟨0, false, 0, 0, n⟩⟩
  simp [results, Tryz.results62, go_sem, r0, r1, r2, r3, r4]
end Go.Proofs.YtfnapkfdocabcaaGreat
