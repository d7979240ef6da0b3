import Derived.Test.YtkikdpdainmlcaaGreatGQd
set_option linter.unusedVariables false
set_option linter.unusedSimpArgs false
set_option linter.unnecessarySimpa false
namespace Go.Proofs.YtkikdpdainmlcaaGreat
open Go.RowKit Go.Xt
/-! The model's methods at any state. -/
theorem unfootm {gm gt gp : Nat} {v : Value} {W : World} {s : Md} (h : MAt W ⟨gm, gt, gp, v⟩ s) : gm ∉ foot gp v := fun e => by
  rcases mem_foot.1 e with e | e
  · exact h.nmp e
  · exact h.nmv e
theorem unfootn {gm gt gp : Nat} {v : Value} {W : World} {s : Md} (h : MAt W ⟨gm, gt, gp, v⟩ s) {g : Nat} (hg : W.heap.size ≤ g) : g ∉ foot gp v := fun e => by
  rcases mem_foot.1 e with e | e
  · have := h.om.lt; simp at this; omega
  · have := h.om.rlt (g := g) e; omega
set_option maxRecDepth 20000 in
set_option maxHeartbeats 8000000 in
theorem m_get (w : World) (p : Pl) (s : Md) (h : MAt w p s) (hl : s.l.length ≤ 500000) (t : Int) (a b c d e f : Int) :
    Calls Tryz.prog 121 #[.pointer (some ⟨p.gm, 0, none⟩), .int .i64 t, op7 3 a b c d e f] w fun q w' => q = .returned (resV ⟨0, hasK a s.l, 0, valL a s.l, 0⟩) ∧ ∃ p', MUp w p s p' w' := by
  obtain ⟨gm, gt, gp, v⟩ := p
  have m1 : w.cell? ⟨gm, 1, none⟩ = some (.pointer (some ⟨gp, 0, none⟩)) := h.m1
  haveI : In gm w := ⟨h.im⟩
  have H := Lib.hid h
  unfold resV
  simp only
  have HS := Lib.hid (fun W (hw : Nw w W) => get_om ((h.nw hw).om : OM W gp v s.l) (by omega) a)
  obtain ⟨y, hy⟩ : ∃ y, y = valL a s.l := ⟨_, rfl⟩
  obtain ⟨bb, hb⟩ : ∃ y, y = hasK a s.l := ⟨_, rfl⟩
  rw [← hy, ← hb] at HS ⊢
  clear h hl hy hb
  go_enter Tryz.func121, Tryz.ntmps121
  go_upto_region 1 with (fail)
  (refine wp_region_nw (by kernel_rfl) (by kernel_rfl) ?_; (repeat (go_big_quiet_step ((go_at_call 134; exact quiet_of (HS.out _ (nwa)))))); refine wpQuiet_nil ?_; intro _ hreg; obtain ⟨dW, rfl⟩ : Nw _ _ := hreg)
  go_wp2
  refine bodyPost_ret (v := res5 0 bb 0 y 0) ?_ rfl ⟨rfl, _, MUp.same H.out nwa⟩
  simp [results, Tryz.results121, go_sem, *]
set_option maxRecDepth 20000 in
set_option maxHeartbeats 8000000 in
theorem m_size (w : World) (p : Pl) (s : Md) (h : MAt w p s) (hl : s.l.length ≤ 500000) (t : Int) (a b c d e f : Int) :
    Calls Tryz.prog 128 #[.pointer (some ⟨p.gm, 0, none⟩), .int .i64 t, op7 10 a b c d e f] w fun q w' => q = .returned (resV ⟨0, false, 0, 0, s.l.length⟩) ∧ ∃ p', MUp w p s p' w' := by
  obtain ⟨gm, gt, gp, v⟩ := p
  have m1 : w.cell? ⟨gm, 1, none⟩ = some (.pointer (some ⟨gp, 0, none⟩)) := h.m1
  haveI : In gm w := ⟨h.im⟩
  have H := Lib.hid h
  unfold resV
  simp only
  have HS := Lib.hid (fun W (hw : Nw w W) => len_om ((h.nw hw).om : OM W gp v s.l))
  obtain ⟨y, hy⟩ : ∃ y : Int, y = s.l.length := ⟨_, rfl⟩
  rw [← hy] at HS ⊢
  clear h hl hy
  go_enter Tryz.func128, Tryz.ntmps128
  go_wp2_with (go_at_call 150; refine (HS.out _ (nwa)).mono ?_; rintro e w' ⟨rfl, dW, rfl⟩)
  refine bodyPost_ret (v := res5 0 false 0 0 y) ?_ rfl ⟨rfl, _, MUp.same H.out nwa⟩
  simp [results, Tryz.results128, go_sem, *]
set_option maxRecDepth 20000 in
set_option maxHeartbeats 8000000 in
theorem m_reclaim (w : World) (p : Pl) (s : Md) (h : MAt w p s) (t : Int) (a b c d e f : Int) :
    Calls Tryz.prog 133 #[.pointer (some ⟨p.gm, 0, none⟩), .int .i64 t, op7 15 a b c d e f] w fun q w' => q = .returned (resV ⟨0, false, 0, 0, 0⟩) ∧ ∃ p', MUp w p s p' w' := by
  obtain ⟨gm, gt, gp, v⟩ := p
  have m1 : w.cell? ⟨gm, 1, none⟩ = some (.pointer (some ⟨gp, 0, none⟩)) := h.m1
  haveI : In gm w := ⟨h.im⟩
  have H := Lib.hid h
  unfold resV
  simp only
  clear h
  go_enter Tryz.func133, Tryz.ntmps133
  go_wp2
  refine bodyPost_ret (v := res5 0 false 0 0 0) ?_ rfl ⟨rfl, _, MUp.same H.out nwa⟩
  simp [results, Tryz.results133, go_sem, *]
set_option maxRecDepth 20000 in
set_option maxHeartbeats 8000000 in
theorem m_put (w : World) (p : Pl) (s : Md) (h : MAt w p s) (hl : s.l.length ≤ 500000) (t : Int) (a b c d e f : Int) :
    Calls Tryz.prog 122 #[.pointer (some ⟨p.gm, 0, none⟩), .int .i64 t, op7 4 a b c d e f] w fun q w' => q = .returned (resV ⟨0, hasK a s.l, 0, valL a s.l, 0⟩) ∧ ∃ p', MUp w p { s with l := putL a c s.l } p' w' := by
  obtain ⟨gm, gt, gp, v⟩ := p
  have m1 : w.cell? ⟨gm, 1, none⟩ = some (.pointer (some ⟨gp, 0, none⟩)) := h.m1
  haveI : In gm w := ⟨h.im⟩
  have H := Lib.hid h
  unfold resV
  simp only
  have HS := Lib.hid (fun W (hw : Nw w W) => put_om ((h.nw hw).om : OM W gp v s.l) (by omega) a c)
  obtain ⟨y, hy⟩ : ∃ y, y = valL a s.l := ⟨_, rfl⟩
  obtain ⟨bb, hb⟩ : ∃ y, y = hasK a s.l := ⟨_, rfl⟩
  rw [← hy, ← hb] at HS ⊢
  clear hy hb
  obtain ⟨W2, hW2⟩ : ∃ W2, W2 = (w.alloc (.cells #[.int .u8 4, .int .u64 a, .int .u64 b, .int .u64 c, .int .u64 d, .int .u64 e, .int .u64 f] 41)).alloc (.cells #[.int .i64 0, .bool false, .int .u64 0, .int .u64 0, .int .i64 0] 43) := ⟨_, rfl⟩
  have hn2 : Nw w W2 := by rw [hW2]; exact nwa
  have hf2 : Fr w W2 ⟨4, a, b, c, d, e, f⟩ := by rw [hW2]; exact Fr.made w 4 a b c d e f
  have HF2 := Lib.hid hf2
  obtain ⟨hs2, q0, q1, q2, q3, q4, q5, q6, -⟩ := hf2
  have HN2 := Lib.hid hn2
  have HW2 := Lib.hid hW2
  have HS2 := Lib.hid hs2
  simp only at q0 q1 q2 q3 q4 q5 q6
  replace m1 := cell_nw m1 hn2
  have hxm := unfootm h
  have hxb : w.heap.size ∉ foot gp v := unfootn h (Nat.le_refl _)
  have HLL := Lib.hid hl
  clear h hl hn2 hW2 hs2
  go_enter Tryz.func122, Tryz.ntmps122
  go_upto_region 1 with (fail)
  rw [← HW2.out]
  go_region_held3 (fun w' => w'.cell? ⟨gm, 1, none⟩ = some (.pointer (some ⟨gp, 0, none⟩)) ∧ w'.cell? ⟨w.heap.size, 1, none⟩ = some (.int .u64 a) ∧ w'.cell? ⟨w.heap.size, 3, none⟩ = some (.int .u64 c)) (first | exact ⟨m1, q1, q3⟩ | exact ⟨hu.chg.cell m1 hxm, hu.chg.cell q1 hxb, hu.chg.cell q3 hxb⟩)
    ((first | (go_at_call 143; refine (HS.out W2.drew (Nw.drew HN2.out)).mono ?_; rintro e W3 ⟨rfl, v', hu⟩)))
  have hmu := MUp.map (H.out.nw (Nw.drew HN2.out)) hu
  obtain ⟨hs4, -, -, -, -, -, -, -, r0, r1, r2, r3, r4, z0, z1, z2, z3, z4⟩ := (HF2.out.nw (Nw.drew (Nw.refl W2))).foot H.out hmu.chg
  have HU := Lib.hid hmu
  haveI : In (w.heap.size + 1) W3 := ⟨hs4⟩
  clear hu hmu hs4
  go_wp2
  refine bodyPost_ret (v := res5 0 bb 0 y 0) ?_ rfl ⟨rfl, _, MUp.res (Nw.drew HN2.out) (Nat.le_succ _) HS2.out H.out HU.out ⟨0, bb, 0, y, 0⟩⟩
  simp [results, Tryz.results122, go_sem, r0, r1, r2, r3, r4]
set_option maxRecDepth 20000 in
set_option maxHeartbeats 8000000 in
theorem m_add (w : World) (p : Pl) (s : Md) (h : MAt w p s) (hl : s.l.length ≤ 500000) (t : Int) (a b c d e f : Int) :
    Calls Tryz.prog 123 #[.pointer (some ⟨p.gm, 0, none⟩), .int .i64 t, op7 5 a b c d e f] w fun q w' => q = .returned (resV ⟨0, hasK a s.l, 0, valL a s.l, 0⟩) ∧ ∃ p', MUp w p { s with l := addL a c s.l } p' w' := by
  obtain ⟨gm, gt, gp, v⟩ := p
  have m1 : w.cell? ⟨gm, 1, none⟩ = some (.pointer (some ⟨gp, 0, none⟩)) := h.m1
  haveI : In gm w := ⟨h.im⟩
  have H := Lib.hid h
  unfold resV
  simp only
  have HS := Lib.hid (fun W (hw : Nw w W) => add_om ((h.nw hw).om : OM W gp v s.l) (by omega) a c)
  obtain ⟨y, hy⟩ : ∃ y, y = valL a s.l := ⟨_, rfl⟩
  obtain ⟨bb, hb⟩ : ∃ y, y = hasK a s.l := ⟨_, rfl⟩
  rw [← hy, ← hb] at HS ⊢
  clear hy hb
  obtain ⟨W2, hW2⟩ : ∃ W2, W2 = (w.alloc (.cells #[.int .u8 5, .int .u64 a, .int .u64 b, .int .u64 c, .int .u64 d, .int .u64 e, .int .u64 f] 41)).alloc (.cells #[.int .i64 0, .bool false, .int .u64 0, .int .u64 0, .int .i64 0] 43) := ⟨_, rfl⟩
  have hn2 : Nw w W2 := by rw [hW2]; exact nwa
  have hf2 : Fr w W2 ⟨5, a, b, c, d, e, f⟩ := by rw [hW2]; exact Fr.made w 5 a b c d e f
  have HF2 := Lib.hid hf2
  obtain ⟨hs2, q0, q1, q2, q3, q4, q5, q6, -⟩ := hf2
  have HN2 := Lib.hid hn2
  have HW2 := Lib.hid hW2
  have HS2 := Lib.hid hs2
  simp only at q0 q1 q2 q3 q4 q5 q6
  replace m1 := cell_nw m1 hn2
  have hxm := unfootm h
  have hxb : w.heap.size ∉ foot gp v := unfootn h (Nat.le_refl _)
  have HLL := Lib.hid hl
  clear h hl hn2 hW2 hs2
  go_enter Tryz.func123, Tryz.ntmps123
  go_upto_region 1 with (fail)
  rw [← HW2.out]
  go_region_held3 (fun w' => w'.cell? ⟨gm, 1, none⟩ = some (.pointer (some ⟨gp, 0, none⟩)) ∧ w'.cell? ⟨w.heap.size, 1, none⟩ = some (.int .u64 a) ∧ w'.cell? ⟨w.heap.size, 3, none⟩ = some (.int .u64 c)) (first | exact ⟨m1, q1, q3⟩ | exact ⟨hu.chg.cell m1 hxm, hu.chg.cell q1 hxb, hu.chg.cell q3 hxb⟩)
    ((first | (go_at_call 144; refine (HS.out W2.drew (Nw.drew HN2.out)).mono ?_; rintro e W3 ⟨rfl, v', hu⟩)))
  have hmu := MUp.map (H.out.nw (Nw.drew HN2.out)) hu
  obtain ⟨hs4, -, -, -, -, -, -, -, r0, r1, r2, r3, r4, z0, z1, z2, z3, z4⟩ := (HF2.out.nw (Nw.drew (Nw.refl W2))).foot H.out hmu.chg
  have HU := Lib.hid hmu
  haveI : In (w.heap.size + 1) W3 := ⟨hs4⟩
  clear hu hmu hs4
  go_wp2
  refine bodyPost_ret (v := res5 0 bb 0 y 0) ?_ rfl ⟨rfl, _, MUp.res (Nw.drew HN2.out) (Nat.le_succ _) HS2.out H.out HU.out ⟨0, bb, 0, y, 0⟩⟩
  simp [results, Tryz.results123, go_sem, r0, r1, r2, r3, r4]
set_option maxRecDepth 20000 in
set_option maxHeartbeats 8000000 in
theorem m_remove (w : World) (p : Pl) (s : Md) (h : MAt w p s) (hl : s.l.length ≤ 500000) (t : Int) (a b c d e f : Int) :
    Calls Tryz.prog 124 #[.pointer (some ⟨p.gm, 0, none⟩), .int .i64 t, op7 6 a b c d e f] w fun q w' => q = .returned (resV ⟨0, hasK a s.l, 0, valL a s.l, 0⟩) ∧ ∃ p', MUp w p { s with l := delL a s.l } p' w' := by
  obtain ⟨gm, gt, gp, v⟩ := p
  have m1 : w.cell? ⟨gm, 1, none⟩ = some (.pointer (some ⟨gp, 0, none⟩)) := h.m1
  haveI : In gm w := ⟨h.im⟩
  have H := Lib.hid h
  unfold resV
  simp only
  have HS := Lib.hid (fun W (hw : Nw w W) => del_om ((h.nw hw).om : OM W gp v s.l) (by omega) a)
  obtain ⟨y, hy⟩ : ∃ y, y = valL a s.l := ⟨_, rfl⟩
  obtain ⟨bb, hb⟩ : ∃ y, y = hasK a s.l := ⟨_, rfl⟩
  rw [← hy, ← hb] at HS ⊢
  clear hy hb
  obtain ⟨W2, hW2⟩ : ∃ W2, W2 = (w.alloc (.cells #[.int .u8 6, .int .u64 a, .int .u64 b, .int .u64 c, .int .u64 d, .int .u64 e, .int .u64 f] 41)).alloc (.cells #[.int .i64 0, .bool false, .int .u64 0, .int .u64 0, .int .i64 0] 43) := ⟨_, rfl⟩
  have hn2 : Nw w W2 := by rw [hW2]; exact nwa
  have hf2 : Fr w W2 ⟨6, a, b, c, d, e, f⟩ := by rw [hW2]; exact Fr.made w 6 a b c d e f
  have HF2 := Lib.hid hf2
  obtain ⟨hs2, q0, q1, q2, q3, q4, q5, q6, -⟩ := hf2
  have HN2 := Lib.hid hn2
  have HW2 := Lib.hid hW2
  have HS2 := Lib.hid hs2
  simp only at q0 q1 q2 q3 q4 q5 q6
  replace m1 := cell_nw m1 hn2
  have hxm := unfootm h
  have hxb : w.heap.size ∉ foot gp v := unfootn h (Nat.le_refl _)
  have HLL := Lib.hid hl
  clear h hl hn2 hW2 hs2
  go_enter Tryz.func124, Tryz.ntmps124
  go_upto_region 1 with (fail)
  rw [← HW2.out]
  go_region_held3 (fun w' => w'.cell? ⟨gm, 1, none⟩ = some (.pointer (some ⟨gp, 0, none⟩)) ∧ w'.cell? ⟨w.heap.size, 1, none⟩ = some (.int .u64 a)) (first | exact ⟨m1, q1⟩ | exact ⟨hu.chg.cell m1 hxm, hu.chg.cell q1 hxb⟩)
    ((first | (go_at_call 145; refine (HS.out W2.drew (Nw.drew HN2.out)).mono ?_; rintro e W3 ⟨rfl, v', hu⟩)))
  have hmu := MUp.map (H.out.nw (Nw.drew HN2.out)) hu
  obtain ⟨hs4, -, -, -, -, -, -, -, r0, r1, r2, r3, r4, z0, z1, z2, z3, z4⟩ := (HF2.out.nw (Nw.drew (Nw.refl W2))).foot H.out hmu.chg
  have HU := Lib.hid hmu
  haveI : In (w.heap.size + 1) W3 := ⟨hs4⟩
  clear hu hmu hs4
  go_wp2
  refine bodyPost_ret (v := res5 0 bb 0 y 0) ?_ rfl ⟨rfl, _, MUp.res (Nw.drew HN2.out) (Nat.le_succ _) HS2.out H.out HU.out ⟨0, bb, 0, y, 0⟩⟩
  simp [results, Tryz.results124, go_sem, r0, r1, r2, r3, r4]
end Go.Proofs.YtkikdpdainmlcaaGreat
namespace Go.Proofs.YtkikdpdainmlcaaGreat
open Go.RowKit Go.Xt
/-! The model's methods at any state: swap, move, removeRange. -/
set_option maxRecDepth 20000 in
set_option maxHeartbeats 8000000 in
theorem m_swap1 (w : World) (p : Pl) (s : Md) (h : MAt w p s) (hl : s.l.length ≤ 500000) (t : Int) (a b c d e f : Int) (hcas : casB a d s.l = true) :
    Calls Tryz.prog 125 #[.pointer (some ⟨p.gm, 0, none⟩), .int .i64 t, op7 7 a b c d e f] w fun q w' => q = .returned (resV ⟨0, hasK a s.l, 0, valL a s.l, 1⟩) ∧ ∃ p', MUp w p { s with l := casL a d c s.l } p' w' := by
  obtain ⟨gm, gt, gp, v⟩ := p
  have m1 : w.cell? ⟨gm, 1, none⟩ = some (.pointer (some ⟨gp, 0, none⟩)) := h.m1
  haveI : In gm w := ⟨h.im⟩
  have H := Lib.hid h
  unfold resV
  simp only
  have HS := Lib.hid (fun W (hw : Nw w W) => cas_om ((h.nw hw).om : OM W gp v s.l) (by omega) a d c)
  obtain ⟨y, hy⟩ : ∃ y, y = valL a s.l := ⟨_, rfl⟩
  obtain ⟨bb, hb⟩ : ∃ y, y = hasK a s.l := ⟨_, rfl⟩
  rw [hcas, ← hy, ← hb] at HS
  rw [← hy, ← hb]
  clear hy hb hcas
  obtain ⟨W2, hW2⟩ : ∃ W2, W2 = (w.alloc (.cells #[.int .u8 7, .int .u64 a, .int .u64 b, .int .u64 c, .int .u64 d, .int .u64 e, .int .u64 f] 41)).alloc (.cells #[.int .i64 0, .bool false, .int .u64 0, .int .u64 0, .int .i64 0] 43) := ⟨_, rfl⟩
  have hn2 : Nw w W2 := by rw [hW2]; exact nwa
  have hf2 : Fr w W2 ⟨7, a, b, c, d, e, f⟩ := by rw [hW2]; exact Fr.made w 7 a b c d e f
  have HF2 := Lib.hid hf2
  obtain ⟨hs2, q0, q1, q2, q3, q4, q5, q6, -⟩ := hf2
  have HN2 := Lib.hid hn2
  have HW2 := Lib.hid hW2
  have HS2 := Lib.hid hs2
  simp only at q0 q1 q2 q3 q4 q5 q6
  replace m1 := cell_nw m1 hn2
  have hxm := unfootm h
  have hxb : w.heap.size ∉ foot gp v := unfootn h (Nat.le_refl _)
  have HLL := Lib.hid hl
  clear h hl hn2 hW2 hs2
  go_enter Tryz.func125, Tryz.ntmps125
  go_upto_region 1 with (fail)
  rw [← HW2.out]
  go_region_held3 (fun w' => w'.cell? ⟨gm, 1, none⟩ = some (.pointer (some ⟨gp, 0, none⟩)) ∧ w'.cell? ⟨w.heap.size, 1, none⟩ = some (.int .u64 a) ∧ w'.cell? ⟨w.heap.size, 3, none⟩ = some (.int .u64 c) ∧ w'.cell? ⟨w.heap.size, 4, none⟩ = some (.int .u64 d)) (first | exact ⟨m1, q1, q3, q4⟩ | exact ⟨hu.chg.cell m1 hxm, hu.chg.cell q1 hxb, hu.chg.cell q3 hxb, hu.chg.cell q4 hxb⟩)
    ((first | (go_at_call 146; refine (HS.out W2.drew (Nw.drew HN2.out)).mono ?_; rintro e W3 ⟨rfl, v', hu⟩)))
  have hmu := MUp.map (H.out.nw (Nw.drew HN2.out)) hu
  obtain ⟨hs4, -, -, -, -, -, -, -, r0, r1, r2, r3, r4, z0, z1, z2, z3, z4⟩ := (HF2.out.nw (Nw.drew (Nw.refl W2))).foot H.out hmu.chg
  have HU := Lib.hid hmu
  haveI : In (w.heap.size + 1) W3 := ⟨hs4⟩
  clear hu hmu hs4
  go_wp2
  have hfin := (MUp.res (Nw.drew HN2.out) (Nat.le_succ _) HS2.out H.out HU.out ⟨0, bb, 0, y, 1⟩).nw (Nw.alloc (Nw.refl _) (.cells #[.int .i64 0, .bool bb, .int .u64 0, .int .u64 y, .int .i64 1] 43))
  refine bodyPost_ret (v := res5 0 bb 0 y 1) ?_ rfl ⟨rfl, _, hfin⟩
  simp [results, Tryz.results125, go_sem, r0, r1, r2, r3, r4]
set_option maxRecDepth 20000 in
set_option maxHeartbeats 8000000 in
theorem m_swap0 (w : World) (p : Pl) (s : Md) (h : MAt w p s) (hl : s.l.length ≤ 500000) (t : Int) (a b c d e f : Int) (hcas : casB a d s.l = false) :
    Calls Tryz.prog 125 #[.pointer (some ⟨p.gm, 0, none⟩), .int .i64 t, op7 7 a b c d e f] w fun q w' => q = .returned (resV ⟨0, hasK a s.l, 0, valL a s.l, 0⟩) ∧ ∃ p', MUp w p { s with l := casL a d c s.l } p' w' := by
  obtain ⟨gm, gt, gp, v⟩ := p
  have m1 : w.cell? ⟨gm, 1, none⟩ = some (.pointer (some ⟨gp, 0, none⟩)) := h.m1
  haveI : In gm w := ⟨h.im⟩
  have H := Lib.hid h
  unfold resV
  simp only
  have HS := Lib.hid (fun W (hw : Nw w W) => cas_om ((h.nw hw).om : OM W gp v s.l) (by omega) a d c)
  obtain ⟨y, hy⟩ : ∃ y, y = valL a s.l := ⟨_, rfl⟩
  obtain ⟨bb, hb⟩ : ∃ y, y = hasK a s.l := ⟨_, rfl⟩
  rw [hcas, ← hy, ← hb] at HS
  rw [← hy, ← hb]
  clear hy hb hcas
  obtain ⟨W2, hW2⟩ : ∃ W2, W2 = (w.alloc (.cells #[.int .u8 7, .int .u64 a, .int .u64 b, .int .u64 c, .int .u64 d, .int .u64 e, .int .u64 f] 41)).alloc (.cells #[.int .i64 0, .bool false, .int .u64 0, .int .u64 0, .int .i64 0] 43) := ⟨_, rfl⟩
  have hn2 : Nw w W2 := by rw [hW2]; exact nwa
  have hf2 : Fr w W2 ⟨7, a, b, c, d, e, f⟩ := by rw [hW2]; exact Fr.made w 7 a b c d e f
  have HF2 := Lib.hid hf2
  obtain ⟨hs2, q0, q1, q2, q3, q4, q5, q6, -⟩ := hf2
  have HN2 := Lib.hid hn2
  have HW2 := Lib.hid hW2
  have HS2 := Lib.hid hs2
  simp only at q0 q1 q2 q3 q4 q5 q6
  replace m1 := cell_nw m1 hn2
  have hxm := unfootm h
  have hxb : w.heap.size ∉ foot gp v := unfootn h (Nat.le_refl _)
  have HLL := Lib.hid hl
  clear h hl hn2 hW2 hs2
  go_enter Tryz.func125, Tryz.ntmps125
  go_upto_region 1 with (fail)
  rw [← HW2.out]
  go_region_held3 (fun w' => w'.cell? ⟨gm, 1, none⟩ = some (.pointer (some ⟨gp, 0, none⟩)) ∧ w'.cell? ⟨w.heap.size, 1, none⟩ = some (.int .u64 a) ∧ w'.cell? ⟨w.heap.size, 3, none⟩ = some (.int .u64 c) ∧ w'.cell? ⟨w.heap.size, 4, none⟩ = some (.int .u64 d)) (first | exact ⟨m1, q1, q3, q4⟩ | exact ⟨hu.chg.cell m1 hxm, hu.chg.cell q1 hxb, hu.chg.cell q3 hxb, hu.chg.cell q4 hxb⟩)
    ((first | (go_at_call 146; refine (HS.out W2.drew (Nw.drew HN2.out)).mono ?_; rintro e W3 ⟨rfl, v', hu⟩)))
  have hmu := MUp.map (H.out.nw (Nw.drew HN2.out)) hu
  obtain ⟨hs4, -, -, -, -, -, -, -, r0, r1, r2, r3, r4, z0, z1, z2, z3, z4⟩ := (HF2.out.nw (Nw.drew (Nw.refl W2))).foot H.out hmu.chg
  have HU := Lib.hid hmu
  haveI : In (w.heap.size + 1) W3 := ⟨hs4⟩
  clear hu hmu hs4
  go_wp2
  have hfin := (MUp.res (Nw.drew HN2.out) (Nat.le_succ _) HS2.out H.out HU.out ⟨0, bb, 0, y, 0⟩).nw (Nw.alloc (Nw.refl _) (.cells #[.int .i64 0, .bool bb, .int .u64 0, .int .u64 y, .int .i64 0] 43))
  refine bodyPost_ret (v := res5 0 bb 0 y 0) ?_ rfl ⟨rfl, _, hfin⟩
  simp [results, Tryz.results125, go_sem, r0, r1, r2, r3, r4]
theorem m_swap (w : World) (p : Pl) (s : Md) (h : MAt w p s) (hl : s.l.length ≤ 500000) (t : Int) (a b c d e f : Int) :
    Calls Tryz.prog 125 #[.pointer (some ⟨p.gm, 0, none⟩), .int .i64 t, op7 7 a b c d e f] w fun e w' => e = .returned (resV ⟨0, hasK a s.l, 0, valL a s.l, if casB a d s.l = true then 1 else 0⟩) ∧ ∃ p', MUp w p { s with l := casL a d c s.l } p' w' := by
  cases hc : casB a d s.l with
  | true => exact m_swap1 w p s h hl t a b c d e f hc
  | false => exact m_swap0 w p s h hl t a b c d e f hc
set_option maxRecDepth 20000 in
set_option maxHeartbeats 8000000 in
theorem m_drop (w : World) (p : Pl) (s : Md) (h : MAt w p s) (hl : s.l.length ≤ 500000) (t : Int) (a b c d e f : Int) (hab : a ≤ b) :
    Calls Tryz.prog 127 #[.pointer (some ⟨p.gm, 0, none⟩), .int .i64 t, op7 9 a b c d e f] w fun q w' => q = .returned (resV ⟨0, false, 0, 0, (inR a b s.l).length⟩) ∧ ∃ p', MUp w p { s with l := outR a b s.l } p' w' := by
  obtain ⟨gm, gt, gp, v⟩ := p
  have m1 : w.cell? ⟨gm, 1, none⟩ = some (.pointer (some ⟨gp, 0, none⟩)) := h.m1
  haveI : In gm w := ⟨h.im⟩
  have H := Lib.hid h
  unfold resV
  simp only
  have HS := Lib.hid (fun W (hw : Nw w W) => delr_om ((h.nw hw).om : OM W gp v s.l) (by omega) a b hab)
  obtain ⟨n, hn⟩ : ∃ n : Int, n = (inR a b s.l).length := ⟨_, rfl⟩
  rw [← hn] at HS ⊢
  clear hn
  obtain ⟨W2, hW2⟩ : ∃ W2, W2 = (w.alloc (.cells #[.int .u8 9, .int .u64 a, .int .u64 b, .int .u64 c, .int .u64 d, .int .u64 e, .int .u64 f] 41)).alloc (.cells #[.int .i64 0, .bool false, .int .u64 0, .int .u64 0, .int .i64 0] 43) := ⟨_, rfl⟩
  have hn2 : Nw w W2 := by rw [hW2]; exact nwa
  have hf2 : Fr w W2 ⟨9, a, b, c, d, e, f⟩ := by rw [hW2]; exact Fr.made w 9 a b c d e f
  have HF2 := Lib.hid hf2
  obtain ⟨hs2, q0, q1, q2, q3, q4, q5, q6, -⟩ := hf2
  have HN2 := Lib.hid hn2
  have HW2 := Lib.hid hW2
  have HS2 := Lib.hid hs2
  simp only at q0 q1 q2 q3 q4 q5 q6
  replace m1 := cell_nw m1 hn2
  have hxm := unfootm h
  have hxb : w.heap.size ∉ foot gp v := unfootn h (Nat.le_refl _)
  clear h hl hn2 hW2 hs2
  go_enter Tryz.func127, Tryz.ntmps127
  go_upto_region 1 with (fail)
  rw [← HW2.out]
  go_region_held3 (fun w' => w'.cell? ⟨gm, 1, none⟩ = some (.pointer (some ⟨gp, 0, none⟩)) ∧ w'.cell? ⟨w.heap.size, 0, none⟩ = some (.int .u8 9) ∧ w'.cell? ⟨w.heap.size, 1, none⟩ = some (.int .u64 a) ∧ w'.cell? ⟨w.heap.size, 2, none⟩ = some (.int .u64 b) ∧ w'.cell? ⟨w.heap.size, 3, none⟩ = some (.int .u64 c) ∧ w'.cell? ⟨w.heap.size, 4, none⟩ = some (.int .u64 d) ∧ w'.cell? ⟨w.heap.size, 5, none⟩ = some (.int .u64 e) ∧ w'.cell? ⟨w.heap.size, 6, none⟩ = some (.int .u64 f)) (first | exact ⟨m1, q0, q1, q2, q3, q4, q5, q6⟩ | exact ⟨cell_nw m1 hnk, cell_nw q0 hnk, cell_nw q1 hnk, cell_nw q2 hnk, cell_nw q3 hnk, cell_nw q4 hnk, cell_nw q5 hnk, cell_nw q6 hnk⟩ | exact ⟨hu.chg.cell (cell_nw m1 hnk) hxm, hu.chg.cell (cell_nw q0 hnk) hxb, hu.chg.cell (cell_nw q1 hnk) hxb, hu.chg.cell (cell_nw q2 hnk) hxb, hu.chg.cell (cell_nw q3 hnk) hxb, hu.chg.cell (cell_nw q4 hnk) hxb, hu.chg.cell (cell_nw q5 hnk) hxb, hu.chg.cell (cell_nw q6 hnk) hxb⟩)
    ((first | (go_at_call 148; refine (keys_any _ _ _ _ _ _ _ _).mono ?_; rintro e Wk ⟨rfl, hnk0⟩; have hnk : Nw W2 Wk := (Nw.drew (Nw.refl W2)).trans hnk0) | (go_at_call 149; refine (HS.out _ (HN2.out.trans hnk)).mono ?_; rintro e W3 ⟨rfl, v', hu⟩)))
  have hmu := MUp.map (H.out.nw (HN2.out.trans hnk)) hu
  obtain ⟨hs4, -, -, -, -, -, -, -, r0, r1, r2, r3, r4, z0, z1, z2, z3, z4⟩ := (HF2.out.nw hnk).foot H.out hmu.chg
  have HU := Lib.hid hmu
  have HNK := Lib.hid hnk
  clear hu hmu hs4 hnk hnk0
  go_wp2
  refine bodyPost_ret (v := res5 0 false 0 0 n) ?_ rfl ⟨rfl, _, MUp.res (HN2.out.trans HNK.out) (Nat.le_succ _) (Nat.lt_of_lt_of_le HS2.out HNK.out.grown.size) H.out HU.out ⟨0, false, 0, 0, n⟩⟩
  simp [results, Tryz.results127, go_sem, r0, r1, r2, r3, r4]
set_option maxRecDepth 20000 in
set_option maxHeartbeats 8000000 in
theorem m_move (w : World) (p : Pl) (s : Md) (h : MAt w p s) (hl : s.l.length ≤ 500000) (t : Int) (a b c d e f : Int) (hab : a ≤ b) (ha : 0 ≤ a) (he : 0 < e) (he2 : e ≤ 18446744073709551615 - b) :
    Calls Tryz.prog 126 #[.pointer (some ⟨p.gm, 0, none⟩), .int .i64 t, op7 8 a b c d e f] w fun q w' => q = .returned (resV ⟨0, false, 0, 0, (inR a b s.l).length⟩) ∧ ∃ p', MUp w p { s with l := moveL a b e s.l } p' w' := by
  obtain ⟨gm, gt, gp, v⟩ := p
  have m1 : w.cell? ⟨gm, 1, none⟩ = some (.pointer (some ⟨gp, 0, none⟩)) := h.m1
  haveI : In gm w := ⟨h.im⟩
  have H := Lib.hid h
  unfold resV
  simp only
  have HS := Lib.hid (fun W (hw : Nw w W) => move_om ((h.nw hw).om : OM W gp v s.l) hl a b e hab ha he he2)
  obtain ⟨n, hn⟩ : ∃ n : Int, n = (inR a b s.l).length := ⟨_, rfl⟩
  rw [← hn] at HS ⊢
  clear hn
  obtain ⟨W2, hW2⟩ : ∃ W2, W2 = (w.alloc (.cells #[.int .u8 8, .int .u64 a, .int .u64 b, .int .u64 c, .int .u64 d, .int .u64 e, .int .u64 f] 41)).alloc (.cells #[.int .i64 0, .bool false, .int .u64 0, .int .u64 0, .int .i64 0] 43) := ⟨_, rfl⟩
  have hn2 : Nw w W2 := by rw [hW2]; exact nwa
  have hf2 : Fr w W2 ⟨8, a, b, c, d, e, f⟩ := by rw [hW2]; exact Fr.made w 8 a b c d e f
  have HF2 := Lib.hid hf2
  obtain ⟨hs2, q0, q1, q2, q3, q4, q5, q6, -⟩ := hf2
  have HN2 := Lib.hid hn2
  have HW2 := Lib.hid hW2
  have HS2 := Lib.hid hs2
  simp only at q0 q1 q2 q3 q4 q5 q6
  replace m1 := cell_nw m1 hn2
  have hxm := unfootm h
  have hxb : w.heap.size ∉ foot gp v := unfootn h (Nat.le_refl _)
  clear h hl hn2 hW2 hs2
  go_enter Tryz.func126, Tryz.ntmps126
  go_upto_region 1 with (fail)
  rw [← HW2.out]
  go_region_held3 (fun w' => w'.cell? ⟨gm, 1, none⟩ = some (.pointer (some ⟨gp, 0, none⟩)) ∧ w'.cell? ⟨w.heap.size, 0, none⟩ = some (.int .u8 8) ∧ w'.cell? ⟨w.heap.size, 1, none⟩ = some (.int .u64 a) ∧ w'.cell? ⟨w.heap.size, 2, none⟩ = some (.int .u64 b) ∧ w'.cell? ⟨w.heap.size, 3, none⟩ = some (.int .u64 c) ∧ w'.cell? ⟨w.heap.size, 4, none⟩ = some (.int .u64 d) ∧ w'.cell? ⟨w.heap.size, 5, none⟩ = some (.int .u64 e) ∧ w'.cell? ⟨w.heap.size, 6, none⟩ = some (.int .u64 f)) (first | exact ⟨m1, q0, q1, q2, q3, q4, q5, q6⟩ | exact ⟨cell_nw m1 hnk, cell_nw q0 hnk, cell_nw q1 hnk, cell_nw q2 hnk, cell_nw q3 hnk, cell_nw q4 hnk, cell_nw q5 hnk, cell_nw q6 hnk⟩ | exact ⟨hu.chg.cell (cell_nw m1 hnk) hxm, hu.chg.cell (cell_nw q0 hnk) hxb, hu.chg.cell (cell_nw q1 hnk) hxb, hu.chg.cell (cell_nw q2 hnk) hxb, hu.chg.cell (cell_nw q3 hnk) hxb, hu.chg.cell (cell_nw q4 hnk) hxb, hu.chg.cell (cell_nw q5 hnk) hxb, hu.chg.cell (cell_nw q6 hnk) hxb⟩)
    ((first | (go_at_call 148; refine (keys_any _ _ _ _ _ _ _ _).mono ?_; rintro e Wk ⟨rfl, hnk0⟩; have hnk : Nw W2 Wk := (Nw.drew (Nw.refl W2)).trans hnk0) | (go_at_call 147; refine (HS.out _ (HN2.out.trans hnk)).mono ?_; rintro e W3 ⟨rfl, v', hu⟩)))
  have hmu := MUp.map (H.out.nw (HN2.out.trans hnk)) hu
  obtain ⟨hs4, -, -, -, -, -, -, -, r0, r1, r2, r3, r4, z0, z1, z2, z3, z4⟩ := (HF2.out.nw hnk).foot H.out hmu.chg
  have HU := Lib.hid hmu
  have HNK := Lib.hid hnk
  clear hu hmu hs4 hnk hnk0
  go_wp2
  refine bodyPost_ret (v := res5 0 false 0 0 n) ?_ rfl ⟨rfl, _, MUp.res (HN2.out.trans HNK.out) (Nat.le_succ _) (Nat.lt_of_lt_of_le HS2.out HNK.out.grown.size) H.out HU.out ⟨0, false, 0, 0, n⟩⟩
  simp [results, Tryz.results126, go_sem, r0, r1, r2, r3, r4]
end Go.Proofs.YtkikdpdainmlcaaGreat
namespace Go.Proofs.YtkikdpdainmlcaaGreat
open Go.RowKit Go.Xt
/-! The model's methods at any state: open, shut, scan, seek, close, next. -/
def cntS (th : List Th) : Nat := th.countP (·.se)
theorem cntS_snoc (b : List Th) (x : Th) : cntS (b ++ [x]) = cntS b + if x.se then 1 else 0 := by
  cases h : x.se <;> simp [cntS, List.countP_append, h]
set_option maxRecDepth 20000 in
set_option maxHeartbeats 4000000 in
theorem sess_any (w : World) (p : Pl) (s : Md) (h : MAt w p s) (hb : s.th.length ≤ 1000) :
    Calls Tryz.prog 142 #[.pointer (some ⟨p.gm, 0, none⟩)] w fun e w' => e = .returned (.int .i64 (cntS s.th : Nat)) ∧ Nw w w' := by
  obtain ⟨gm, gt, gp, v⟩ := p
  have H := Lib.hid h
  obtain ⟨ct, m2⟩ : ∃ ct, w.cell? ⟨gm, 2, none⟩ = some (.slice (some ⟨gt, 0, none⟩) s.th.length ct) := h.m2
  haveI : In gm w := ⟨h.im⟩
  haveI : In gt w := ⟨h.it⟩
  obtain ⟨n, hn⟩ : ∃ n, n = s.th.length := ⟨_, rfl⟩
  rw [← hn] at m2 hb
  have HNL := Lib.hid hn
  have hcb : ∀ k, cntS (s.th.take k) ≤ k := fun k => Nat.le_trans List.countP_le_length (by simp; omega)
  have HCB := Lib.hid hcb
  simp only
  clear h hn hcb
  go_enter Tryz.func142, Tryz.ntmps142
  go_wp2
  go_loopw [3, 4, 10] (fun c _ i wr => ∃ (k m : Nat), k ≤ n ∧ c = .int .i64 (m : Int) ∧ i = .int .i64 k ∧ Hid (m = cntS (s.th.take k)) ∧ Nw w wr) (fun _ _ i _ => n - (intOf i).toNat)
  case atStart => exact ⟨0, 0, by omega, rfl, rfl, rfl, Nw.refl _⟩
  case round =>
    obtain ⟨k, m, hk, rfl, rfl, hm, d, rfl⟩ := hrel
    have hmk : m ≤ k := by rw [hm.out]; exact HCB.out k
    by_cases hlt : k < n
    · obtain ⟨x, hx⟩ : ∃ x, s.th[k]? = some x := ⟨_, List.getElem?_eq_getElem (by have := HNL.out; omega)⟩
      obtain ⟨c0, c1, c2, c3, c4⟩ := (H.out.th : ThR w gt s.th).cells hx
      have hnx : cntS (s.th.take (k + 1)) = m + if x.se then 1 else 0 := by
        obtain ⟨p1, q1⟩ := List.getElem?_eq_some_iff.1 hx
        rw [List.take_succ_eq_append_getElem p1, q1, cntS_snoc, hm.out]
      have HX := Lib.hid hnx
      obtain ⟨xo, xm, xl, xh, xs⟩ := x
      simp only at c4
      clear hx hnx hm c0 c1 c2 c3
      have k1 : (k : Int) < (n : Int) := by omega
      cases xs with
      | true =>
        go_wp2
        exact ⟨⟨k + 1, m + 1, by omega, by go_num, by go_num, HX.out.symm, nwa⟩, by simp [intOf]; omega⟩
      | false =>
        go_wp2
        exact ⟨⟨k + 1, m, by omega, by go_num, by go_num, HX.out.symm, nwa⟩, by simp [intOf]; omega⟩
    · have k1 : ¬ (k : Int) < (n : Int) := by omega
      go_wp2
      go_ret
      exact ⟨by rw [hm.out, List.take_of_length_le (by have := HNL.out; omega)]; rfl, nwa⟩
set_option maxRecDepth 20000 in
set_option maxHeartbeats 8000000 in
theorem m_shut (w : World) (p : Pl) (s : Md) (h : MAt w p s) (t : Nat) (x : Th) (ht : s.th[t]? = some x) (a b c d e f : Int) :
    Calls Tryz.prog 120 #[.pointer (some ⟨p.gm, 0, none⟩), .int .i64 t, op7 2 a b c d e f] w fun e w' => e = .returned (resV ⟨0, false, 0, 0, 0⟩) ∧ ∃ p', MUp w p { s with th := s.th.set t { x with se := false } } p' w' := by
  obtain ⟨gm, gt, gp, v⟩ := p
  obtain ⟨p0, _⟩ := List.getElem?_eq_some_iff.1 ht
  obtain ⟨c0, c1, c2, c3, c4⟩ := (h.th : ThR w gt s.th).cells ht
  obtain ⟨ct, m2⟩ : ∃ ct, w.cell? ⟨gm, 2, none⟩ = some (.slice (some ⟨gt, 0, none⟩) s.th.length ct) := h.m2
  have hz : w.frozen? ⟨gt, t * 5 + 4, none⟩ = false := ThR.frozen h.th _
  haveI : In gm w := ⟨h.im⟩
  haveI : In gt w := ⟨h.it⟩
  have H := Lib.hid (MUp.ths h (List.length_set ..) (ThR.se h.th ht false) (Chg.set1 w gt _ _))
  obtain ⟨n, hn⟩ : ∃ n, n = s.th.length := ⟨_, rfl⟩
  rw [← hn] at m2 p0
  have t0 : (0 : Int) ≤ (t : Int) := by omega
  have t1 : (t : Int) < (n : Int) := by omega
  unfold resV
  simp only
  clear h ht hn
  go_enter Tryz.func120, Tryz.ntmps120
  go_wp2
  refine bodyPost_ret (v := res5 0 false 0 0 0) ?_ rfl ⟨rfl, _, MUp.nw H.out nwa⟩
  simp [results, Tryz.results120, go_sem]
def openE (s : Md) : Int := if s.slots ≤ (cntS s.th : Nat) then 10 else 0
def openM (s : Md) (t : Nat) (x : Th) : Md := if s.slots ≤ (cntS s.th : Nat) then s else { s with th := s.th.set t { x with se := true } }
set_option maxRecDepth 20000 in
set_option maxHeartbeats 8000000 in
theorem m_open (w : World) (p : Pl) (s : Md) (h : MAt w p s) (hb : s.th.length ≤ 1000) (t : Nat) (x : Th) (ht : s.th[t]? = some x) (a b c d e f : Int) :
    Calls Tryz.prog 119 #[.pointer (some ⟨p.gm, 0, none⟩), .int .i64 t, op7 1 a b c d e f] w fun e w' => e = .returned (resV ⟨openE s, false, 0, 0, 0⟩) ∧ ∃ p', MUp w p (openM s t x) p' w' := by
  have HS := Lib.hid (fun W (hw : Nw w W) => sess_any W p s (h.nw hw) hb)
  obtain ⟨gm, gt, gp, v⟩ := p
  obtain ⟨p0, _⟩ := List.getElem?_eq_some_iff.1 ht
  obtain ⟨c0, c1, c2, c3, c4⟩ := (h.th : ThR w gt s.th).cells ht
  obtain ⟨ct, m2⟩ : ∃ ct, w.cell? ⟨gm, 2, none⟩ = some (.slice (some ⟨gt, 0, none⟩) s.th.length ct) := h.m2
  have m0 : w.cell? ⟨gm, 0, none⟩ = some (.int .i64 s.slots) := h.m0
  have hz : w.frozen? ⟨gt, t * 5 + 4, none⟩ = false := ThR.frozen h.th _
  haveI : In gm w := ⟨h.im⟩
  haveI : In gt w := ⟨h.it⟩
  have H := Lib.hid (MUp.ths h (List.length_set ..) (ThR.se h.th ht true) (Chg.set1 w gt _ _))
  have H0 := Lib.hid h
  obtain ⟨n, hn⟩ : ∃ n, n = s.th.length := ⟨_, rfl⟩
  rw [← hn] at m2 p0
  have t0 : (0 : Int) ≤ (t : Int) := by omega
  have t1 : (t : Int) < (n : Int) := by omega
  unfold resV
  simp only at HS ⊢
  by_cases hs : s.slots ≤ ((cntS s.th : Nat) : Int)
  · have e1 : openE s = 10 := if_pos hs
    have e2 : openM s t x = s := if_pos hs
    rw [e1, e2]
    obtain ⟨cc, hc⟩ : ∃ c : Int, c = ((cntS s.th : Nat) : Int) := ⟨_, rfl⟩
    obtain ⟨sl, hsl⟩ : ∃ z, z = s.slots := ⟨_, rfl⟩
    rw [← hc] at HS hs
    rw [← hsl] at m0 hs
    have d1 : decide (sl ≤ cc) = true := by simpa using hs
    clear h ht hn hb hc hsl e1 e2 hs
    go_enter Tryz.func119, Tryz.ntmps119
    go_upto_region 1 with (fail)
    (refine wp_region_nw (by kernel_rfl) (by kernel_rfl) ?_; (repeat (go_big_quiet_step ((go_at_call 142; exact quiet_of (HS.out _ (nwa)))))); refine wpQuiet_nil ?_; intro _ hreg; obtain ⟨dW, rfl⟩ : Nw _ _ := hreg)
    go_wp2
    refine bodyPost_ret (v := res5 10 false 0 0 0) ?_ rfl ⟨rfl, _, MUp.same H0.out nwa⟩
    simp [results, Tryz.results119, go_sem]
  · have e1 : openE s = 0 := if_neg hs
    have e2 : openM s t x = { s with th := s.th.set t { x with se := true } } := if_neg hs
    rw [e1, e2]
    obtain ⟨cc, hc⟩ : ∃ c : Int, c = ((cntS s.th : Nat) : Int) := ⟨_, rfl⟩
    obtain ⟨sl, hsl⟩ : ∃ z, z = s.slots := ⟨_, rfl⟩
    rw [← hc] at HS hs
    rw [← hsl] at m0 hs
    have d1 : decide (sl ≤ cc) = false := by simpa using hs
    clear h ht hn hb hc hsl e1 e2 hs
    go_enter Tryz.func119, Tryz.ntmps119
    go_upto_region 1 with (fail)
    (refine wp_region_nw (by kernel_rfl) (by kernel_rfl) ?_; (repeat (go_big_quiet_step ((go_at_call 142; exact quiet_of (HS.out _ (nwa)))))); refine wpQuiet_nil ?_; intro _ hreg; obtain ⟨dW, rfl⟩ : Nw _ _ := hreg)
    go_wp2
    refine bodyPost_ret (v := res5 0 false 0 0 0) ?_ rfl ⟨rfl, _, MUp.nw H.out nwa⟩
    simp [results, Tryz.results119, go_sem]
theorem ThR.it4 {W : World} {gt : Nat} {th : List Th} (h : ThR W gt th) {k : Nat} {x : Th} (hk : th[k]? = some x) (op mo : Bool) (lo hi : Int) :
    ThR ((((W.setCell ⟨gt, k * 5, none⟩ (.bool op)).setCell ⟨gt, k * 5 + 1, none⟩ (.bool mo)).setCell ⟨gt, k * 5 + 2, none⟩ (.int .u64 lo)).setCell ⟨gt, k * 5 + 3, none⟩ (.int .u64 hi)) gt (th.set k ⟨op, mo, lo, hi, x.se⟩) := by
  have h3 := (((h.op hk op).mo (set_at hk _) mo).lo (set_at (set_at hk _) _) lo).hi (set_at (set_at (set_at hk _) _) _) hi
  rw [List.set_set, List.set_set, List.set_set] at h3
  exact h3
set_option maxRecDepth 20000 in
set_option maxHeartbeats 8000000 in
theorem m_close (w : World) (p : Pl) (s : Md) (h : MAt w p s) (t : Nat) (x : Th) (ht : s.th[t]? = some x) (a b c d e f : Int) :
    Calls Tryz.prog 132 #[.pointer (some ⟨p.gm, 0, none⟩), .int .i64 t, op7 14 a b c d e f] w fun e w' => e = .returned (resV ⟨0, false, 0, 0, 0⟩) ∧ ∃ p', MUp w p { s with th := s.th.set t ⟨false, false, 0, 0, x.se⟩ } p' w' := by
  obtain ⟨gm, gt, gp, v⟩ := p
  obtain ⟨p0, _⟩ := List.getElem?_eq_some_iff.1 ht
  obtain ⟨c0, c1, c2, c3, c4⟩ := (h.th : ThR w gt s.th).cells ht
  obtain ⟨ct, m2⟩ : ∃ ct, w.cell? ⟨gm, 2, none⟩ = some (.slice (some ⟨gt, 0, none⟩) s.th.length ct) := h.m2
  have z0 : w.frozen? ⟨gt, t * 5, none⟩ = false := ThR.frozen h.th _
  have z1 : w.frozen? ⟨gt, t * 5 + 1, none⟩ = false := ThR.frozen h.th _
  have z2 : w.frozen? ⟨gt, t * 5 + 2, none⟩ = false := ThR.frozen h.th _
  have z3 : w.frozen? ⟨gt, t * 5 + 3, none⟩ = false := ThR.frozen h.th _
  haveI : In gm w := ⟨h.im⟩
  haveI : In gt w := ⟨h.it⟩
  have H := Lib.hid (MUp.ths h (List.length_set ..) (ThR.it4 h.th ht false false 0 0) ((((Chg.set1 w gt _ _).set2 _ _).set2 _ _).set2 _ _))
  obtain ⟨n, hn⟩ : ∃ n, n = s.th.length := ⟨_, rfl⟩
  rw [← hn] at m2 p0
  have t0 : (0 : Int) ≤ (t : Int) := by omega
  have t1 : (t : Int) < (n : Int) := by omega
  unfold resV
  simp only
  clear h ht hn
  go_enter Tryz.func132, Tryz.ntmps132
  go_wp2
  refine bodyPost_ret (v := res5 0 false 0 0 0) ?_ rfl ⟨rfl, _, MUp.nw H.out nwa⟩
  simp [results, Tryz.results132, go_sem]
end Go.Proofs.YtkikdpdainmlcaaGreat
namespace Go.Proofs.YtkikdpdainmlcaaGreat
open Go.RowKit Go.Xt
/-! The model's methods at any state: scan, seek, next. -/
theorem keys_agg (k a b c d e f : Int) (w : World) : Calls Tryz.prog 148 #[op7 k a b c d e f] w fun e w' => e = .returned (.agg #[.int .u64 a, .int .u64 b]) ∧ Nw w w' := keys_any k a b c d e f w
set_option maxRecDepth 20000 in
set_option maxHeartbeats 8000000 in
theorem m_seek (w : World) (p : Pl) (s : Md) (h : MAt w p s) (t : Nat) (x : Th) (ht : s.th[t]? = some x) (a b c d e f : Int) :
    Calls Tryz.prog 131 #[.pointer (some ⟨p.gm, 0, none⟩), .int .i64 t, op7 13 a b c d e f] w fun q w' => q = .returned (resV ⟨0, false, 0, 0, 0⟩) ∧ ∃ p', MUp w p { s with th := s.th.set t (x.from_ a) } p' w' := by
  obtain ⟨gm, gt, gp, v⟩ := p
  obtain ⟨p0, _⟩ := List.getElem?_eq_some_iff.1 ht
  obtain ⟨c0, c1, c2, c3, c4⟩ := ThR.cells (gt := gt) h.th ht
  have m1 : w.cell? ⟨gm, 1, none⟩ = some (.pointer (some ⟨gp, 0, none⟩)) := h.m1
  obtain ⟨ct, m2⟩ : ∃ ct, w.cell? ⟨gm, 2, none⟩ = some (.slice (some ⟨gt, 0, none⟩) s.th.length ct) := h.m2
  have z0 : w.frozen? ⟨gt, t * 5, none⟩ = false := ThR.frozen h.th _
  have z1 : w.frozen? ⟨gt, t * 5 + 1, none⟩ = false := ThR.frozen h.th _
  have z2 : w.frozen? ⟨gt, t * 5 + 2, none⟩ = false := ThR.frozen h.th _
  have z3 : w.frozen? ⟨gt, t * 5 + 3, none⟩ = false := ThR.frozen h.th _
  have it : gt < w.heap.size := h.it
  haveI : In gm w := ⟨h.im⟩
  haveI : In gt w := ⟨h.it⟩
  have H := Lib.hid h
  have HT := Lib.hid ht
  have HTH := Lib.hid (h.th : ThR w gt s.th)
  have HLEN := Lib.hid (fun y : Th => (List.length_set .. : (s.th.set t y).length = s.th.length))
  obtain ⟨n, hn⟩ : ∃ n, n = s.th.length := ⟨_, rfl⟩
  rw [← hn] at m2 p0
  have t0 : (0 : Int) ≤ (t : Int) := by omega
  have t1 : (t : Int) < (n : Int) := by omega
  unfold resV
  simp only
  have HS := Lib.hid (fun W (hw : Nw w W) => from_any W gt s.th (ThR.nw h.th hw) t x ht a)
  obtain ⟨W2, hW2⟩ : ∃ W2, W2 = (w.alloc (.cells #[.int .u8 13, .int .u64 a, .int .u64 b, .int .u64 c, .int .u64 d, .int .u64 e, .int .u64 f] 41)).alloc (.cells #[.int .i64 0, .bool false, .int .u64 0, .int .u64 0, .int .i64 0] 43) := ⟨_, rfl⟩
  have hn2 : Nw w W2 := by rw [hW2]; exact nwa
  have hf2 : Fr w W2 ⟨13, a, b, c, d, e, f⟩ := by rw [hW2]; exact Fr.made w 13 a b c d e f
  have HF2 := Lib.hid hf2
  obtain ⟨hs2, q0, q1, q2, q3, q4, q5, q6, -⟩ := hf2
  have HN2 := Lib.hid hn2
  have HW2 := Lib.hid hW2
  have HS2 := Lib.hid hs2
  simp only at q0 q1 q2 q3 q4 q5 q6
  replace m2 := cell_nw m2 hn2
  have hxm : gm ∉ [gt] := by have := h.nmt; simp at this ⊢; omega
  have hxb : w.heap.size ∉ [gt] := by simp; omega
  clear h ht hn hn2 hW2 hs2
  go_enter Tryz.func131, Tryz.ntmps131
  go_upto_region 1 with (fail)
  rw [← HW2.out]
  go_region_held3 (fun w' => w'.cell? ⟨gm, 2, none⟩ = some (.slice (some ⟨gt, 0, none⟩) n ct) ∧ w'.cell? ⟨w.heap.size, 1, none⟩ = some (.int .u64 a)) (first | exact ⟨m2, q1⟩ | exact ⟨hch.cell m2 hxm, hch.cell q1 hxb⟩)
    ((first | (go_at_call 136; refine (HS.out W2.drew (Nw.drew HN2.out)).mono ?_; rintro r W3 ⟨rfl, hth, hch⟩)))
  have hmu := MUp.ths (H.out.nw (Nw.drew HN2.out)) (HLEN.out _) hth hch
  obtain ⟨hs4, -, -, -, -, -, -, -, r0, r1, r2, r3, r4, y0, y1, y2, y3, y4⟩ := (HF2.out.nw (Nw.drew (Nw.refl W2))).foot H.out hmu.chg
  have HU := Lib.hid hmu
  clear hch hth hmu hs4
  go_wp2
  refine bodyPost_ret (v := res5 0 false 0 0 0) ?_ rfl ⟨rfl, _, MUp.res (Nw.drew HN2.out) (Nat.le_succ _) HS2.out H.out HU.out ⟨0, false, 0, 0, 0⟩⟩
  simp [results, Tryz.results131, go_sem, r0, r1, r2, r3, r4]
set_option maxRecDepth 20000 in
set_option maxHeartbeats 8000000 in
theorem m_scan (w : World) (p : Pl) (s : Md) (h : MAt w p s) (t : Nat) (x : Th) (ht : s.th[t]? = some x) (a b c d e f : Int) :
    Calls Tryz.prog 129 #[.pointer (some ⟨p.gm, 0, none⟩), .int .i64 t, op7 11 a b c d e f] w fun q w' => q = .returned (resV ⟨0, false, 0, 0, 0⟩) ∧ ∃ p', MUp w p { s with th := s.th.set t ⟨true, true, a, b, x.se⟩ } p' w' := by
  obtain ⟨gm, gt, gp, v⟩ := p
  obtain ⟨p0, _⟩ := List.getElem?_eq_some_iff.1 ht
  obtain ⟨c0, c1, c2, c3, c4⟩ := ThR.cells (gt := gt) h.th ht
  have m1 : w.cell? ⟨gm, 1, none⟩ = some (.pointer (some ⟨gp, 0, none⟩)) := h.m1
  obtain ⟨ct, m2⟩ : ∃ ct, w.cell? ⟨gm, 2, none⟩ = some (.slice (some ⟨gt, 0, none⟩) s.th.length ct) := h.m2
  have z0 : w.frozen? ⟨gt, t * 5, none⟩ = false := ThR.frozen h.th _
  have z1 : w.frozen? ⟨gt, t * 5 + 1, none⟩ = false := ThR.frozen h.th _
  have z2 : w.frozen? ⟨gt, t * 5 + 2, none⟩ = false := ThR.frozen h.th _
  have z3 : w.frozen? ⟨gt, t * 5 + 3, none⟩ = false := ThR.frozen h.th _
  have it : gt < w.heap.size := h.it
  haveI : In gm w := ⟨h.im⟩
  haveI : In gt w := ⟨h.it⟩
  have H := Lib.hid h
  have HT := Lib.hid ht
  have HTH := Lib.hid (h.th : ThR w gt s.th)
  have HLEN := Lib.hid (fun y : Th => (List.length_set .. : (s.th.set t y).length = s.th.length))
  obtain ⟨n, hn⟩ : ∃ n, n = s.th.length := ⟨_, rfl⟩
  rw [← hn] at m2 p0
  have t0 : (0 : Int) ≤ (t : Int) := by omega
  have t1 : (t : Int) < (n : Int) := by omega
  unfold resV
  simp only
  obtain ⟨W2, hW2⟩ : ∃ W2, W2 = (w.alloc (.cells #[.int .u8 11, .int .u64 a, .int .u64 b, .int .u64 c, .int .u64 d, .int .u64 e, .int .u64 f] 41)).alloc (.cells #[.int .i64 0, .bool false, .int .u64 0, .int .u64 0, .int .i64 0] 43) := ⟨_, rfl⟩
  have hn2 : Nw w W2 := by rw [hW2]; exact nwa
  have hf2 : Fr w W2 ⟨11, a, b, c, d, e, f⟩ := by rw [hW2]; exact Fr.made w 11 a b c d e f
  have HF2 := Lib.hid hf2
  obtain ⟨hs2, q0, q1, q2, q3, q4, q5, q6, -⟩ := hf2
  have HN2 := Lib.hid hn2
  have HW2 := Lib.hid hW2
  have HS2 := Lib.hid hs2
  simp only at q0 q1 q2 q3 q4 q5 q6
  replace m2 := cell_nw m2 hn2
  have hxm : gm ∉ [gt] := by have := h.nmt; simp at this ⊢; omega
  have hxb : w.heap.size ∉ [gt] := by simp; omega
  clear h ht hn hW2 hs2
  replace c0 := cell_nw c0 hn2
  replace c1 := cell_nw c1 hn2
  replace c2 := cell_nw c2 hn2
  replace c3 := cell_nw c3 hn2
  replace z0 := (frozen_nw it hn2).trans z0
  replace z1 := (frozen_nw it hn2).trans z1
  replace z2 := (frozen_nw it hn2).trans z2
  replace z3 := (frozen_nw it hn2).trans z3
  have it2 : gt < W2.heap.size := Nat.lt_of_lt_of_le it hn2.grown.size
  clear hn2
  go_enter Tryz.func129, Tryz.ntmps129
  go_upto_region 1 with (fail)
  rw [← HW2.out]
  go_region_held3 (fun w' => w'.cell? ⟨gm, 2, none⟩ = some (.slice (some ⟨gt, 0, none⟩) n ct) ∧ w'.cell? ⟨w.heap.size, 0, none⟩ = some (.int .u8 11) ∧ w'.cell? ⟨w.heap.size, 1, none⟩ = some (.int .u64 a) ∧ w'.cell? ⟨w.heap.size, 2, none⟩ = some (.int .u64 b) ∧ w'.cell? ⟨w.heap.size, 3, none⟩ = some (.int .u64 c) ∧ w'.cell? ⟨w.heap.size, 4, none⟩ = some (.int .u64 d) ∧ w'.cell? ⟨w.heap.size, 5, none⟩ = some (.int .u64 e) ∧ w'.cell? ⟨w.heap.size, 6, none⟩ = some (.int .u64 f)) (first | exact ⟨m2, q0, q1, q2, q3, q4, q5, q6⟩ | exact ⟨cell_nw m2 hnk, cell_nw q0 hnk, cell_nw q1 hnk, cell_nw q2 hnk, cell_nw q3 hnk, cell_nw q4 hnk, cell_nw q5 hnk, cell_nw q6 hnk⟩ | exact ⟨((((Chg.set1 Wk gt _ _).set2 _ _).set2 _ _).set2 _ _).cell (cell_nw m2 hnk) hxm, ((((Chg.set1 Wk gt _ _).set2 _ _).set2 _ _).set2 _ _).cell (cell_nw q0 hnk) hxb, ((((Chg.set1 Wk gt _ _).set2 _ _).set2 _ _).set2 _ _).cell (cell_nw q1 hnk) hxb, ((((Chg.set1 Wk gt _ _).set2 _ _).set2 _ _).set2 _ _).cell (cell_nw q2 hnk) hxb, ((((Chg.set1 Wk gt _ _).set2 _ _).set2 _ _).set2 _ _).cell (cell_nw q3 hnk) hxb, ((((Chg.set1 Wk gt _ _).set2 _ _).set2 _ _).set2 _ _).cell (cell_nw q4 hnk) hxb, ((((Chg.set1 Wk gt _ _).set2 _ _).set2 _ _).set2 _ _).cell (cell_nw q5 hnk) hxb, ((((Chg.set1 Wk gt _ _).set2 _ _).set2 _ _).set2 _ _).cell (cell_nw q6 hnk) hxb⟩)
    ((first | (go_at_call 148; refine (keys_agg _ _ _ _ _ _ _ _).mono ?_; rintro r Wk ⟨rfl, hnk0⟩; have hnk : Nw W2 Wk := (Nw.drew (Nw.refl W2)).trans hnk0; have d0 := cell_nw c0 hnk; have d1 := cell_nw c1 hnk; have d2 := cell_nw c2 hnk; have d3 := cell_nw c3 hnk; have y0 := (frozen_nw it2 hnk).trans z0; have y1 := (frozen_nw it2 hnk).trans z1; have y2 := (frozen_nw it2 hnk).trans z2; have y3 := (frozen_nw it2 hnk).trans z3)))
  rename_i hHeld
  clear hHeld
  have hth := ThR.it4 (HTH.out.nw (HN2.out.trans hnk)) HT.out true true a b
  have hch : Chg [gt] Wk _ := ((((Chg.set1 Wk gt (t * 5) (.bool true)).set2 (t * 5 + 1) (.bool true)).set2 (t * 5 + 2) (.int .u64 a)).set2 (t * 5 + 3) (.int .u64 b))
  obtain ⟨W3, hW3⟩ : ∃ W3, W3 = ((((Wk.setCell ⟨gt, t * 5, none⟩ (.bool true)).setCell ⟨gt, t * 5 + 1, none⟩ (.bool true)).setCell ⟨gt, t * 5 + 2, none⟩ (.int .u64 a)).setCell ⟨gt, t * 5 + 3, none⟩ (.int .u64 b)) := ⟨_, rfl⟩
  rw [← hW3] at hth hch ⊢
  have hmu := MUp.ths (H.out.nw (HN2.out.trans hnk)) (HLEN.out _) hth hch
  obtain ⟨hs4, -, -, -, -, -, -, -, r0, r1, r2, r3, r4, w0, w1, w2, w3, w4⟩ := (HF2.out.nw hnk).foot H.out hmu.chg
  have HU := Lib.hid hmu
  have HNK := Lib.hid hnk
  clear hch hth hmu hs4 hW3 hnk hnk0 d0 d1 d2 d3 y0 y1 y2 y3
  go_wp2
  refine bodyPost_ret (v := res5 0 false 0 0 0) ?_ rfl ⟨rfl, _, MUp.res (HN2.out.trans HNK.out) (Nat.le_succ _) (Nat.lt_of_lt_of_le HS2.out HNK.out.grown.size) H.out HU.out ⟨0, false, 0, 0, 0⟩⟩
  simp [results, Tryz.results129, go_sem, r0, r1, r2, r3, r4]
set_option maxRecDepth 20000 in
set_option maxHeartbeats 8000000 in
theorem m_next0 (w : World) (p : Pl) (s : Md) (h : MAt w p s) (t : Nat) (x : Th) (ht : s.th[t]? = some x) (a b c d e f : Int) (hl : s.l.length ≤ 500000) (hlx : x.lo ≤ x.hi) (hx : nextL x.lo x.hi s.l = none) :
    Calls Tryz.prog 130 #[.pointer (some ⟨p.gm, 0, none⟩), .int .i64 t, op7 12 a b c d e f] w fun q w' => q = .returned (resV ⟨14, false, 0, 0, 0⟩) ∧ ∃ p', MUp w p { s with th := s.th.set t x.fin } p' w' := by
  obtain ⟨gm, gt, gp, v⟩ := p
  obtain ⟨p0, _⟩ := List.getElem?_eq_some_iff.1 ht
  obtain ⟨c0, c1, c2, c3, c4⟩ := ThR.cells (gt := gt) h.th ht
  have m1 : w.cell? ⟨gm, 1, none⟩ = some (.pointer (some ⟨gp, 0, none⟩)) := h.m1
  obtain ⟨ct, m2⟩ : ∃ ct, w.cell? ⟨gm, 2, none⟩ = some (.slice (some ⟨gt, 0, none⟩) s.th.length ct) := h.m2
  have z0 : w.frozen? ⟨gt, t * 5, none⟩ = false := ThR.frozen h.th _
  have z1 : w.frozen? ⟨gt, t * 5 + 1, none⟩ = false := ThR.frozen h.th _
  have z2 : w.frozen? ⟨gt, t * 5 + 2, none⟩ = false := ThR.frozen h.th _
  have z3 : w.frozen? ⟨gt, t * 5 + 3, none⟩ = false := ThR.frozen h.th _
  have it : gt < w.heap.size := h.it
  haveI : In gm w := ⟨h.im⟩
  haveI : In gt w := ⟨h.it⟩
  have H := Lib.hid h
  have HT := Lib.hid ht
  have HTH := Lib.hid (h.th : ThR w gt s.th)
  have HLEN := Lib.hid (fun y : Th => (List.length_set .. : (s.th.set t y).length = s.th.length))
  obtain ⟨n, hn⟩ : ∃ n, n = s.th.length := ⟨_, rfl⟩
  rw [← hn] at m2 p0
  have t0 : (0 : Int) ≤ (t : Int) := by omega
  have t1 : (t : Int) < (n : Int) := by omega
  unfold resV
  simp only
  have HS := Lib.hid (fun W (hw : Nw w W) => next_none ((h.nw hw).om : OM W gp v s.l) (by omega) x.lo x.hi hlx hx)
  unfold spV at HS
  obtain ⟨W2, hW2⟩ : ∃ W2, W2 = (w.alloc (.cells #[.int .u8 12, .int .u64 a, .int .u64 b, .int .u64 c, .int .u64 d, .int .u64 e, .int .u64 f] 41)).alloc (.cells #[.int .i64 0, .bool false, .int .u64 0, .int .u64 0, .int .i64 0] 43) := ⟨_, rfl⟩
  have hn2 : Nw w W2 := by rw [hW2]; exact nwa
  have hf2 : Fr w W2 ⟨12, a, b, c, d, e, f⟩ := by rw [hW2]; exact Fr.made w 12 a b c d e f
  have HF2 := Lib.hid hf2
  obtain ⟨hs2, q0, q1, q2, q3, q4, q5, q6, -⟩ := hf2
  have HN2 := Lib.hid hn2
  have HW2 := Lib.hid hW2
  have HS2 := Lib.hid hs2
  simp only at q0 q1 q2 q3 q4 q5 q6
  replace m1 := cell_nw m1 hn2
  replace m2 := cell_nw m2 hn2
  replace c2 := cell_nw c2 hn2
  replace c3 := cell_nw c3 hn2
  have HLX := Lib.hid hlx
  clear h ht hn hW2 hs2 hn2 c0 c1 c4 z0 z1 z2 z3 hx hl hlx
  haveI : In gm W2 := ⟨World.block_lt_of_cell? W2 _ m1⟩
  haveI : In gt W2 := ⟨World.block_lt_of_cell? W2 _ c2⟩
  have HA := Lib.hid (show (W2.alloc (.cells #[.int .u64 0, .int .u64 0] 51)).drew.cell? ⟨W2.heap.size, 0, none⟩ = some (.int .u64 0) ∧ (W2.alloc (.cells #[.int .u64 0, .int .u64 0] 51)).drew.cell? ⟨W2.heap.size, 1, none⟩ = some (.int .u64 0) ∧ (W2.alloc (.cells #[.int .u64 0, .int .u64 0] 51)).drew.frozen? ⟨W2.heap.size, 0, none⟩ = false ∧ (W2.alloc (.cells #[.int .u64 0, .int .u64 0] 51)).drew.frozen? ⟨W2.heap.size, 1, none⟩ = false ∧ W2.heap.size < (W2.alloc (.cells #[.int .u64 0, .int .u64 0] 51)).drew.heap.size from ⟨by simp [go_sem], by simp [go_sem], by simp [go_sem], by simp [go_sem], by simp⟩)
  go_enter Tryz.func130, Tryz.ntmps130
  go_upto_region 1 with (fail)
  rw [← HW2.out]
  go_upto_region 2 with (fail)
  go_region_held3 (fun w' => w'.cell? ⟨gm, 1, none⟩ = some (.pointer (some ⟨gp, 0, none⟩)) ∧ w'.cell? ⟨gt, t * 5 + 2, none⟩ = some (.int .u64 x.lo) ∧ w'.cell? ⟨gt, t * 5 + 2 + 1, none⟩ = some (.int .u64 x.hi)) (first | exact ⟨m1, c2, c3⟩ | exact ⟨cell_nw m1 hnk, cell_nw c2 hnk, cell_nw c3 hnk⟩ | exact ⟨cell_nw m1 (Xt.Nw.alloc hnk _), cell_nw c2 (Xt.Nw.alloc hnk _), cell_nw c3 (Xt.Nw.alloc hnk _)⟩ | exact ⟨cell_nw m1 (Xt.Nw.setCell (Xt.Nw.setCell hnk (Nat.le_refl _) _) (Nat.le_refl _) _), cell_nw c2 (Xt.Nw.setCell (Xt.Nw.setCell hnk (Nat.le_refl _) _) (Nat.le_refl _) _), cell_nw c3 (Xt.Nw.setCell (Xt.Nw.setCell hnk (Nat.le_refl _) _) (Nat.le_refl _) _)⟩ | exact ⟨cell_nw m1 (Xt.Nw.alloc (Nw.refl W2) _), cell_nw c2 (Xt.Nw.alloc (Nw.refl W2) _), cell_nw c3 (Xt.Nw.alloc (Nw.refl W2) _)⟩ | exact ⟨cell_nw m1 (Xt.Nw.drew (Xt.Nw.alloc (Nw.refl W2) _)), cell_nw c2 (Xt.Nw.drew (Xt.Nw.alloc (Nw.refl W2) _)), cell_nw c3 (Xt.Nw.drew (Xt.Nw.alloc (Nw.refl W2) _))⟩)
    ((first | (go_at_call 151; refine (HS.out W2.drew (Nw.drew HN2.out)).mono ?_; rintro r Wk ⟨rfl, hnk0⟩; have hnk : Nw W2 Wk := (Nw.drew (Nw.refl W2)).trans hnk0) | (go_at_call 151; refine (HS.out ((W2.alloc (.cells #[.int .u64 0, .int .u64 0] 51)).drew) (Nw.drew (Nw.alloc HN2.out _))).mono ?_; rintro r Wk ⟨rfl, hnk0⟩; have hnk : Nw W2 Wk := (Nw.drew (Nw.alloc (Nw.refl W2) _)).trans hnk0; have g0 := cell_nw HA.out.1 hnk0; have g1 := cell_nw HA.out.2.1 hnk0; have g2 := (frozen_nw HA.out.2.2.2.2 hnk0).trans HA.out.2.2.1; have g3 := (frozen_nw HA.out.2.2.2.2 hnk0).trans HA.out.2.2.2.1)))
  · skip
    rename_i hHeld
    clear hHeld
    obtain ⟨W3, hW3⟩ : ∃ W3, W3 = Wk.alloc (.cells #[.int .u64 0, .int .u64 0] 51) := ⟨_, rfl⟩
    rw [← hW3]
    have hn3 : Nw W2 W3 := by rw [hW3]; exact Xt.Nw.alloc hnk _
    obtain ⟨g, hg⟩ : ∃ g, g = Wk.heap.size := ⟨_, rfl⟩
    rw [← hg]
    have hgs := hnk.grown.size
    have hs2 := HS2.out
    have hxg : g ∉ [gt] := by simp; omega
    have e0 : W3.cell? ⟨g, 0, none⟩ = some (.int .u64 0) := by rw [hW3, hg]; simp [go_sem]
    have e1 : W3.cell? ⟨g, 1, none⟩ = some (.int .u64 0) := by rw [hW3, hg]; simp [go_sem]
    have HN3 := Lib.hid hn3
    clear hgs hW3 hg hnk hnk0 hs2
    clear e0 e1
    go_wp2_with fail
    refine (end_any W3 gt s.th (HTH.out.nw (HN2.out.trans hn3)) t x HT.out).mono ?_
    rintro r W4 ⟨rfl, hth, hch⟩
    have hmu := MUp.ths (H.out.nw (HN2.out.trans hn3)) (HLEN.out _) hth hch
    obtain ⟨hs4, -, -, -, -, -, -, -, r0, r1, r2, r3, r4, w0, w1, w2, w3, w4⟩ := (HF2.out.nw hn3).foot H.out hmu.chg
    have HU := Lib.hid hmu
    clear hch hth hmu hs4 hn3
    go_wp2
    refine bodyPost_ret (v := res5 14 false 0 0 0) ?_ rfl ⟨rfl, _, MUp.res (HN2.out.trans HN3.out) (Nat.le_succ _) (Nat.lt_of_lt_of_le HS2.out HN3.out.grown.size) H.out HU.out ⟨14, false, 0, 0, 0⟩⟩
    simp [results, Tryz.results130, go_sem, r0, r1, r2, r3, r4]
  · skip
    rename_i hHeld
    clear hHeld
    obtain ⟨W3, hW3⟩ : ∃ W3, W3 = (Wk.setCell ⟨W2.heap.size, 0, none⟩ (.int .u64 0)).setCell ⟨W2.heap.size, 1, none⟩ (.int .u64 0) := ⟨_, rfl⟩
    rw [← hW3]
    have hn3 : Nw W2 W3 := by rw [hW3]; exact Xt.Nw.setCell (Xt.Nw.setCell hnk (Nat.le_refl _) _) (Nat.le_refl _) _
    obtain ⟨g, hg⟩ : ∃ g, g = W2.heap.size := ⟨_, rfl⟩
    rw [← hg]
    have hgs := hnk.grown.size
    have hs2 := HS2.out
    have hxg : g ∉ [gt] := by simp; omega
    have e0 : W3.cell? ⟨g, 0, none⟩ = some (.int .u64 0) := by rw [hW3, hg]; simp [go_sem, g0, g1]
    have e1 : W3.cell? ⟨g, 1, none⟩ = some (.int .u64 0) := by rw [hW3, hg]; simp [go_sem, g0, g1]
    clear g0 g1 g2 g3
    have HN3 := Lib.hid hn3
    clear hgs hW3 hg hnk hnk0 hs2
    clear e0 e1
    go_wp2_with fail
    refine (end_any W3 gt s.th (HTH.out.nw (HN2.out.trans hn3)) t x HT.out).mono ?_
    rintro r W4 ⟨rfl, hth, hch⟩
    have hmu := MUp.ths (H.out.nw (HN2.out.trans hn3)) (HLEN.out _) hth hch
    obtain ⟨hs4, -, -, -, -, -, -, -, r0, r1, r2, r3, r4, w0, w1, w2, w3, w4⟩ := (HF2.out.nw hn3).foot H.out hmu.chg
    have HU := Lib.hid hmu
    clear hch hth hmu hs4 hn3
    go_wp2
    refine bodyPost_ret (v := res5 14 false 0 0 0) ?_ rfl ⟨rfl, _, MUp.res (HN2.out.trans HN3.out) (Nat.le_succ _) (Nat.lt_of_lt_of_le HS2.out HN3.out.grown.size) H.out HU.out ⟨14, false, 0, 0, 0⟩⟩
    simp [results, Tryz.results130, go_sem, r0, r1, r2, r3, r4]
set_option maxRecDepth 20000 in
set_option maxHeartbeats 8000000 in
theorem m_next1 (w : World) (p : Pl) (s : Md) (h : MAt w p s) (t : Nat) (x : Th) (ht : s.th[t]? = some x) (a b c d e f : Int) (hl : s.l.length ≤ 500000) (hlx : x.lo ≤ x.hi) (k y : Int) (hk : 0 ≤ k ∧ k < 18446744073709551616) (hx : nextL x.lo x.hi s.l = some (k, y)) :
    Calls Tryz.prog 130 #[.pointer (some ⟨p.gm, 0, none⟩), .int .i64 t, op7 12 a b c d e f] w fun q w' => q = .returned (resV ⟨0, true, k, y, 0⟩) ∧ ∃ p', MUp w p { s with th := s.th.set t (x.after k) } p' w' := by
  obtain ⟨gm, gt, gp, v⟩ := p
  obtain ⟨p0, _⟩ := List.getElem?_eq_some_iff.1 ht
  obtain ⟨c0, c1, c2, c3, c4⟩ := ThR.cells (gt := gt) h.th ht
  have m1 : w.cell? ⟨gm, 1, none⟩ = some (.pointer (some ⟨gp, 0, none⟩)) := h.m1
  obtain ⟨ct, m2⟩ : ∃ ct, w.cell? ⟨gm, 2, none⟩ = some (.slice (some ⟨gt, 0, none⟩) s.th.length ct) := h.m2
  have z0 : w.frozen? ⟨gt, t * 5, none⟩ = false := ThR.frozen h.th _
  have z1 : w.frozen? ⟨gt, t * 5 + 1, none⟩ = false := ThR.frozen h.th _
  have z2 : w.frozen? ⟨gt, t * 5 + 2, none⟩ = false := ThR.frozen h.th _
  have z3 : w.frozen? ⟨gt, t * 5 + 3, none⟩ = false := ThR.frozen h.th _
  have it : gt < w.heap.size := h.it
  haveI : In gm w := ⟨h.im⟩
  haveI : In gt w := ⟨h.it⟩
  have H := Lib.hid h
  have HT := Lib.hid ht
  have HTH := Lib.hid (h.th : ThR w gt s.th)
  have HLEN := Lib.hid (fun y : Th => (List.length_set .. : (s.th.set t y).length = s.th.length))
  obtain ⟨n, hn⟩ : ∃ n, n = s.th.length := ⟨_, rfl⟩
  rw [← hn] at m2 p0
  have t0 : (0 : Int) ≤ (t : Int) := by omega
  have t1 : (t : Int) < (n : Int) := by omega
  unfold resV
  simp only
  have HS := Lib.hid (fun W (hw : Nw w W) => next_some ((h.nw hw).om : OM W gp v s.l) (by omega) x.lo x.hi hlx k y hx)
  unfold spV at HS
  obtain ⟨W2, hW2⟩ : ∃ W2, W2 = (w.alloc (.cells #[.int .u8 12, .int .u64 a, .int .u64 b, .int .u64 c, .int .u64 d, .int .u64 e, .int .u64 f] 41)).alloc (.cells #[.int .i64 0, .bool false, .int .u64 0, .int .u64 0, .int .i64 0] 43) := ⟨_, rfl⟩
  have hn2 : Nw w W2 := by rw [hW2]; exact nwa
  have hf2 : Fr w W2 ⟨12, a, b, c, d, e, f⟩ := by rw [hW2]; exact Fr.made w 12 a b c d e f
  have HF2 := Lib.hid hf2
  obtain ⟨hs2, q0, q1, q2, q3, q4, q5, q6, -⟩ := hf2
  have HN2 := Lib.hid hn2
  have HW2 := Lib.hid hW2
  have HS2 := Lib.hid hs2
  simp only at q0 q1 q2 q3 q4 q5 q6
  replace m1 := cell_nw m1 hn2
  replace m2 := cell_nw m2 hn2
  replace c2 := cell_nw c2 hn2
  replace c3 := cell_nw c3 hn2
  have HLX := Lib.hid hlx
  have HK := Lib.hid hk
  clear hk
  clear h ht hn hW2 hs2 hn2 c0 c1 c4 z0 z1 z2 z3 hx hl hlx
  haveI : In gm W2 := ⟨World.block_lt_of_cell? W2 _ m1⟩
  haveI : In gt W2 := ⟨World.block_lt_of_cell? W2 _ c2⟩
  have HA := Lib.hid (show (W2.alloc (.cells #[.int .u64 0, .int .u64 0] 51)).drew.cell? ⟨W2.heap.size, 0, none⟩ = some (.int .u64 0) ∧ (W2.alloc (.cells #[.int .u64 0, .int .u64 0] 51)).drew.cell? ⟨W2.heap.size, 1, none⟩ = some (.int .u64 0) ∧ (W2.alloc (.cells #[.int .u64 0, .int .u64 0] 51)).drew.frozen? ⟨W2.heap.size, 0, none⟩ = false ∧ (W2.alloc (.cells #[.int .u64 0, .int .u64 0] 51)).drew.frozen? ⟨W2.heap.size, 1, none⟩ = false ∧ W2.heap.size < (W2.alloc (.cells #[.int .u64 0, .int .u64 0] 51)).drew.heap.size from ⟨by simp [go_sem], by simp [go_sem], by simp [go_sem], by simp [go_sem], by simp⟩)
  go_enter Tryz.func130, Tryz.ntmps130
  go_upto_region 1 with (fail)
  rw [← HW2.out]
  go_upto_region 2 with (fail)
  go_region_held3 (fun w' => w'.cell? ⟨gm, 1, none⟩ = some (.pointer (some ⟨gp, 0, none⟩)) ∧ w'.cell? ⟨gt, t * 5 + 2, none⟩ = some (.int .u64 x.lo) ∧ w'.cell? ⟨gt, t * 5 + 2 + 1, none⟩ = some (.int .u64 x.hi)) (first | exact ⟨m1, c2, c3⟩ | exact ⟨cell_nw m1 hnk, cell_nw c2 hnk, cell_nw c3 hnk⟩ | exact ⟨cell_nw m1 (Xt.Nw.alloc hnk _), cell_nw c2 (Xt.Nw.alloc hnk _), cell_nw c3 (Xt.Nw.alloc hnk _)⟩ | exact ⟨cell_nw m1 (Xt.Nw.setCell (Xt.Nw.setCell hnk (Nat.le_refl _) _) (Nat.le_refl _) _), cell_nw c2 (Xt.Nw.setCell (Xt.Nw.setCell hnk (Nat.le_refl _) _) (Nat.le_refl _) _), cell_nw c3 (Xt.Nw.setCell (Xt.Nw.setCell hnk (Nat.le_refl _) _) (Nat.le_refl _) _)⟩ | exact ⟨cell_nw m1 (Xt.Nw.alloc (Nw.refl W2) _), cell_nw c2 (Xt.Nw.alloc (Nw.refl W2) _), cell_nw c3 (Xt.Nw.alloc (Nw.refl W2) _)⟩ | exact ⟨cell_nw m1 (Xt.Nw.drew (Xt.Nw.alloc (Nw.refl W2) _)), cell_nw c2 (Xt.Nw.drew (Xt.Nw.alloc (Nw.refl W2) _)), cell_nw c3 (Xt.Nw.drew (Xt.Nw.alloc (Nw.refl W2) _))⟩)
    ((first | (go_at_call 151; refine (HS.out W2.drew (Nw.drew HN2.out)).mono ?_; rintro r Wk ⟨rfl, hnk0⟩; have hnk : Nw W2 Wk := (Nw.drew (Nw.refl W2)).trans hnk0) | (go_at_call 151; refine (HS.out ((W2.alloc (.cells #[.int .u64 0, .int .u64 0] 51)).drew) (Nw.drew (Nw.alloc HN2.out _))).mono ?_; rintro r Wk ⟨rfl, hnk0⟩; have hnk : Nw W2 Wk := (Nw.drew (Nw.alloc (Nw.refl W2) _)).trans hnk0; have g0 := cell_nw HA.out.1 hnk0; have g1 := cell_nw HA.out.2.1 hnk0; have g2 := (frozen_nw HA.out.2.2.2.2 hnk0).trans HA.out.2.2.1; have g3 := (frozen_nw HA.out.2.2.2.2 hnk0).trans HA.out.2.2.2.1)))
  · skip
    rename_i hHeld
    clear hHeld
    obtain ⟨W3, hW3⟩ : ∃ W3, W3 = Wk.alloc (.cells #[.int .u64 k, .int .u64 y] 51) := ⟨_, rfl⟩
    rw [← hW3]
    have hn3 : Nw W2 W3 := by rw [hW3]; exact Xt.Nw.alloc hnk _
    obtain ⟨g, hg⟩ : ∃ g, g = Wk.heap.size := ⟨_, rfl⟩
    rw [← hg]
    have hgs := hnk.grown.size
    have hs2 := HS2.out
    have hxg : g ∉ [gt] := by simp; omega
    have e0 : W3.cell? ⟨g, 0, none⟩ = some (.int .u64 k) := by rw [hW3, hg]; simp [go_sem]
    have e1 : W3.cell? ⟨g, 1, none⟩ = some (.int .u64 y) := by rw [hW3, hg]; simp [go_sem]
    have HN3 := Lib.hid hn3
    clear hgs hW3 hg hnk hnk0 hs2
    go_upto_region 6 with (fail)
    go_region_held3 (fun w' => w'.cell? ⟨g, 0, none⟩ = some (.int .u64 k)) (first | exact e0 | exact hch.cell e0 hxg)
      ((first | (go_at_call 107; refine (after_any W3.drew gt s.th (HTH.out.nw (Nw.drew (HN2.out.trans hn3))) t x HT.out k HK.out).mono ?_; rintro r W4 ⟨rfl, hth, hch⟩)))
    have hmu := MUp.ths (H.out.nw (Nw.drew (HN2.out.trans hn3))) (HLEN.out _) hth hch
    obtain ⟨hs4, -, -, -, -, -, -, -, r0, r1, r2, r3, r4, w0, w1, w2, w3, w4⟩ := (HF2.out.nw (Nw.drew hn3)).foot H.out hmu.chg
    have f0 : W4.cell? ⟨g, 0, none⟩ = some (.int .u64 k) := hch.cell e0 hxg
    have f1 : W4.cell? ⟨g, 1, none⟩ = some (.int .u64 y) := hch.cell e1 hxg
    haveI : In g W4 := ⟨World.block_lt_of_cell? W4 _ f0⟩
    have HU := Lib.hid hmu
    clear hch hth hmu hs4 hn3 e0 e1
    go_wp2
    refine bodyPost_ret (v := res5 0 true k y 0) ?_ rfl ⟨rfl, _, MUp.res (Nw.drew (HN2.out.trans HN3.out)) (Nat.le_succ _) (Nat.lt_of_lt_of_le HS2.out HN3.out.grown.size) H.out HU.out ⟨0, true, k, y, 0⟩⟩
    simp [results, Tryz.results130, go_sem, r0, r1, r2, r3, r4]
  · skip
    rename_i hHeld
    clear hHeld
    obtain ⟨W3, hW3⟩ : ∃ W3, W3 = (Wk.setCell ⟨W2.heap.size, 0, none⟩ (.int .u64 k)).setCell ⟨W2.heap.size, 1, none⟩ (.int .u64 y) := ⟨_, rfl⟩
    rw [← hW3]
    have hn3 : Nw W2 W3 := by rw [hW3]; exact Xt.Nw.setCell (Xt.Nw.setCell hnk (Nat.le_refl _) _) (Nat.le_refl _) _
    obtain ⟨g, hg⟩ : ∃ g, g = W2.heap.size := ⟨_, rfl⟩
    rw [← hg]
    have hgs := hnk.grown.size
    have hs2 := HS2.out
    have hxg : g ∉ [gt] := by simp; omega
    have e0 : W3.cell? ⟨g, 0, none⟩ = some (.int .u64 k) := by rw [hW3, hg]; simp [go_sem, g0, g1]
    have e1 : W3.cell? ⟨g, 1, none⟩ = some (.int .u64 y) := by rw [hW3, hg]; simp [go_sem, g0, g1]
    clear g0 g1 g2 g3
    have HN3 := Lib.hid hn3
    clear hgs hW3 hg hnk hnk0 hs2
    go_upto_region 6 with (fail)
    go_region_held3 (fun w' => w'.cell? ⟨g, 0, none⟩ = some (.int .u64 k)) (first | exact e0 | exact hch.cell e0 hxg)
      ((first | (go_at_call 107; refine (after_any W3.drew gt s.th (HTH.out.nw (Nw.drew (HN2.out.trans hn3))) t x HT.out k HK.out).mono ?_; rintro r W4 ⟨rfl, hth, hch⟩)))
    have hmu := MUp.ths (H.out.nw (Nw.drew (HN2.out.trans hn3))) (HLEN.out _) hth hch
    obtain ⟨hs4, -, -, -, -, -, -, -, r0, r1, r2, r3, r4, w0, w1, w2, w3, w4⟩ := (HF2.out.nw (Nw.drew hn3)).foot H.out hmu.chg
    have f0 : W4.cell? ⟨g, 0, none⟩ = some (.int .u64 k) := hch.cell e0 hxg
    have f1 : W4.cell? ⟨g, 1, none⟩ = some (.int .u64 y) := hch.cell e1 hxg
    haveI : In g W4 := ⟨World.block_lt_of_cell? W4 _ f0⟩
    have HU := Lib.hid hmu
    clear hch hth hmu hs4 hn3 e0 e1
    go_wp2
    refine bodyPost_ret (v := res5 0 true k y 0) ?_ rfl ⟨rfl, _, MUp.res (Nw.drew (HN2.out.trans HN3.out)) (Nat.le_succ _) (Nat.lt_of_lt_of_le HS2.out HN3.out.grown.size) H.out HU.out ⟨0, true, k, y, 0⟩⟩
    simp [results, Tryz.results130, go_sem, r0, r1, r2, r3, r4]
end Go.Proofs.YtkikdpdainmlcaaGreat
