import Derived.Test.YtkikdpdainmlcaaGreatGRe
import Derived.Lib.ItoaNum
set_option linter.unusedVariables false
set_option linter.unusedSimpArgs false
set_option linter.unnecessarySimpa false
namespace Go.Proofs.YtkikdpdainmlcaaGreat
open Go.RowKit Go.Xt
/-! Accept at an operation that is performed. -/
theorem acc_store {w W6 : World} {p p6 : Pl} {s s2 : Md} {ct : Nat} (H : MAt w p s) (hn : Nw w W6) (h6 : MAt W6 p6 s2) (hf : ∀ g ∈ p6.foot, w.heap.size ≤ g) :
    MUp w p s2 ⟨p.gm, p6.gt, p6.gp, p6.v⟩ (((W6.setCell ⟨p.gm, 0, none⟩ (.int .i64 s2.slots)).setCell ⟨p.gm, 1, none⟩ (.pointer (some ⟨p6.gp, 0, none⟩))).setCell ⟨p.gm, 2, none⟩ (.slice (some ⟨p6.gt, 0, none⟩) s2.th.length ct)) := by
  have im := H.im
  have e0 := cell_nw H.m0 hn
  have e1 := cell_nw H.m1 hn
  obtain ⟨c0, m2⟩ := H.m2
  have e2 := cell_nw m2 hn
  have hch : Chg [p.gm] W6 (((W6.setCell ⟨p.gm, 0, none⟩ (.int .i64 s2.slots)).setCell ⟨p.gm, 1, none⟩ (.pointer (some ⟨p6.gp, 0, none⟩))).setCell ⟨p.gm, 2, none⟩ (.slice (some ⟨p6.gt, 0, none⟩) s2.th.length ct)) := ((Chg.set1 W6 p.gm 0 _).set2 1 _).set2 2 _
  have f1 := hf _ (Pl.mem.2 (.inr (.inl rfl)))
  have f2 := hf _ (Pl.mem.2 (.inr (.inr (.inl rfl))))
  have f3 : p6.v.ownBlock ≠ some p.gm := fun e => by have := hf _ (Pl.mem.2 (.inr (.inr (.inr e)))); omega
  refine ⟨⟨by simp [go_sem, e0, e1, e2], by simp [go_sem, e0, e1, e2], ⟨ct, by simp [go_sem, e0, e1, e2]⟩, fun o => ?_, h6.th.chg hch (by simp; omega), h6.om.chg hch (by simp; omega) (fun g hg hx => by simp at hx; subst hx; exact f3 hg), by show p.gm ≠ p6.gt; omega, by show p.gm ≠ p6.gp; omega, h6.ntp, f3, h6.ntv⟩, ?_, fun y hy => ?_, rfl⟩
  · rw [World.frozen?_setCell, World.frozen?_setCell, World.frozen?_setCell]
    exact (frozen_nw im hn).trans (H.mz o)
  · exact (Chg.of_nw hn : Chg p.foot w W6).then hch (fun y hy => by simp at hy; subst hy; exact .inl (Pl.mem.2 (.inl rfl)))
  · rcases Pl.mem.1 hy with h9 | h9 | h9 | h9
    · exact .inl (Pl.mem.2 (.inl h9))
    · exact .inr (by have h9 : y = p6.gt := h9; omega)
    · exact .inr (by have h9 : y = p6.gp := h9; omega)
    · exact .inr (hf _ (Pl.mem.2 (.inr (.inr (.inr h9)))))
set_option maxRecDepth 20000 in
set_option maxHeartbeats 8000000 in
theorem acc_no0 (w : World) (p : Pl) (s : Md) (h : MAt w p s) (hl : s.l.length ≤ 500000) (t : Nat) (k : Int) (a b c d e f er : Int) (fd : Bool) (ke va cn : Int) (hw : Ox.Wf ⟨k, a, b, c, d, e, f⟩) (x : Th) (ht : s.th[t]? = some x) (hr : refM s t ⟨k, a, b, c, d, e, f⟩ = 0) (hc : chkO ⟨k, a, b, c, d, e, f⟩ = 0) {N : Nat} (hok : s.Ok N) (hN : N ≤ 500000) (ht0 : 0 < s.th.length) (h12 : k ≠ 12) (h15 : k ≠ 15) (hre : refE x ⟨k, a, b, c, d, e, f⟩ = 0) (hal : eqR er fd ke va cn er false 0 0 0 = false) (e2 : Int) (f2 : Bool) (k2 v2 c2 : Int) (s2 : Md) (hP : perfM s t x ⟨k, a, b, c, d, e, f⟩ = (⟨e2, f2, k2, v2, c2⟩, s2)) (hb : eqR e2 f2 k2 v2 c2 er fd ke va cn = false) :
    Calls Tryz.prog 87 #[.pointer (some ⟨p.gm, 0, none⟩), .int .i64 t, op7 k a b c d e f, res5 er fd ke va cn] w fun q w' => q = .returned (.bool (false)) ∧ ∃ p', MUp w p s p' w' := by
  have HRF := Lib.hid (fun W (hn : Nw w W) => refusal_any W p s (h.nw hn) t ⟨k, a, b, c, d, e, f⟩ hw)
  have HGV := Lib.hid (fun W (hn : Nw w W) => gives_M W p s (h.nw hn) hl ⟨k, a, b, c, d, e, f⟩ hw hc er)
  rw [hr] at HRF
  unfold opV at HRF
  unfold opV at HGV
  simp only at HGV
  simp only at HRF
  have H := Lib.hid h
  have im := h.im
  have HCP := Lib.hid (fun W (hn : Nw w W) => copy_M W p s (h.nw hn) (by omega) ht0 hok.thn)
  have HPF := Lib.hid (fun (W : World) (q : Pl) (hq : MAt W q s) => perform_M W q s hq hok hN t x ht ⟨k, a, b, c, d, e, f⟩ hw hc hre)
  rw [hP] at HPF
  unfold opV resV at HPF
  simp only at HPF
  obtain ⟨gm, hgm⟩ : ∃ g, g = p.gm := ⟨_, rfl⟩
  rw [← hgm] at im HRF HGV HCP ⊢
  haveI : In gm w := ⟨im⟩
  have HGM := Lib.hid hgm
  have k12 : (k == 12) = false := by simpa using h12
  have k15 : (k == 15) = false := by simpa using h15
  obtain ⟨W2, hW2⟩ : ∃ W2, W2 = (w.alloc (.cells #[.int .u8 k, .int .u64 a, .int .u64 b, .int .u64 c, .int .u64 d, .int .u64 e, .int .u64 f] 41)).alloc (.cells #[.int .i64 er, .bool fd, .int .u64 ke, .int .u64 va, .int .i64 cn] 43) := ⟨_, rfl⟩
  have hn2 : Nw w W2 := by rw [hW2]; exact nwa
  have q0 : W2.cell? ⟨w.heap.size, 0, none⟩ = some (.int .u8 k) := by rw [hW2]; simp [go_sem]
  have q1 : W2.cell? ⟨w.heap.size, 1, none⟩ = some (.int .u64 a) := by rw [hW2]; simp [go_sem]
  have q2 : W2.cell? ⟨w.heap.size, 2, none⟩ = some (.int .u64 b) := by rw [hW2]; simp [go_sem]
  have q3 : W2.cell? ⟨w.heap.size, 3, none⟩ = some (.int .u64 c) := by rw [hW2]; simp [go_sem]
  have q4 : W2.cell? ⟨w.heap.size, 4, none⟩ = some (.int .u64 d) := by rw [hW2]; simp [go_sem]
  have q5 : W2.cell? ⟨w.heap.size, 5, none⟩ = some (.int .u64 e) := by rw [hW2]; simp [go_sem]
  have q6 : W2.cell? ⟨w.heap.size, 6, none⟩ = some (.int .u64 f) := by rw [hW2]; simp [go_sem]
  have r0 : W2.cell? ⟨w.heap.size + 1, 0, none⟩ = some (.int .i64 er) := by rw [hW2]; simp [go_sem]
  have r1 : W2.cell? ⟨w.heap.size + 1, 1, none⟩ = some (.bool fd) := by rw [hW2]; simp [go_sem]
  have r2 : W2.cell? ⟨w.heap.size + 1, 2, none⟩ = some (.int .u64 ke) := by rw [hW2]; simp [go_sem]
  have r3 : W2.cell? ⟨w.heap.size + 1, 3, none⟩ = some (.int .u64 va) := by rw [hW2]; simp [go_sem]
  have r4 : W2.cell? ⟨w.heap.size + 1, 4, none⟩ = some (.int .i64 cn) := by rw [hW2]; simp [go_sem]
  have hs2 : W2.heap.size = w.heap.size + 2 := by rw [hW2]; simp
  have HN2 := Lib.hid hn2
  have HW2 := Lib.hid hW2
  have HS2 := Lib.hid hs2
  clear h hl hw hgm im hr hc ht hP hok hN ht0 h12 h15 hre hn2 hW2 hs2
  go_enter Tryz.func87, Tryz.ntmps87
  go_wp2_with fail
  rw [← HW2.out]
  refine (HRF.out W2 HN2.out).mono ?_
  rintro r W3 ⟨rfl, hn3⟩
  replace q0 := cell_nw q0 hn3
  replace q1 := cell_nw q1 hn3
  replace q2 := cell_nw q2 hn3
  replace q3 := cell_nw q3 hn3
  replace q4 := cell_nw q4 hn3
  replace q5 := cell_nw q5 hn3
  replace q6 := cell_nw q6 hn3
  replace r0 := cell_nw r0 hn3
  replace r1 := cell_nw r1 hn3
  replace r2 := cell_nw r2 hn3
  replace r3 := cell_nw r3 hn3
  replace r4 := cell_nw r4 hn3
  have HN3 := Lib.hid (HN2.out.trans hn3)
  have HS3 := Lib.hid (Nat.le_trans (Nat.le_of_eq HS2.out.symm) hn3.grown.size)
  haveI : In w.heap.size W3 := ⟨World.block_lt_of_cell? W3 _ q0⟩
  haveI : In (w.heap.size + 1) W3 := ⟨World.block_lt_of_cell? W3 _ r0⟩
  clear hn3
  go_wp2_with fail
  refine (HCP.out W3 HN3.out).mono ?_
  rintro r W5 ⟨gq, rfl, pc, hpc, hat, hft, hn5⟩
  have HAT := Lib.hid hat
  have HPC := Lib.hid hpc
  have hf1 : w.heap.size ∉ pc.foot := fun e => by have h1 := hft _ e; have h2 := HS3.out; omega
  have hf2 : w.heap.size + 1 ∉ pc.foot := fun e => by have h1 := hft _ e; have h2 := HS3.out; omega
  have HFT := Lib.hid (fun g (hg : g ∈ pc.foot) => Nat.le_trans (Nat.le_trans (Nat.le_add_right _ 2) HS3.out) (hft g hg))
  replace q0 := cell_nw q0 hn5
  replace q1 := cell_nw q1 hn5
  replace q2 := cell_nw q2 hn5
  replace q3 := cell_nw q3 hn5
  replace q4 := cell_nw q4 hn5
  replace q5 := cell_nw q5 hn5
  replace q6 := cell_nw q6 hn5
  replace r0 := cell_nw r0 hn5
  replace r1 := cell_nw r1 hn5
  replace r2 := cell_nw r2 hn5
  replace r3 := cell_nw r3 hn5
  replace r4 := cell_nw r4 hn5
  have HN5 := Lib.hid (HN3.out.trans hn5)
  haveI : In w.heap.size W5 := ⟨World.block_lt_of_cell? W5 _ q0⟩
  haveI : In (w.heap.size + 1) W5 := ⟨World.block_lt_of_cell? W5 _ r0⟩
  clear hn5 hft hpc hat
  go_upto_region 22 with (fail)
  go_region_held3 (fun w' => w'.cell? ⟨w.heap.size, 0, none⟩ = some (.int .u8 k) ∧ w'.cell? ⟨w.heap.size, 1, none⟩ = some (.int .u64 a) ∧ w'.cell? ⟨w.heap.size, 2, none⟩ = some (.int .u64 b) ∧ w'.cell? ⟨w.heap.size, 3, none⟩ = some (.int .u64 c) ∧ w'.cell? ⟨w.heap.size, 4, none⟩ = some (.int .u64 d) ∧ w'.cell? ⟨w.heap.size, 5, none⟩ = some (.int .u64 e) ∧ w'.cell? ⟨w.heap.size, 6, none⟩ = some (.int .u64 f) ∧ w'.cell? ⟨w.heap.size + 1, 0, none⟩ = some (.int .i64 er) ∧ w'.cell? ⟨w.heap.size + 1, 1, none⟩ = some (.bool fd) ∧ w'.cell? ⟨w.heap.size + 1, 2, none⟩ = some (.int .u64 ke) ∧ w'.cell? ⟨w.heap.size + 1, 3, none⟩ = some (.int .u64 va) ∧ w'.cell? ⟨w.heap.size + 1, 4, none⟩ = some (.int .i64 cn)) (first | exact ⟨q0, q1, q2, q3, q4, q5, q6, r0, r1, r2, r3, r4⟩ | exact ⟨hu.chg.cell q0 hf1, hu.chg.cell q1 hf1, hu.chg.cell q2 hf1, hu.chg.cell q3 hf1, hu.chg.cell q4 hf1, hu.chg.cell q5 hf1, hu.chg.cell q6 hf1, hu.chg.cell r0 hf2, hu.chg.cell r1 hf2, hu.chg.cell r2 hf2, hu.chg.cell r3 hf2, hu.chg.cell r4 hf2⟩)
    ((first | (go_at_call 103; refine (by rw [← HPC.out]; exact HPF.out W5.drew pc (HAT.out.nw (Nw.drew (Nw.refl W5))) : Calls _ _ _ _ _).mono ?_; rintro r W6 ⟨rfl, p6, hu⟩)))
  rename_i hHeld
  clear hHeld
  have HN6 := Lib.hid (nw_chg2 (Nw.drew HN5.out) hu.chg HFT.out : Nw w W6)
  clear hu
  go_wp2
  go_ret
  exact ⟨rfl, _, MUp.same H.out (HN6.out.trans (nwa))⟩
set_option maxRecDepth 20000 in
set_option maxHeartbeats 8000000 in
theorem acc_no1 (w : World) (p : Pl) (s : Md) (h : MAt w p s) (hl : s.l.length ≤ 500000) (t : Nat) (k : Int) (a b c d e f er : Int) (fd : Bool) (ke va cn : Int) (hw : Ox.Wf ⟨k, a, b, c, d, e, f⟩) (x : Th) (ht : s.th[t]? = some x) (hr : refM s t ⟨k, a, b, c, d, e, f⟩ = 0) (hc : chkO ⟨k, a, b, c, d, e, f⟩ = 0) {N : Nat} (hok : s.Ok N) (hN : N ≤ 500000) (ht0 : 0 < s.th.length) (h12 : k ≠ 12) (h15 : k ≠ 15) (hre : refE x ⟨k, a, b, c, d, e, f⟩ = 0) (hal : eqR er fd ke va cn er false 0 0 0 = true) (hg : givesM s ⟨k, a, b, c, d, e, f⟩ er = false) (e2 : Int) (f2 : Bool) (k2 v2 c2 : Int) (s2 : Md) (hP : perfM s t x ⟨k, a, b, c, d, e, f⟩ = (⟨e2, f2, k2, v2, c2⟩, s2)) (hb : eqR e2 f2 k2 v2 c2 er fd ke va cn = false) :
    Calls Tryz.prog 87 #[.pointer (some ⟨p.gm, 0, none⟩), .int .i64 t, op7 k a b c d e f, res5 er fd ke va cn] w fun q w' => q = .returned (.bool (false)) ∧ ∃ p', MUp w p s p' w' := by
  have HRF := Lib.hid (fun W (hn : Nw w W) => refusal_any W p s (h.nw hn) t ⟨k, a, b, c, d, e, f⟩ hw)
  have HGV := Lib.hid (fun W (hn : Nw w W) => gives_M W p s (h.nw hn) hl ⟨k, a, b, c, d, e, f⟩ hw hc er)
  rw [hr] at HRF
  unfold opV at HRF
  unfold opV at HGV
  simp only at HGV
  simp only at HRF
  have H := Lib.hid h
  have im := h.im
  rw [hg] at HGV
  have HCP := Lib.hid (fun W (hn : Nw w W) => copy_M W p s (h.nw hn) (by omega) ht0 hok.thn)
  have HPF := Lib.hid (fun (W : World) (q : Pl) (hq : MAt W q s) => perform_M W q s hq hok hN t x ht ⟨k, a, b, c, d, e, f⟩ hw hc hre)
  rw [hP] at HPF
  unfold opV resV at HPF
  simp only at HPF
  obtain ⟨gm, hgm⟩ : ∃ g, g = p.gm := ⟨_, rfl⟩
  rw [← hgm] at im HRF HGV HCP ⊢
  haveI : In gm w := ⟨im⟩
  have HGM := Lib.hid hgm
  have k12 : (k == 12) = false := by simpa using h12
  have k15 : (k == 15) = false := by simpa using h15
  obtain ⟨W2, hW2⟩ : ∃ W2, W2 = (w.alloc (.cells #[.int .u8 k, .int .u64 a, .int .u64 b, .int .u64 c, .int .u64 d, .int .u64 e, .int .u64 f] 41)).alloc (.cells #[.int .i64 er, .bool fd, .int .u64 ke, .int .u64 va, .int .i64 cn] 43) := ⟨_, rfl⟩
  have hn2 : Nw w W2 := by rw [hW2]; exact nwa
  have q0 : W2.cell? ⟨w.heap.size, 0, none⟩ = some (.int .u8 k) := by rw [hW2]; simp [go_sem]
  have q1 : W2.cell? ⟨w.heap.size, 1, none⟩ = some (.int .u64 a) := by rw [hW2]; simp [go_sem]
  have q2 : W2.cell? ⟨w.heap.size, 2, none⟩ = some (.int .u64 b) := by rw [hW2]; simp [go_sem]
  have q3 : W2.cell? ⟨w.heap.size, 3, none⟩ = some (.int .u64 c) := by rw [hW2]; simp [go_sem]
  have q4 : W2.cell? ⟨w.heap.size, 4, none⟩ = some (.int .u64 d) := by rw [hW2]; simp [go_sem]
  have q5 : W2.cell? ⟨w.heap.size, 5, none⟩ = some (.int .u64 e) := by rw [hW2]; simp [go_sem]
  have q6 : W2.cell? ⟨w.heap.size, 6, none⟩ = some (.int .u64 f) := by rw [hW2]; simp [go_sem]
  have r0 : W2.cell? ⟨w.heap.size + 1, 0, none⟩ = some (.int .i64 er) := by rw [hW2]; simp [go_sem]
  have r1 : W2.cell? ⟨w.heap.size + 1, 1, none⟩ = some (.bool fd) := by rw [hW2]; simp [go_sem]
  have r2 : W2.cell? ⟨w.heap.size + 1, 2, none⟩ = some (.int .u64 ke) := by rw [hW2]; simp [go_sem]
  have r3 : W2.cell? ⟨w.heap.size + 1, 3, none⟩ = some (.int .u64 va) := by rw [hW2]; simp [go_sem]
  have r4 : W2.cell? ⟨w.heap.size + 1, 4, none⟩ = some (.int .i64 cn) := by rw [hW2]; simp [go_sem]
  have hs2 : W2.heap.size = w.heap.size + 2 := by rw [hW2]; simp
  have HN2 := Lib.hid hn2
  have HW2 := Lib.hid hW2
  have HS2 := Lib.hid hs2
  clear h hl hw hgm im hr hc ht hP hok hN ht0 h12 h15 hre hn2 hW2 hs2
  go_enter Tryz.func87, Tryz.ntmps87
  go_wp2_with fail
  rw [← HW2.out]
  refine (HRF.out W2 HN2.out).mono ?_
  rintro r W3 ⟨rfl, hn3⟩
  replace q0 := cell_nw q0 hn3
  replace q1 := cell_nw q1 hn3
  replace q2 := cell_nw q2 hn3
  replace q3 := cell_nw q3 hn3
  replace q4 := cell_nw q4 hn3
  replace q5 := cell_nw q5 hn3
  replace q6 := cell_nw q6 hn3
  replace r0 := cell_nw r0 hn3
  replace r1 := cell_nw r1 hn3
  replace r2 := cell_nw r2 hn3
  replace r3 := cell_nw r3 hn3
  replace r4 := cell_nw r4 hn3
  have HN3 := Lib.hid (HN2.out.trans hn3)
  have HS3 := Lib.hid (Nat.le_trans (Nat.le_of_eq HS2.out.symm) hn3.grown.size)
  haveI : In w.heap.size W3 := ⟨World.block_lt_of_cell? W3 _ q0⟩
  haveI : In (w.heap.size + 1) W3 := ⟨World.block_lt_of_cell? W3 _ r0⟩
  clear hn3
  go_wp2_with fail
  refine (HGV.out W3 HN3.out).mono ?_
  rintro r W4 ⟨rfl, hn4⟩
  replace q0 := cell_nw q0 hn4
  replace q1 := cell_nw q1 hn4
  replace q2 := cell_nw q2 hn4
  replace q3 := cell_nw q3 hn4
  replace q4 := cell_nw q4 hn4
  replace q5 := cell_nw q5 hn4
  replace q6 := cell_nw q6 hn4
  replace r0 := cell_nw r0 hn4
  replace r1 := cell_nw r1 hn4
  replace r2 := cell_nw r2 hn4
  replace r3 := cell_nw r3 hn4
  replace r4 := cell_nw r4 hn4
  have HN4 := Lib.hid (HN3.out.trans hn4)
  have HS4 := Lib.hid (Nat.le_trans HS3.out hn4.grown.size)
  haveI : In w.heap.size W4 := ⟨World.block_lt_of_cell? W4 _ q0⟩
  haveI : In (w.heap.size + 1) W4 := ⟨World.block_lt_of_cell? W4 _ r0⟩
  clear hn4
  go_wp2_with fail
  refine (HCP.out W4 HN4.out).mono ?_
  rintro r W5 ⟨gq, rfl, pc, hpc, hat, hft, hn5⟩
  have HAT := Lib.hid hat
  have HPC := Lib.hid hpc
  have hf1 : w.heap.size ∉ pc.foot := fun e => by have h1 := hft _ e; have h2 := HS4.out; omega
  have hf2 : w.heap.size + 1 ∉ pc.foot := fun e => by have h1 := hft _ e; have h2 := HS4.out; omega
  have HFT := Lib.hid (fun g (hg : g ∈ pc.foot) => Nat.le_trans (Nat.le_trans (Nat.le_add_right _ 2) HS4.out) (hft g hg))
  replace q0 := cell_nw q0 hn5
  replace q1 := cell_nw q1 hn5
  replace q2 := cell_nw q2 hn5
  replace q3 := cell_nw q3 hn5
  replace q4 := cell_nw q4 hn5
  replace q5 := cell_nw q5 hn5
  replace q6 := cell_nw q6 hn5
  replace r0 := cell_nw r0 hn5
  replace r1 := cell_nw r1 hn5
  replace r2 := cell_nw r2 hn5
  replace r3 := cell_nw r3 hn5
  replace r4 := cell_nw r4 hn5
  have HN5 := Lib.hid (HN4.out.trans hn5)
  haveI : In w.heap.size W5 := ⟨World.block_lt_of_cell? W5 _ q0⟩
  haveI : In (w.heap.size + 1) W5 := ⟨World.block_lt_of_cell? W5 _ r0⟩
  clear hn5 hft hpc hat
  go_upto_region 22 with (fail)
  go_region_held3 (fun w' => w'.cell? ⟨w.heap.size, 0, none⟩ = some (.int .u8 k) ∧ w'.cell? ⟨w.heap.size, 1, none⟩ = some (.int .u64 a) ∧ w'.cell? ⟨w.heap.size, 2, none⟩ = some (.int .u64 b) ∧ w'.cell? ⟨w.heap.size, 3, none⟩ = some (.int .u64 c) ∧ w'.cell? ⟨w.heap.size, 4, none⟩ = some (.int .u64 d) ∧ w'.cell? ⟨w.heap.size, 5, none⟩ = some (.int .u64 e) ∧ w'.cell? ⟨w.heap.size, 6, none⟩ = some (.int .u64 f) ∧ w'.cell? ⟨w.heap.size + 1, 0, none⟩ = some (.int .i64 er) ∧ w'.cell? ⟨w.heap.size + 1, 1, none⟩ = some (.bool fd) ∧ w'.cell? ⟨w.heap.size + 1, 2, none⟩ = some (.int .u64 ke) ∧ w'.cell? ⟨w.heap.size + 1, 3, none⟩ = some (.int .u64 va) ∧ w'.cell? ⟨w.heap.size + 1, 4, none⟩ = some (.int .i64 cn)) (first | exact ⟨q0, q1, q2, q3, q4, q5, q6, r0, r1, r2, r3, r4⟩ | exact ⟨hu.chg.cell q0 hf1, hu.chg.cell q1 hf1, hu.chg.cell q2 hf1, hu.chg.cell q3 hf1, hu.chg.cell q4 hf1, hu.chg.cell q5 hf1, hu.chg.cell q6 hf1, hu.chg.cell r0 hf2, hu.chg.cell r1 hf2, hu.chg.cell r2 hf2, hu.chg.cell r3 hf2, hu.chg.cell r4 hf2⟩)
    ((first | (go_at_call 103; refine (by rw [← HPC.out]; exact HPF.out W5.drew pc (HAT.out.nw (Nw.drew (Nw.refl W5))) : Calls _ _ _ _ _).mono ?_; rintro r W6 ⟨rfl, p6, hu⟩)))
  rename_i hHeld
  clear hHeld
  have HN6 := Lib.hid (nw_chg2 (Nw.drew HN5.out) hu.chg HFT.out : Nw w W6)
  clear hu
  go_wp2
  go_ret
  exact ⟨rfl, _, MUp.same H.out (HN6.out.trans (nwa))⟩
set_option maxRecDepth 20000 in
set_option maxHeartbeats 8000000 in
theorem acc_yes0 (w : World) (p : Pl) (s : Md) (h : MAt w p s) (hl : s.l.length ≤ 500000) (t : Nat) (k : Int) (a b c d e f er : Int) (fd : Bool) (ke va cn : Int) (hw : Ox.Wf ⟨k, a, b, c, d, e, f⟩) (x : Th) (ht : s.th[t]? = some x) (hr : refM s t ⟨k, a, b, c, d, e, f⟩ = 0) (hc : chkO ⟨k, a, b, c, d, e, f⟩ = 0) {N : Nat} (hok : s.Ok N) (hN : N ≤ 500000) (ht0 : 0 < s.th.length) (h12 : k ≠ 12) (h15 : k ≠ 15) (hre : refE x ⟨k, a, b, c, d, e, f⟩ = 0) (hal : eqR er fd ke va cn er false 0 0 0 = false) (e2 : Int) (f2 : Bool) (k2 v2 c2 : Int) (s2 : Md) (hP : perfM s t x ⟨k, a, b, c, d, e, f⟩ = (⟨e2, f2, k2, v2, c2⟩, s2)) (hb : eqR e2 f2 k2 v2 c2 er fd ke va cn = true) :
    Calls Tryz.prog 87 #[.pointer (some ⟨p.gm, 0, none⟩), .int .i64 t, op7 k a b c d e f, res5 er fd ke va cn] w fun q w' => q = .returned (.bool (true)) ∧ ∃ p', MUp w p s2 p' w' := by
  have HRF := Lib.hid (fun W (hn : Nw w W) => refusal_any W p s (h.nw hn) t ⟨k, a, b, c, d, e, f⟩ hw)
  have HGV := Lib.hid (fun W (hn : Nw w W) => gives_M W p s (h.nw hn) hl ⟨k, a, b, c, d, e, f⟩ hw hc er)
  rw [hr] at HRF
  unfold opV at HRF
  unfold opV at HGV
  simp only at HGV
  simp only at HRF
  have H := Lib.hid h
  have im := h.im
  have HCP := Lib.hid (fun W (hn : Nw w W) => copy_M W p s (h.nw hn) (by omega) ht0 hok.thn)
  have HPF := Lib.hid (fun (W : World) (q : Pl) (hq : MAt W q s) => perform_M W q s hq hok hN t x ht ⟨k, a, b, c, d, e, f⟩ hw hc hre)
  rw [hP] at HPF
  unfold opV resV at HPF
  simp only at HPF
  obtain ⟨gm, hgm⟩ : ∃ g, g = p.gm := ⟨_, rfl⟩
  rw [← hgm] at im HRF HGV HCP ⊢
  haveI : In gm w := ⟨im⟩
  have HGM := Lib.hid hgm
  have k12 : (k == 12) = false := by simpa using h12
  have k15 : (k == 15) = false := by simpa using h15
  obtain ⟨W2, hW2⟩ : ∃ W2, W2 = (w.alloc (.cells #[.int .u8 k, .int .u64 a, .int .u64 b, .int .u64 c, .int .u64 d, .int .u64 e, .int .u64 f] 41)).alloc (.cells #[.int .i64 er, .bool fd, .int .u64 ke, .int .u64 va, .int .i64 cn] 43) := ⟨_, rfl⟩
  have hn2 : Nw w W2 := by rw [hW2]; exact nwa
  have q0 : W2.cell? ⟨w.heap.size, 0, none⟩ = some (.int .u8 k) := by rw [hW2]; simp [go_sem]
  have q1 : W2.cell? ⟨w.heap.size, 1, none⟩ = some (.int .u64 a) := by rw [hW2]; simp [go_sem]
  have q2 : W2.cell? ⟨w.heap.size, 2, none⟩ = some (.int .u64 b) := by rw [hW2]; simp [go_sem]
  have q3 : W2.cell? ⟨w.heap.size, 3, none⟩ = some (.int .u64 c) := by rw [hW2]; simp [go_sem]
  have q4 : W2.cell? ⟨w.heap.size, 4, none⟩ = some (.int .u64 d) := by rw [hW2]; simp [go_sem]
  have q5 : W2.cell? ⟨w.heap.size, 5, none⟩ = some (.int .u64 e) := by rw [hW2]; simp [go_sem]
  have q6 : W2.cell? ⟨w.heap.size, 6, none⟩ = some (.int .u64 f) := by rw [hW2]; simp [go_sem]
  have r0 : W2.cell? ⟨w.heap.size + 1, 0, none⟩ = some (.int .i64 er) := by rw [hW2]; simp [go_sem]
  have r1 : W2.cell? ⟨w.heap.size + 1, 1, none⟩ = some (.bool fd) := by rw [hW2]; simp [go_sem]
  have r2 : W2.cell? ⟨w.heap.size + 1, 2, none⟩ = some (.int .u64 ke) := by rw [hW2]; simp [go_sem]
  have r3 : W2.cell? ⟨w.heap.size + 1, 3, none⟩ = some (.int .u64 va) := by rw [hW2]; simp [go_sem]
  have r4 : W2.cell? ⟨w.heap.size + 1, 4, none⟩ = some (.int .i64 cn) := by rw [hW2]; simp [go_sem]
  have hs2 : W2.heap.size = w.heap.size + 2 := by rw [hW2]; simp
  have HN2 := Lib.hid hn2
  have HW2 := Lib.hid hW2
  have HS2 := Lib.hid hs2
  clear h hl hw hgm im hr hc ht hP hok hN ht0 h12 h15 hre hn2 hW2 hs2
  go_enter Tryz.func87, Tryz.ntmps87
  go_wp2_with fail
  rw [← HW2.out]
  refine (HRF.out W2 HN2.out).mono ?_
  rintro r W3 ⟨rfl, hn3⟩
  replace q0 := cell_nw q0 hn3
  replace q1 := cell_nw q1 hn3
  replace q2 := cell_nw q2 hn3
  replace q3 := cell_nw q3 hn3
  replace q4 := cell_nw q4 hn3
  replace q5 := cell_nw q5 hn3
  replace q6 := cell_nw q6 hn3
  replace r0 := cell_nw r0 hn3
  replace r1 := cell_nw r1 hn3
  replace r2 := cell_nw r2 hn3
  replace r3 := cell_nw r3 hn3
  replace r4 := cell_nw r4 hn3
  have HN3 := Lib.hid (HN2.out.trans hn3)
  have HS3 := Lib.hid (Nat.le_trans (Nat.le_of_eq HS2.out.symm) hn3.grown.size)
  haveI : In w.heap.size W3 := ⟨World.block_lt_of_cell? W3 _ q0⟩
  haveI : In (w.heap.size + 1) W3 := ⟨World.block_lt_of_cell? W3 _ r0⟩
  clear hn3
  go_wp2_with fail
  refine (HCP.out W3 HN3.out).mono ?_
  rintro r W5 ⟨gq, rfl, pc, hpc, hat, hft, hn5⟩
  have HAT := Lib.hid hat
  have HPC := Lib.hid hpc
  have hf1 : w.heap.size ∉ pc.foot := fun e => by have h1 := hft _ e; have h2 := HS3.out; omega
  have hf2 : w.heap.size + 1 ∉ pc.foot := fun e => by have h1 := hft _ e; have h2 := HS3.out; omega
  have HFT := Lib.hid (fun g (hg : g ∈ pc.foot) => Nat.le_trans (Nat.le_trans (Nat.le_add_right _ 2) HS3.out) (hft g hg))
  replace q0 := cell_nw q0 hn5
  replace q1 := cell_nw q1 hn5
  replace q2 := cell_nw q2 hn5
  replace q3 := cell_nw q3 hn5
  replace q4 := cell_nw q4 hn5
  replace q5 := cell_nw q5 hn5
  replace q6 := cell_nw q6 hn5
  replace r0 := cell_nw r0 hn5
  replace r1 := cell_nw r1 hn5
  replace r2 := cell_nw r2 hn5
  replace r3 := cell_nw r3 hn5
  replace r4 := cell_nw r4 hn5
  have HN5 := Lib.hid (HN3.out.trans hn5)
  haveI : In w.heap.size W5 := ⟨World.block_lt_of_cell? W5 _ q0⟩
  haveI : In (w.heap.size + 1) W5 := ⟨World.block_lt_of_cell? W5 _ r0⟩
  clear hn5 hft hpc hat
  go_upto_region 22 with (fail)
  go_region_held3 (fun w' => w'.cell? ⟨w.heap.size, 0, none⟩ = some (.int .u8 k) ∧ w'.cell? ⟨w.heap.size, 1, none⟩ = some (.int .u64 a) ∧ w'.cell? ⟨w.heap.size, 2, none⟩ = some (.int .u64 b) ∧ w'.cell? ⟨w.heap.size, 3, none⟩ = some (.int .u64 c) ∧ w'.cell? ⟨w.heap.size, 4, none⟩ = some (.int .u64 d) ∧ w'.cell? ⟨w.heap.size, 5, none⟩ = some (.int .u64 e) ∧ w'.cell? ⟨w.heap.size, 6, none⟩ = some (.int .u64 f) ∧ w'.cell? ⟨w.heap.size + 1, 0, none⟩ = some (.int .i64 er) ∧ w'.cell? ⟨w.heap.size + 1, 1, none⟩ = some (.bool fd) ∧ w'.cell? ⟨w.heap.size + 1, 2, none⟩ = some (.int .u64 ke) ∧ w'.cell? ⟨w.heap.size + 1, 3, none⟩ = some (.int .u64 va) ∧ w'.cell? ⟨w.heap.size + 1, 4, none⟩ = some (.int .i64 cn)) (first | exact ⟨q0, q1, q2, q3, q4, q5, q6, r0, r1, r2, r3, r4⟩ | exact ⟨hu.chg.cell q0 hf1, hu.chg.cell q1 hf1, hu.chg.cell q2 hf1, hu.chg.cell q3 hf1, hu.chg.cell q4 hf1, hu.chg.cell q5 hf1, hu.chg.cell q6 hf1, hu.chg.cell r0 hf2, hu.chg.cell r1 hf2, hu.chg.cell r2 hf2, hu.chg.cell r3 hf2, hu.chg.cell r4 hf2⟩)
    ((first | (go_at_call 103; refine (by rw [← HPC.out]; exact HPF.out W5.drew pc (HAT.out.nw (Nw.drew (Nw.refl W5))) : Calls _ _ _ _ _).mono ?_; rintro r W6 ⟨rfl, p6, hu⟩)))
  rename_i hHeld
  clear hHeld
  have HN6 := Lib.hid (nw_chg2 (Nw.drew HN5.out) hu.chg HFT.out : Nw w W6)
  have hf6 : ∀ g ∈ p6.foot, w.heap.size ≤ g := fun g hg => by
    rcases hu.mv g hg with h1 | h1
    · exact HFT.out g h1
    · exact Nat.le_trans HN5.out.grown.size h1
  have h6 := hu.at'
  have hg6 : p6.gm = gq := hu.gm.trans HPC.out
  obtain ⟨ct, j2⟩ := h6.m2
  have HST := Lib.hid (acc_store (ct := ct) H.out HN6.out h6 hf6)
  have j0 := h6.m0
  have j1 := h6.m1
  rw [hg6] at j0 j1 j2
  have u0 := cell_nw H.out.m0 HN6.out
  have u1 := cell_nw H.out.m1 HN6.out
  obtain ⟨c0, u2⟩ := H.out.m2
  replace u2 := cell_nw u2 HN6.out
  have z0 := (frozen_nw H.out.im HN6.out).trans (H.out.mz 0)
  have z1 := (frozen_nw H.out.im HN6.out).trans (H.out.mz 1)
  have z2 := (frozen_nw H.out.im HN6.out).trans (H.out.mz 2)
  rw [← HGM.out] at u0 u1 u2 z0 z1 z2 HST
  haveI : In gm W6 := ⟨World.block_lt_of_cell? W6 _ u0⟩
  haveI : In gq W6 := ⟨World.block_lt_of_cell? W6 _ j0⟩
  clear hu hf6 h6 hg6
  go_wp2
  go_ret
  exact ⟨rfl, _, HST.out⟩
set_option maxRecDepth 20000 in
set_option maxHeartbeats 8000000 in
theorem acc_yes1 (w : World) (p : Pl) (s : Md) (h : MAt w p s) (hl : s.l.length ≤ 500000) (t : Nat) (k : Int) (a b c d e f er : Int) (fd : Bool) (ke va cn : Int) (hw : Ox.Wf ⟨k, a, b, c, d, e, f⟩) (x : Th) (ht : s.th[t]? = some x) (hr : refM s t ⟨k, a, b, c, d, e, f⟩ = 0) (hc : chkO ⟨k, a, b, c, d, e, f⟩ = 0) {N : Nat} (hok : s.Ok N) (hN : N ≤ 500000) (ht0 : 0 < s.th.length) (h12 : k ≠ 12) (h15 : k ≠ 15) (hre : refE x ⟨k, a, b, c, d, e, f⟩ = 0) (hal : eqR er fd ke va cn er false 0 0 0 = true) (hg : givesM s ⟨k, a, b, c, d, e, f⟩ er = false) (e2 : Int) (f2 : Bool) (k2 v2 c2 : Int) (s2 : Md) (hP : perfM s t x ⟨k, a, b, c, d, e, f⟩ = (⟨e2, f2, k2, v2, c2⟩, s2)) (hb : eqR e2 f2 k2 v2 c2 er fd ke va cn = true) :
    Calls Tryz.prog 87 #[.pointer (some ⟨p.gm, 0, none⟩), .int .i64 t, op7 k a b c d e f, res5 er fd ke va cn] w fun q w' => q = .returned (.bool (true)) ∧ ∃ p', MUp w p s2 p' w' := by
  have HRF := Lib.hid (fun W (hn : Nw w W) => refusal_any W p s (h.nw hn) t ⟨k, a, b, c, d, e, f⟩ hw)
  have HGV := Lib.hid (fun W (hn : Nw w W) => gives_M W p s (h.nw hn) hl ⟨k, a, b, c, d, e, f⟩ hw hc er)
  rw [hr] at HRF
  unfold opV at HRF
  unfold opV at HGV
  simp only at HGV
  simp only at HRF
  have H := Lib.hid h
  have im := h.im
  rw [hg] at HGV
  have HCP := Lib.hid (fun W (hn : Nw w W) => copy_M W p s (h.nw hn) (by omega) ht0 hok.thn)
  have HPF := Lib.hid (fun (W : World) (q : Pl) (hq : MAt W q s) => perform_M W q s hq hok hN t x ht ⟨k, a, b, c, d, e, f⟩ hw hc hre)
  rw [hP] at HPF
  unfold opV resV at HPF
  simp only at HPF
  obtain ⟨gm, hgm⟩ : ∃ g, g = p.gm := ⟨_, rfl⟩
  rw [← hgm] at im HRF HGV HCP ⊢
  haveI : In gm w := ⟨im⟩
  have HGM := Lib.hid hgm
  have k12 : (k == 12) = false := by simpa using h12
  have k15 : (k == 15) = false := by simpa using h15
  obtain ⟨W2, hW2⟩ : ∃ W2, W2 = (w.alloc (.cells #[.int .u8 k, .int .u64 a, .int .u64 b, .int .u64 c, .int .u64 d, .int .u64 e, .int .u64 f] 41)).alloc (.cells #[.int .i64 er, .bool fd, .int .u64 ke, .int .u64 va, .int .i64 cn] 43) := ⟨_, rfl⟩
  have hn2 : Nw w W2 := by rw [hW2]; exact nwa
  have q0 : W2.cell? ⟨w.heap.size, 0, none⟩ = some (.int .u8 k) := by rw [hW2]; simp [go_sem]
  have q1 : W2.cell? ⟨w.heap.size, 1, none⟩ = some (.int .u64 a) := by rw [hW2]; simp [go_sem]
  have q2 : W2.cell? ⟨w.heap.size, 2, none⟩ = some (.int .u64 b) := by rw [hW2]; simp [go_sem]
  have q3 : W2.cell? ⟨w.heap.size, 3, none⟩ = some (.int .u64 c) := by rw [hW2]; simp [go_sem]
  have q4 : W2.cell? ⟨w.heap.size, 4, none⟩ = some (.int .u64 d) := by rw [hW2]; simp [go_sem]
  have q5 : W2.cell? ⟨w.heap.size, 5, none⟩ = some (.int .u64 e) := by rw [hW2]; simp [go_sem]
  have q6 : W2.cell? ⟨w.heap.size, 6, none⟩ = some (.int .u64 f) := by rw [hW2]; simp [go_sem]
  have r0 : W2.cell? ⟨w.heap.size + 1, 0, none⟩ = some (.int .i64 er) := by rw [hW2]; simp [go_sem]
  have r1 : W2.cell? ⟨w.heap.size + 1, 1, none⟩ = some (.bool fd) := by rw [hW2]; simp [go_sem]
  have r2 : W2.cell? ⟨w.heap.size + 1, 2, none⟩ = some (.int .u64 ke) := by rw [hW2]; simp [go_sem]
  have r3 : W2.cell? ⟨w.heap.size + 1, 3, none⟩ = some (.int .u64 va) := by rw [hW2]; simp [go_sem]
  have r4 : W2.cell? ⟨w.heap.size + 1, 4, none⟩ = some (.int .i64 cn) := by rw [hW2]; simp [go_sem]
  have hs2 : W2.heap.size = w.heap.size + 2 := by rw [hW2]; simp
  have HN2 := Lib.hid hn2
  have HW2 := Lib.hid hW2
  have HS2 := Lib.hid hs2
  clear h hl hw hgm im hr hc ht hP hok hN ht0 h12 h15 hre hn2 hW2 hs2
  go_enter Tryz.func87, Tryz.ntmps87
  go_wp2_with fail
  rw [← HW2.out]
  refine (HRF.out W2 HN2.out).mono ?_
  rintro r W3 ⟨rfl, hn3⟩
  replace q0 := cell_nw q0 hn3
  replace q1 := cell_nw q1 hn3
  replace q2 := cell_nw q2 hn3
  replace q3 := cell_nw q3 hn3
  replace q4 := cell_nw q4 hn3
  replace q5 := cell_nw q5 hn3
  replace q6 := cell_nw q6 hn3
  replace r0 := cell_nw r0 hn3
  replace r1 := cell_nw r1 hn3
  replace r2 := cell_nw r2 hn3
  replace r3 := cell_nw r3 hn3
  replace r4 := cell_nw r4 hn3
  have HN3 := Lib.hid (HN2.out.trans hn3)
  have HS3 := Lib.hid (Nat.le_trans (Nat.le_of_eq HS2.out.symm) hn3.grown.size)
  haveI : In w.heap.size W3 := ⟨World.block_lt_of_cell? W3 _ q0⟩
  haveI : In (w.heap.size + 1) W3 := ⟨World.block_lt_of_cell? W3 _ r0⟩
  clear hn3
  go_wp2_with fail
  refine (HGV.out W3 HN3.out).mono ?_
  rintro r W4 ⟨rfl, hn4⟩
  replace q0 := cell_nw q0 hn4
  replace q1 := cell_nw q1 hn4
  replace q2 := cell_nw q2 hn4
  replace q3 := cell_nw q3 hn4
  replace q4 := cell_nw q4 hn4
  replace q5 := cell_nw q5 hn4
  replace q6 := cell_nw q6 hn4
  replace r0 := cell_nw r0 hn4
  replace r1 := cell_nw r1 hn4
  replace r2 := cell_nw r2 hn4
  replace r3 := cell_nw r3 hn4
  replace r4 := cell_nw r4 hn4
  have HN4 := Lib.hid (HN3.out.trans hn4)
  have HS4 := Lib.hid (Nat.le_trans HS3.out hn4.grown.size)
  haveI : In w.heap.size W4 := ⟨World.block_lt_of_cell? W4 _ q0⟩
  haveI : In (w.heap.size + 1) W4 := ⟨World.block_lt_of_cell? W4 _ r0⟩
  clear hn4
  go_wp2_with fail
  refine (HCP.out W4 HN4.out).mono ?_
  rintro r W5 ⟨gq, rfl, pc, hpc, hat, hft, hn5⟩
  have HAT := Lib.hid hat
  have HPC := Lib.hid hpc
  have hf1 : w.heap.size ∉ pc.foot := fun e => by have h1 := hft _ e; have h2 := HS4.out; omega
  have hf2 : w.heap.size + 1 ∉ pc.foot := fun e => by have h1 := hft _ e; have h2 := HS4.out; omega
  have HFT := Lib.hid (fun g (hg : g ∈ pc.foot) => Nat.le_trans (Nat.le_trans (Nat.le_add_right _ 2) HS4.out) (hft g hg))
  replace q0 := cell_nw q0 hn5
  replace q1 := cell_nw q1 hn5
  replace q2 := cell_nw q2 hn5
  replace q3 := cell_nw q3 hn5
  replace q4 := cell_nw q4 hn5
  replace q5 := cell_nw q5 hn5
  replace q6 := cell_nw q6 hn5
  replace r0 := cell_nw r0 hn5
  replace r1 := cell_nw r1 hn5
  replace r2 := cell_nw r2 hn5
  replace r3 := cell_nw r3 hn5
  replace r4 := cell_nw r4 hn5
  have HN5 := Lib.hid (HN4.out.trans hn5)
  haveI : In w.heap.size W5 := ⟨World.block_lt_of_cell? W5 _ q0⟩
  haveI : In (w.heap.size + 1) W5 := ⟨World.block_lt_of_cell? W5 _ r0⟩
  clear hn5 hft hpc hat
  go_upto_region 22 with (fail)
  go_region_held3 (fun w' => w'.cell? ⟨w.heap.size, 0, none⟩ = some (.int .u8 k) ∧ w'.cell? ⟨w.heap.size, 1, none⟩ = some (.int .u64 a) ∧ w'.cell? ⟨w.heap.size, 2, none⟩ = some (.int .u64 b) ∧ w'.cell? ⟨w.heap.size, 3, none⟩ = some (.int .u64 c) ∧ w'.cell? ⟨w.heap.size, 4, none⟩ = some (.int .u64 d) ∧ w'.cell? ⟨w.heap.size, 5, none⟩ = some (.int .u64 e) ∧ w'.cell? ⟨w.heap.size, 6, none⟩ = some (.int .u64 f) ∧ w'.cell? ⟨w.heap.size + 1, 0, none⟩ = some (.int .i64 er) ∧ w'.cell? ⟨w.heap.size + 1, 1, none⟩ = some (.bool fd) ∧ w'.cell? ⟨w.heap.size + 1, 2, none⟩ = some (.int .u64 ke) ∧ w'.cell? ⟨w.heap.size + 1, 3, none⟩ = some (.int .u64 va) ∧ w'.cell? ⟨w.heap.size + 1, 4, none⟩ = some (.int .i64 cn)) (first | exact ⟨q0, q1, q2, q3, q4, q5, q6, r0, r1, r2, r3, r4⟩ | exact ⟨hu.chg.cell q0 hf1, hu.chg.cell q1 hf1, hu.chg.cell q2 hf1, hu.chg.cell q3 hf1, hu.chg.cell q4 hf1, hu.chg.cell q5 hf1, hu.chg.cell q6 hf1, hu.chg.cell r0 hf2, hu.chg.cell r1 hf2, hu.chg.cell r2 hf2, hu.chg.cell r3 hf2, hu.chg.cell r4 hf2⟩)
    ((first | (go_at_call 103; refine (by rw [← HPC.out]; exact HPF.out W5.drew pc (HAT.out.nw (Nw.drew (Nw.refl W5))) : Calls _ _ _ _ _).mono ?_; rintro r W6 ⟨rfl, p6, hu⟩)))
  rename_i hHeld
  clear hHeld
  have HN6 := Lib.hid (nw_chg2 (Nw.drew HN5.out) hu.chg HFT.out : Nw w W6)
  have hf6 : ∀ g ∈ p6.foot, w.heap.size ≤ g := fun g hg => by
    rcases hu.mv g hg with h1 | h1
    · exact HFT.out g h1
    · exact Nat.le_trans HN5.out.grown.size h1
  have h6 := hu.at'
  have hg6 : p6.gm = gq := hu.gm.trans HPC.out
  obtain ⟨ct, j2⟩ := h6.m2
  have HST := Lib.hid (acc_store (ct := ct) H.out HN6.out h6 hf6)
  have j0 := h6.m0
  have j1 := h6.m1
  rw [hg6] at j0 j1 j2
  have u0 := cell_nw H.out.m0 HN6.out
  have u1 := cell_nw H.out.m1 HN6.out
  obtain ⟨c0, u2⟩ := H.out.m2
  replace u2 := cell_nw u2 HN6.out
  have z0 := (frozen_nw H.out.im HN6.out).trans (H.out.mz 0)
  have z1 := (frozen_nw H.out.im HN6.out).trans (H.out.mz 1)
  have z2 := (frozen_nw H.out.im HN6.out).trans (H.out.mz 2)
  rw [← HGM.out] at u0 u1 u2 z0 z1 z2 HST
  haveI : In gm W6 := ⟨World.block_lt_of_cell? W6 _ u0⟩
  haveI : In gq W6 := ⟨World.block_lt_of_cell? W6 _ j0⟩
  clear hu hf6 h6 hg6
  go_wp2
  go_ret
  exact ⟨rfl, _, HST.out⟩
end Go.Proofs.YtkikdpdainmlcaaGreat
namespace Go.Proofs.YtkikdpdainmlcaaGreat
open Go.RowKit Go.Xt
/-! Accept of any result of any operation. -/
def aloneR (r : Rs) : Bool := eqR r.err r.fd r.key r.val r.cnt r.err false 0 0 0
def acceptM (s : Md) (t : Int) (o : Ox) (r : Rs) : Bool × Md :=
  if refM s t o ≠ 0 then (aloneR r && (r.err == refM s t o), s)
  else match s.th[t.toNat]? with
    | none => (false, s)
    | some x =>
      if (aloneR r && givesM s o r.err) = true then (true, s)
      else if o.k = 12 then
        if (aloneR r && (r.err == 14)) = true then (true, { s with th := s.th.set t.toNat x.fin })
        else if r.err = 0 ∧ r.fd = true ∧ r.cnt = 0 ∧ x.lo ≤ r.key ∧ r.key ≤ x.hi then (true, { s with th := s.th.set t.toNat (x.after r.key) }) else (false, s)
      else if o.k = 15 then (eqR r.err r.fd r.key r.val r.cnt 0 false 0 0 r.cnt && (decide (0 ≤ r.cnt) && decide (r.cnt ≤ 1024)), s)
      else if (perfM s t.toNat x o).1 = r then (true, (perfM s t.toNat x o).2) else (false, s)
theorem eqR_iff (a b : Rs) : eqR a.err a.fd a.key a.val a.cnt b.err b.fd b.key b.val b.cnt = decide (a = b) := by
  obtain ⟨a1, a2, a3, a4, a5⟩ := a
  obtain ⟨b1, b2, b3, b4, b5⟩ := b
  simp [eqR, Rs.mk.injEq]
theorem accept_any (w : World) (p : Pl) (s : Md) (h : MAt w p s) {N : Nat} (hok : s.Ok N) (hN : N ≤ 500000) (t : Int) (o : Ox) (hw : o.Wf) (r : Rs) (hk : 0 ≤ r.key ∧ r.key < 18446744073709551616) :
    Calls Tryz.prog 87 #[.pointer (some ⟨p.gm, 0, none⟩), .int .i64 t, opV o, resV r] w fun q w' => q = .returned (.bool (acceptM s t o r).1) ∧ ∃ p', MUp w p (acceptM s t o r).2 p' w' := by
  have hl : s.l.length ≤ 500000 := Nat.le_trans hok.len hN
  obtain ⟨k, a, b, c, d, e, f⟩ := o
  obtain ⟨er, fd, ke, va, cn⟩ := r
  unfold opV resV
  simp only at hk ⊢
  by_cases hr : refM s t ⟨k, a, b, c, d, e, f⟩ = 0
  · obtain ⟨t, x, rfl, hx, hc, hre, -⟩ := refM_zero hr
    have ht0 : 0 < s.th.length := by have := (List.getElem?_eq_some_iff.1 hx).1; omega
    unfold acceptM
    rw [if_neg (by simpa using hr), Int.toNat_natCast, hx]
    simp only [aloneR]
    obtain ⟨al, hal⟩ : ∃ al, eqR er fd ke va cn er false 0 0 0 = al := ⟨_, rfl⟩
    obtain ⟨gv, hgv⟩ : ∃ gv, givesM s ⟨k, a, b, c, d, e, f⟩ er = gv := ⟨_, rfl⟩
    rw [hal, hgv]
    by_cases hag : (al && gv) = true
    · rw [if_pos hag]
      simp only [Bool.and_eq_true] at hag
      exact acc_gives w p s h hl t k a b c d e f er fd ke va cn hw hr hc (by rw [hal, hag.1]) (by rw [hgv, hag.2])
    rw [if_neg hag]
    by_cases k12 : k = 12
    · subst k12
      rw [if_pos rfl]
      by_cases he : (al && (er == 14)) = true
      · rw [if_pos he]
        simp only [Bool.and_eq_true, beq_iff_eq] at he
        have hg : gv = false := by rw [← hgv, he.2]; simp [givesM]
        exact acc_12e w p s h hl t a b c d e f er fd ke va cn hw x hx hr hc (by rw [hal, he.1]) (by rw [hgv, hg]) he.2
      rw [if_neg he]
      by_cases hq : er = 0 ∧ fd = true ∧ cn = 0
      · obtain ⟨h1, h2, h3⟩ := hq
        by_cases hh : x.lo ≤ ke ∧ ke ≤ x.hi
        · rw [if_pos ⟨h1, h2, h3, hh.1, hh.2⟩]
          exact acc_12p w p s h hl t a b c d e f er fd ke va cn hw x hx hr hc h1 h2 h3 hk (by simp [hh.1, hh.2])
        · rw [if_neg (fun q => hh ⟨q.2.2.2.1, q.2.2.2.2⟩)]
          exact acc_12c w p s h hl t a b c d e f er fd ke va cn hw x hx hr hc h1 h2 h3 (by
            cases hd : (decide (x.lo ≤ ke) && decide (ke ≤ x.hi)) with
            | false => rfl
            | true => simp at hd; exact absurd hd hh)
      · rw [if_neg (fun q => hq ⟨q.1, q.2.1, q.2.2.1⟩)]
        have hb2 : eqR er fd ke va cn 0 true ke va 0 = false := by
          cases hd : eqR er fd ke va cn 0 true ke va 0 with
          | false => rfl
          | true => simp [eqR] at hd; exact absurd hd hq
        cases al with
        | true =>
          have hg : gv = false := by simpa using hag
          have he2 : er ≠ 14 := by simpa using he
          exact acc_12a w p s h hl t a b c d e f er fd ke va cn hw x hx hr hc hal (by rw [hgv, hg]) he2 hb2
        | false => exact acc_12b w p s h hl t a b c d e f er fd ke va cn hw x hx hr hc hal hb2
    rw [if_neg k12]
    by_cases k15 : k = 15
    · subst k15
      rw [if_pos rfl]
      exact acc_15 w p s h hl t a b c d e f er fd ke va cn hw hr hc (by
        rw [hal, hgv]
        cases al with
        | false => exact .inl rfl
        | true => exact .inr (by simpa using hag))
    rw [if_neg k15]
    obtain ⟨⟨⟨e2, f2, k2, v2, c2⟩, s2⟩, hP⟩ : ∃ q, perfM s t x ⟨k, a, b, c, d, e, f⟩ = q := ⟨_, rfl⟩
    rw [hP]
    simp only
    have hiff := eqR_iff ⟨e2, f2, k2, v2, c2⟩ ⟨er, fd, ke, va, cn⟩
    simp only at hiff
    by_cases hb : (⟨e2, f2, k2, v2, c2⟩ : Rs) = ⟨er, fd, ke, va, cn⟩
    · rw [if_pos hb]
      have hb2 : eqR e2 f2 k2 v2 c2 er fd ke va cn = true := by rw [hiff]; exact decide_eq_true hb
      cases al with
      | true => exact acc_yes1 w p s h hl t k a b c d e f er fd ke va cn hw x hx hr hc hok hN ht0 k12 k15 hre hal (by rw [hgv]; simpa using hag) e2 f2 k2 v2 c2 s2 hP hb2
      | false => exact acc_yes0 w p s h hl t k a b c d e f er fd ke va cn hw x hx hr hc hok hN ht0 k12 k15 hre hal e2 f2 k2 v2 c2 s2 hP hb2
    · rw [if_neg hb]
      have hb2 : eqR e2 f2 k2 v2 c2 er fd ke va cn = false := by rw [hiff]; exact decide_eq_false hb
      cases al with
      | true => exact acc_no1 w p s h hl t k a b c d e f er fd ke va cn hw x hx hr hc hok hN ht0 k12 k15 hre hal (by rw [hgv]; simpa using hag) e2 f2 k2 v2 c2 s2 hP hb2
      | false => exact acc_no0 w p s h hl t k a b c d e f er fd ke va cn hw x hx hr hc hok hN ht0 k12 k15 hre hal e2 f2 k2 v2 c2 s2 hP hb2
  · have e1 : acceptM s t ⟨k, a, b, c, d, e, f⟩ ⟨er, fd, ke, va, cn⟩ = (eqR er fd ke va cn er false 0 0 0 && (er == refM s t ⟨k, a, b, c, d, e, f⟩), s) := by unfold acceptM; rw [if_pos hr]; rfl
    rw [e1]
    exact acc_ref w p s h hl t k a b c d e f er fd ke va cn hw hr
theorem acceptM_ok {s : Md} {N : Nat} (hok : s.Ok N) (t : Int) {o : Ox} (hw : o.Wf) {r : Rs} (hk : 0 ≤ r.key) : (acceptM s t o r).2.Ok (N + 1) := by
  unfold acceptM
  by_cases hr : refM s t o = 0
  · obtain ⟨t, x, rfl, hx, hc, hre, -⟩ := refM_zero hr
    have hxo := hok.th x (List.mem_of_getElem? hx)
    rw [if_neg (by simpa using hr), Int.toNat_natCast, hx]
    simp only
    split
    · exact hok.mono (Nat.le_succ N)
    · split
      · split
        · exact (hok.mono (Nat.le_succ N)).setT t hxo.fin
        · split
          · exact (hok.mono (Nat.le_succ N)).setT t (hxo.after _ hk)
          · exact hok.mono (Nat.le_succ N)
      · split
        · exact hok.mono (Nat.le_succ N)
        · split
          · exact perfM_ok hok hx hw hc hre
          · exact hok.mono (Nat.le_succ N)
  · rw [if_pos hr]; exact hok.mono (Nat.le_succ N)
end Go.Proofs.YtkikdpdainmlcaaGreat
namespace Go.Proofs.YtkikdpdainmlcaaGreat
open Go.RowKit Go.Xt
/-! Two quiet operations of different threads, plain. -/
def qM (l : List (Int × Int)) (x : Th) (o : Ox) : Rs × Th :=
  if chkO o ≠ 0 then (⟨chkO o, false, 0, 0, 0⟩, x)
  else if refE x o ≠ 0 then (⟨refE x o, false, 0, 0, 0⟩, x)
  else if o.k = 3 then (⟨0, hasK o.key l, 0, valL o.key l, 0⟩, x)
  else if o.k = 10 then (⟨0, false, 0, 0, l.length⟩, x)
  else if o.k = 11 then (r0, ⟨true, true, o.key, o.hi, x.se⟩)
  else if o.k = 12 then match nextL x.lo x.hi l with
    | none => (rEnd, x.fin)
    | some q => (⟨0, true, q.1, q.2, 0⟩, x.after q.1)
  else if o.k = 13 then (r0, x.from_ o.key)
  else if o.k = 14 then (r0, ⟨false, false, 0, 0, x.se⟩)
  else (r0, x)
def quietK (k : Int) : Bool := decide (k = 3) || (decide (10 ≤ k) && decide (k ≤ 15))
end Go.Proofs.YtkikdpdainmlcaaGreat
namespace Go.Proofs.YtkikdpdainmlcaaGreat
open Go.RowKit Go.Xt
/-! ModelAccepts and ModelRefuses, plain. -/
theorem gives_zero (s : Md) (o : Ox) : givesM s o 0 = false := by simp [givesM]
abbrev rRetry : Rs := ⟨11, false, 0, 0, 0⟩
end Go.Proofs.YtkikdpdainmlcaaGreat
