import Derived.Test.YtahagplegmcaaaaGreatDoorGWf
set_option linter.unusedVariables false
set_option linter.unusedSimpArgs false
set_option linter.unnecessarySimpa false
namespace Go.Proofs.YtahagplegmcaaaaGreatDoor
open Go.RowKit Go.Xt
/-! The reference's Check at any configuration. -/
theorem wthB_iff {n a b : Int} : wthB n a b = true ↔ a ≤ n ∧ n ≤ b := by unfold wthB; simp
theorem cfgB_iff {c : Cf} {cuts : List Nat} : cfgB c cuts = true ↔ twB 1024 [c.t1, c.t2, c.t3, c.t4, c.t5, c.t6] = true ∧ (1 ≤ c.thr ∧ c.thr ≤ 64) ∧ (1 ≤ c.sl ∧ c.sl ≤ 64) ∧ 1 ≤ c.eng ∧ c.eng ≤ 3 ∧ bkB c.eng c.bk = true ∧ domB c.dk c.dn cuts = true ∧ (1 ≤ c.lk ∧ c.lk ≤ 16) ∧ (1 ≤ c.tr ∧ c.tr ≤ 255) ∧ 0 ≤ c.ba ∧ c.ba ≤ 64 := by
  unfold cfgB
  simp only [Bool.and_eq_true, wthB_iff, decide_eq_true_eq]
theorem chk_bad {c : Cf} {cuts : List Nat} (h : ¬ cfgB c cuts = true) : chkC c cuts = 2 := by unfold chkC; rw [if_neg h]
theorem chk_good {c : Cf} {cuts : List Nat} (h : cfgB c cuts = true) : chkC c cuts = 0 := by unfold chkC; rw [if_pos h]
theorem bkB_3 {bk : Int} : bkB 3 bk = true ↔ 1 ≤ bk ∧ bk ≤ 16 := by unfold bkB; rw [if_pos rfl, wthB_iff]
theorem bkB_n {eng bk : Int} (h : eng ≠ 3) : bkB eng bk = true ↔ bk = 0 := by unfold bkB; rw [if_neg h, decide_eq_true_eq]
set_option maxRecDepth 20000 in
set_option maxHeartbeats 16000000 in
theorem rlayout_any3 (c : Cf) (cuts : List Nat) (w : World) (h : Rd w 1 c.cA cuts.length (nums cuts)) (hcn : c.cn = cuts.length) (hen : c.eng = 3) (hcr : 0 ≤ c.eng ∧ c.eng < 256) :
    Calls Tryz.prog 17 #[confV c] w fun e w' => e = .returned (.int .i64 (chkC c cuts)) ∧ Nw w w' := by
  obtain ⟨thr, sl, eng, bk, dk, dn, A, cn, cc, t1, t2, t3, t4, t5, t6, lk, tr, ba⟩ := c
  simp only at hcn hen hcr
  subst hcn
  unfold confV
  simp only
  obtain ⟨W1, hW1⟩ : ∃ W1, W1 = w.alloc (.cells #[.int .i64 thr, .int .i64 sl, .int .u8 eng, .int .i64 bk, .int .u8 dk, .int .i64 dn, .slice A cuts.length cc, .int .i64 t1, .int .i64 t2, .int .i64 t3, .int .i64 t4, .int .i64 t5, .int .i64 t6, .int .i64 lk, .int .i64 tr, .int .i64 ba] 27) := ⟨_, rfl⟩
  have hN1 : Nw w W1 := by rw [hW1]; exact (by repeat (first | exact Xt.Nw.refl _ | refine Xt.Nw.drew ?_ | refine Xt.Nw.drewN ?_ _ | refine Xt.Nw.alloc ?_ _ | refine Xt.Nw.joined ?_ | refine Xt.Nw.drewd ?_ | refine Xt.Nw.drewdN ?_ | refine Xt.Nw.ext ?_ | refine Xt.Nw.ext_some ?_ (by assumption) | refine Xt.Nw.setCell ?_ (by simp [go_sem] <;> omega) _))
  have b0 : W1.cell? ⟨w.heap.size, 0, none⟩ = some (.int .i64 thr) := by rw [hW1]; simp [go_sem]
  have b1 : W1.cell? ⟨w.heap.size, 1, none⟩ = some (.int .i64 sl) := by rw [hW1]; simp [go_sem]
  have b2 : W1.cell? ⟨w.heap.size, 2, none⟩ = some (.int .u8 eng) := by rw [hW1]; simp [go_sem]
  have b3 : W1.cell? ⟨w.heap.size, 3, none⟩ = some (.int .i64 bk) := by rw [hW1]; simp [go_sem]
  have b4 : W1.cell? ⟨w.heap.size, 4, none⟩ = some (.int .u8 dk) := by rw [hW1]; simp [go_sem]
  have b5 : W1.cell? ⟨w.heap.size, 5, none⟩ = some (.int .i64 dn) := by rw [hW1]; simp [go_sem]
  have b6 : W1.cell? ⟨w.heap.size, 6, none⟩ = some (.slice A cuts.length cc) := by rw [hW1]; simp [go_sem]
  have b7 : W1.cell? ⟨w.heap.size, 7, none⟩ = some (.int .i64 t1) := by rw [hW1]; simp [go_sem]
  have b8 : W1.cell? ⟨w.heap.size, 8, none⟩ = some (.int .i64 t2) := by rw [hW1]; simp [go_sem]
  have b9 : W1.cell? ⟨w.heap.size, 9, none⟩ = some (.int .i64 t3) := by rw [hW1]; simp [go_sem]
  have b10 : W1.cell? ⟨w.heap.size, 10, none⟩ = some (.int .i64 t4) := by rw [hW1]; simp [go_sem]
  have b11 : W1.cell? ⟨w.heap.size, 11, none⟩ = some (.int .i64 t5) := by rw [hW1]; simp [go_sem]
  have b12 : W1.cell? ⟨w.heap.size, 12, none⟩ = some (.int .i64 t6) := by rw [hW1]; simp [go_sem]
  have b13 : W1.cell? ⟨w.heap.size, 13, none⟩ = some (.int .i64 lk) := by rw [hW1]; simp [go_sem]
  have b14 : W1.cell? ⟨w.heap.size, 14, none⟩ = some (.int .i64 tr) := by rw [hW1]; simp [go_sem]
  have b15 : W1.cell? ⟨w.heap.size, 15, none⟩ = some (.int .i64 ba) := by rw [hW1]; simp [go_sem]
  have HW1 := Lib.hid hW1
  have HN1 := Lib.hid hN1
  have HD := Lib.hid (fun W (hw : Nw w W) => rdcheck_any W dk dn A cuts cc (h.nw hw))
  haveI : In w.heap.size W1 := ⟨World.block_lt_of_cell? W1 _ b0⟩
  have HT := Lib.hid (rfl : twB 1024 [t1, t2, t3, t4, t5, t6] = twB 1024 [t1, t2, t3, t4, t5, t6])
  clear hW1 hN1 h
  subst hen
  go_enter Tryz.func17, Tryz.ntmps17
  go_upto_region 1 with (fail)
  rw [← HW1.out]
  by_cases g0 : thr < 1
  · have d0 : decide (thr < 1) = true := by simpa using g0
    go_wp2_with (go_at_call 47; refine (HD.out _ (HN1.out.trans ((by repeat (first | exact Xt.Nw.refl _ | refine Xt.Nw.drew ?_ | refine Xt.Nw.drewN ?_ _ | refine Xt.Nw.alloc ?_ _ | refine Xt.Nw.joined ?_ | refine Xt.Nw.drewd ?_ | refine Xt.Nw.drewdN ?_ | refine Xt.Nw.ext ?_ | refine Xt.Nw.ext_some ?_ (by assumption) | refine Xt.Nw.setCell ?_ (by simp [go_sem] <;> omega) _))))).mono ?_; rintro e w' ⟨rfl, dW, rfl⟩)
    go_ret
    exact ⟨ret_int (chk_bad (fun h => by have h := cfgB_iff.1 h; simp only at h; omega)).symm, HN1.out.trans ((by repeat (first | exact Xt.Nw.refl _ | refine Xt.Nw.drew ?_ | refine Xt.Nw.drewN ?_ _ | refine Xt.Nw.alloc ?_ _ | refine Xt.Nw.joined ?_ | refine Xt.Nw.drewd ?_ | refine Xt.Nw.drewdN ?_ | refine Xt.Nw.ext ?_ | refine Xt.Nw.ext_some ?_ (by assumption) | refine Xt.Nw.setCell ?_ (by simp [go_sem] <;> omega) _)))⟩
  have d0 : decide (thr < 1) = false := by simpa using g0
  by_cases g1 : 64 < thr
  · have d1 : decide (64 < thr) = true := by simpa using g1
    go_wp2_with (go_at_call 47; refine (HD.out _ (HN1.out.trans ((by repeat (first | exact Xt.Nw.refl _ | refine Xt.Nw.drew ?_ | refine Xt.Nw.drewN ?_ _ | refine Xt.Nw.alloc ?_ _ | refine Xt.Nw.joined ?_ | refine Xt.Nw.drewd ?_ | refine Xt.Nw.drewdN ?_ | refine Xt.Nw.ext ?_ | refine Xt.Nw.ext_some ?_ (by assumption) | refine Xt.Nw.setCell ?_ (by simp [go_sem] <;> omega) _))))).mono ?_; rintro e w' ⟨rfl, dW, rfl⟩)
    go_ret
    exact ⟨ret_int (chk_bad (fun h => by have h := cfgB_iff.1 h; simp only at h; omega)).symm, HN1.out.trans ((by repeat (first | exact Xt.Nw.refl _ | refine Xt.Nw.drew ?_ | refine Xt.Nw.drewN ?_ _ | refine Xt.Nw.alloc ?_ _ | refine Xt.Nw.joined ?_ | refine Xt.Nw.drewd ?_ | refine Xt.Nw.drewdN ?_ | refine Xt.Nw.ext ?_ | refine Xt.Nw.ext_some ?_ (by assumption) | refine Xt.Nw.setCell ?_ (by simp [go_sem] <;> omega) _)))⟩
  have d1 : decide (64 < thr) = false := by simpa using g1
  by_cases g2 : sl < 1
  · have d2 : decide (sl < 1) = true := by simpa using g2
    go_wp2_with (go_at_call 47; refine (HD.out _ (HN1.out.trans ((by repeat (first | exact Xt.Nw.refl _ | refine Xt.Nw.drew ?_ | refine Xt.Nw.drewN ?_ _ | refine Xt.Nw.alloc ?_ _ | refine Xt.Nw.joined ?_ | refine Xt.Nw.drewd ?_ | refine Xt.Nw.drewdN ?_ | refine Xt.Nw.ext ?_ | refine Xt.Nw.ext_some ?_ (by assumption) | refine Xt.Nw.setCell ?_ (by simp [go_sem] <;> omega) _))))).mono ?_; rintro e w' ⟨rfl, dW, rfl⟩)
    go_ret
    exact ⟨ret_int (chk_bad (fun h => by have h := cfgB_iff.1 h; simp only at h; omega)).symm, HN1.out.trans ((by repeat (first | exact Xt.Nw.refl _ | refine Xt.Nw.drew ?_ | refine Xt.Nw.drewN ?_ _ | refine Xt.Nw.alloc ?_ _ | refine Xt.Nw.joined ?_ | refine Xt.Nw.drewd ?_ | refine Xt.Nw.drewdN ?_ | refine Xt.Nw.ext ?_ | refine Xt.Nw.ext_some ?_ (by assumption) | refine Xt.Nw.setCell ?_ (by simp [go_sem] <;> omega) _)))⟩
  have d2 : decide (sl < 1) = false := by simpa using g2
  by_cases g3 : 64 < sl
  · have d3 : decide (64 < sl) = true := by simpa using g3
    go_wp2_with (go_at_call 47; refine (HD.out _ (HN1.out.trans ((by repeat (first | exact Xt.Nw.refl _ | refine Xt.Nw.drew ?_ | refine Xt.Nw.drewN ?_ _ | refine Xt.Nw.alloc ?_ _ | refine Xt.Nw.joined ?_ | refine Xt.Nw.drewd ?_ | refine Xt.Nw.drewdN ?_ | refine Xt.Nw.ext ?_ | refine Xt.Nw.ext_some ?_ (by assumption) | refine Xt.Nw.setCell ?_ (by simp [go_sem] <;> omega) _))))).mono ?_; rintro e w' ⟨rfl, dW, rfl⟩)
    go_ret
    exact ⟨ret_int (chk_bad (fun h => by have h := cfgB_iff.1 h; simp only at h; omega)).symm, HN1.out.trans ((by repeat (first | exact Xt.Nw.refl _ | refine Xt.Nw.drew ?_ | refine Xt.Nw.drewN ?_ _ | refine Xt.Nw.alloc ?_ _ | refine Xt.Nw.joined ?_ | refine Xt.Nw.drewd ?_ | refine Xt.Nw.drewdN ?_ | refine Xt.Nw.ext ?_ | refine Xt.Nw.ext_some ?_ (by assumption) | refine Xt.Nw.setCell ?_ (by simp [go_sem] <;> omega) _)))⟩
  have d3 : decide (64 < sl) = false := by simpa using g3
  go_upto_region 3 with (fail)
  clear d0 d1 d2 d3
  have HGS := Lib.hid (show (1 ≤ thr ∧ thr ≤ 64) ∧ (1 ≤ sl ∧ sl ≤ 64) ∧ 1 ≤ (3 : Int) ∧ (3 : Int) ≤ 3 by omega)
  clear g0 g1 g2 g3
  by_cases g10 : bk < 1
  · have d10 : decide (bk < 1) = true := by simpa using g10
    go_wp2_with (go_at_call 47; refine (HD.out _ (HN1.out.trans ((by repeat (first | exact Xt.Nw.refl _ | refine Xt.Nw.drew ?_ | refine Xt.Nw.drewN ?_ _ | refine Xt.Nw.alloc ?_ _ | refine Xt.Nw.joined ?_ | refine Xt.Nw.drewd ?_ | refine Xt.Nw.drewdN ?_ | refine Xt.Nw.ext ?_ | refine Xt.Nw.ext_some ?_ (by assumption) | refine Xt.Nw.setCell ?_ (by simp [go_sem] <;> omega) _))))).mono ?_; rintro e w' ⟨rfl, dW, rfl⟩)
    go_ret
    exact ⟨ret_int (chk_bad (fun h => by have h := cfgB_iff.1 h; simp only at h; have := bkB_3.1 h.2.2.2.2.2.1; omega)).symm, HN1.out.trans ((by repeat (first | exact Xt.Nw.refl _ | refine Xt.Nw.drew ?_ | refine Xt.Nw.drewN ?_ _ | refine Xt.Nw.alloc ?_ _ | refine Xt.Nw.joined ?_ | refine Xt.Nw.drewd ?_ | refine Xt.Nw.drewdN ?_ | refine Xt.Nw.ext ?_ | refine Xt.Nw.ext_some ?_ (by assumption) | refine Xt.Nw.setCell ?_ (by simp [go_sem] <;> omega) _)))⟩
  have d10 : decide (bk < 1) = false := by simpa using g10
  by_cases g11 : 16 < bk
  · have d11 : decide (16 < bk) = true := by simpa using g11
    go_wp2_with (go_at_call 47; refine (HD.out _ (HN1.out.trans ((by repeat (first | exact Xt.Nw.refl _ | refine Xt.Nw.drew ?_ | refine Xt.Nw.drewN ?_ _ | refine Xt.Nw.alloc ?_ _ | refine Xt.Nw.joined ?_ | refine Xt.Nw.drewd ?_ | refine Xt.Nw.drewdN ?_ | refine Xt.Nw.ext ?_ | refine Xt.Nw.ext_some ?_ (by assumption) | refine Xt.Nw.setCell ?_ (by simp [go_sem] <;> omega) _))))).mono ?_; rintro e w' ⟨rfl, dW, rfl⟩)
    go_ret
    exact ⟨ret_int (chk_bad (fun h => by have h := cfgB_iff.1 h; simp only at h; have := bkB_3.1 h.2.2.2.2.2.1; omega)).symm, HN1.out.trans ((by repeat (first | exact Xt.Nw.refl _ | refine Xt.Nw.drew ?_ | refine Xt.Nw.drewN ?_ _ | refine Xt.Nw.alloc ?_ _ | refine Xt.Nw.joined ?_ | refine Xt.Nw.drewd ?_ | refine Xt.Nw.drewdN ?_ | refine Xt.Nw.ext ?_ | refine Xt.Nw.ext_some ?_ (by assumption) | refine Xt.Nw.setCell ?_ (by simp [go_sem] <;> omega) _)))⟩
  have d11 : decide (16 < bk) = false := by simpa using g11
  have HBK := Lib.hid (bkB_3.2 (show 1 ≤ bk ∧ bk ≤ 16 by omega))
  go_upto_region 5 with (fail)
  clear d10 d11 g10 g11
  rcases Bool.eq_false_or_eq_true (domB dk dn cuts) with p6 | p6
  rotate_left
  · have p6c : chkD dk dn cuts = 2 := domB_chk p6
    have H6 := Lib.hid p6
    clear p6
    go_wp2_with (go_at_call 47; refine (HD.out _ (HN1.out.trans ((by repeat (first | exact Xt.Nw.refl _ | refine Xt.Nw.drew ?_ | refine Xt.Nw.drewN ?_ _ | refine Xt.Nw.alloc ?_ _ | refine Xt.Nw.joined ?_ | refine Xt.Nw.drewd ?_ | refine Xt.Nw.drewdN ?_ | refine Xt.Nw.ext ?_ | refine Xt.Nw.ext_some ?_ (by assumption) | refine Xt.Nw.setCell ?_ (by simp [go_sem] <;> omega) _))))).mono ?_; rintro e w' ⟨rfl, dW, rfl⟩)
    go_ret
    exact ⟨ret_int (chk_bad (fun h => by have h := cfgB_iff.1 h; simp only at h; have h1 := h.2.2.2.2.2.2.1; rw [H6.out] at h1; cases h1)).symm, HN1.out.trans ((by repeat (first | exact Xt.Nw.refl _ | refine Xt.Nw.drew ?_ | refine Xt.Nw.drewN ?_ _ | refine Xt.Nw.alloc ?_ _ | refine Xt.Nw.joined ?_ | refine Xt.Nw.drewd ?_ | refine Xt.Nw.drewdN ?_ | refine Xt.Nw.ext ?_ | refine Xt.Nw.ext_some ?_ (by assumption) | refine Xt.Nw.setCell ?_ (by simp [go_sem] <;> omega) _)))⟩
  have p6c : chkD dk dn cuts = 0 := domB_chk p6
  have H6 := Lib.hid p6
  clear p6
  go_wp2_with (go_at_call 47; refine (HD.out _ (HN1.out.trans ((by repeat (first | exact Xt.Nw.refl _ | refine Xt.Nw.drew ?_ | refine Xt.Nw.drewN ?_ _ | refine Xt.Nw.alloc ?_ _ | refine Xt.Nw.joined ?_ | refine Xt.Nw.drewd ?_ | refine Xt.Nw.drewdN ?_ | refine Xt.Nw.ext ?_ | refine Xt.Nw.ext_some ?_ (by assumption) | refine Xt.Nw.setCell ?_ (by simp [go_sem] <;> omega) _))))).mono ?_; rintro e w' ⟨rfl, dW, rfl⟩)
  clear p6c
  go_loopw [3, 4] (fun a b wr => ∃ (i : Nat) (S : Int), i ≤ 6 ∧ a = .int .i64 S ∧ b = .int .i64 i ∧ 0 ≤ S ∧ S ≤ 1024 ∧ Hid (twB 1024 [t1, t2, t3, t4, t5, t6] = twB (1024 - S) ([t1, t2, t3, t4, t5, t6].drop i)) ∧ Nw W1 wr) (fun _ b _ => 6 - (intOf b).toNat)
  case atStart => exact ⟨0, 0, by omega, rfl, rfl, by omega, by omega, rfl, (by repeat (first | exact Xt.Nw.refl _ | refine Xt.Nw.drew ?_ | refine Xt.Nw.drewN ?_ _ | refine Xt.Nw.alloc ?_ _ | refine Xt.Nw.joined ?_ | refine Xt.Nw.drewd ?_ | refine Xt.Nw.drewdN ?_ | refine Xt.Nw.ext ?_ | refine Xt.Nw.ext_some ?_ (by assumption) | refine Xt.Nw.setCell ?_ (by simp [go_sem] <;> omega) _))⟩
  case round =>
    obtain ⟨i, S, hi, rfl, rfl, hL0, hL1, hT, d, rfl⟩ := hrel
    rcases (by omega : i = 0 ∨ i = 1 ∨ i = 2 ∨ i = 3 ∨ i = 4 ∨ i = 5 ∨ i = 6) with hz | rfl | rfl | rfl | rfl | rfl | rfl
    · have hiI : (i : Int) = 0 := by omega
      have hT2 : twB 1024 [t1, t2, t3, t4, t5, t6] = if 0 ≤ t1 ∧ t1 ≤ 1024 - S then twB (1024 - S - t1) [t2, t3, t4, t5, t6] else false := by have := hT.out; rw [hz] at this; rw [this]; exact twB_step
      have hz2 := Lib.hid hz
      clear hz
      have HT2 := Lib.hid hT2
      clear hT2 hT
      by_cases hb : 0 ≤ t1
      · have d1 : decide (t1 < 0) = false := by simp; omega
        by_cases hb2 : t1 ≤ 1024 - S
        · have d2 : decide (1024 - S < t1) = false := by simp; omega
          go_wp2
          exact ⟨⟨1, S + t1, by omega, by go_num, by go_num, by omega, by omega, (by rw [HT2.out, if_pos ⟨hb, hb2⟩, Int.sub_sub]; rfl : twB 1024 [t1, t2, t3, t4, t5, t6] = _), ⟨_, rfl⟩⟩, by simp [intOf, hz2.out]⟩
        · have d2 : decide (1024 - S < t1) = true := by simp; omega
          go_wp2
          go_ret
          exact ⟨ret_int (chk_bad (fun h => by have h := (cfgB_iff.1 h).1; simp only at h; have hn : ¬ (0 ≤ t1 ∧ t1 ≤ 1024 - S) := (by omega); rw [HT2.out, if_neg hn] at h; cases h)).symm, HN1.out.trans ((by repeat (first | exact Xt.Nw.refl _ | refine Xt.Nw.drew ?_ | refine Xt.Nw.drewN ?_ _ | refine Xt.Nw.alloc ?_ _ | refine Xt.Nw.joined ?_ | refine Xt.Nw.drewd ?_ | refine Xt.Nw.drewdN ?_ | refine Xt.Nw.ext ?_ | refine Xt.Nw.ext_some ?_ (by assumption) | refine Xt.Nw.setCell ?_ (by simp [go_sem] <;> omega) _)))⟩
      · have d1 : decide (t1 < 0) = true := by simp; omega
        go_wp2
        go_ret
        exact ⟨ret_int (chk_bad (fun h => by have h := (cfgB_iff.1 h).1; simp only at h; have hn : ¬ (0 ≤ t1 ∧ t1 ≤ 1024 - S) := (by omega); rw [HT2.out, if_neg hn] at h; cases h)).symm, HN1.out.trans ((by repeat (first | exact Xt.Nw.refl _ | refine Xt.Nw.drew ?_ | refine Xt.Nw.drewN ?_ _ | refine Xt.Nw.alloc ?_ _ | refine Xt.Nw.joined ?_ | refine Xt.Nw.drewd ?_ | refine Xt.Nw.drewdN ?_ | refine Xt.Nw.ext ?_ | refine Xt.Nw.ext_some ?_ (by assumption) | refine Xt.Nw.setCell ?_ (by simp [go_sem] <;> omega) _)))⟩
    · have hT2 : twB 1024 [t1, t2, t3, t4, t5, t6] = if 0 ≤ t2 ∧ t2 ≤ 1024 - S then twB (1024 - S - t2) [t3, t4, t5, t6] else false := by rw [hT.out]; exact twB_step
      have HT2 := Lib.hid hT2
      clear hT2 hT
      by_cases hb : 0 ≤ t2
      · have d1 : decide (t2 < 0) = false := by simp; omega
        by_cases hb2 : t2 ≤ 1024 - S
        · have d2 : decide (1024 - S < t2) = false := by simp; omega
          go_wp2
          exact ⟨⟨2, S + t2, by omega, by go_num, rfl, by omega, by omega, (by rw [HT2.out, if_pos ⟨hb, hb2⟩, Int.sub_sub]; rfl : twB 1024 [t1, t2, t3, t4, t5, t6] = _), ⟨_, rfl⟩⟩, by simp [intOf]⟩
        · have d2 : decide (1024 - S < t2) = true := by simp; omega
          go_wp2
          go_ret
          exact ⟨ret_int (chk_bad (fun h => by have h := (cfgB_iff.1 h).1; simp only at h; have hn : ¬ (0 ≤ t2 ∧ t2 ≤ 1024 - S) := (by omega); rw [HT2.out, if_neg hn] at h; cases h)).symm, HN1.out.trans ((by repeat (first | exact Xt.Nw.refl _ | refine Xt.Nw.drew ?_ | refine Xt.Nw.drewN ?_ _ | refine Xt.Nw.alloc ?_ _ | refine Xt.Nw.joined ?_ | refine Xt.Nw.drewd ?_ | refine Xt.Nw.drewdN ?_ | refine Xt.Nw.ext ?_ | refine Xt.Nw.ext_some ?_ (by assumption) | refine Xt.Nw.setCell ?_ (by simp [go_sem] <;> omega) _)))⟩
      · have d1 : decide (t2 < 0) = true := by simp; omega
        go_wp2
        go_ret
        exact ⟨ret_int (chk_bad (fun h => by have h := (cfgB_iff.1 h).1; simp only at h; have hn : ¬ (0 ≤ t2 ∧ t2 ≤ 1024 - S) := (by omega); rw [HT2.out, if_neg hn] at h; cases h)).symm, HN1.out.trans ((by repeat (first | exact Xt.Nw.refl _ | refine Xt.Nw.drew ?_ | refine Xt.Nw.drewN ?_ _ | refine Xt.Nw.alloc ?_ _ | refine Xt.Nw.joined ?_ | refine Xt.Nw.drewd ?_ | refine Xt.Nw.drewdN ?_ | refine Xt.Nw.ext ?_ | refine Xt.Nw.ext_some ?_ (by assumption) | refine Xt.Nw.setCell ?_ (by simp [go_sem] <;> omega) _)))⟩
    · have hT2 : twB 1024 [t1, t2, t3, t4, t5, t6] = if 0 ≤ t3 ∧ t3 ≤ 1024 - S then twB (1024 - S - t3) [t4, t5, t6] else false := by rw [hT.out]; exact twB_step
      have HT2 := Lib.hid hT2
      clear hT2 hT
      by_cases hb : 0 ≤ t3
      · have d1 : decide (t3 < 0) = false := by simp; omega
        by_cases hb2 : t3 ≤ 1024 - S
        · have d2 : decide (1024 - S < t3) = false := by simp; omega
          go_wp2
          exact ⟨⟨3, S + t3, by omega, by go_num, rfl, by omega, by omega, (by rw [HT2.out, if_pos ⟨hb, hb2⟩, Int.sub_sub]; rfl : twB 1024 [t1, t2, t3, t4, t5, t6] = _), ⟨_, rfl⟩⟩, by simp [intOf]⟩
        · have d2 : decide (1024 - S < t3) = true := by simp; omega
          go_wp2
          go_ret
          exact ⟨ret_int (chk_bad (fun h => by have h := (cfgB_iff.1 h).1; simp only at h; have hn : ¬ (0 ≤ t3 ∧ t3 ≤ 1024 - S) := (by omega); rw [HT2.out, if_neg hn] at h; cases h)).symm, HN1.out.trans ((by repeat (first | exact Xt.Nw.refl _ | refine Xt.Nw.drew ?_ | refine Xt.Nw.drewN ?_ _ | refine Xt.Nw.alloc ?_ _ | refine Xt.Nw.joined ?_ | refine Xt.Nw.drewd ?_ | refine Xt.Nw.drewdN ?_ | refine Xt.Nw.ext ?_ | refine Xt.Nw.ext_some ?_ (by assumption) | refine Xt.Nw.setCell ?_ (by simp [go_sem] <;> omega) _)))⟩
      · have d1 : decide (t3 < 0) = true := by simp; omega
        go_wp2
        go_ret
        exact ⟨ret_int (chk_bad (fun h => by have h := (cfgB_iff.1 h).1; simp only at h; have hn : ¬ (0 ≤ t3 ∧ t3 ≤ 1024 - S) := (by omega); rw [HT2.out, if_neg hn] at h; cases h)).symm, HN1.out.trans ((by repeat (first | exact Xt.Nw.refl _ | refine Xt.Nw.drew ?_ | refine Xt.Nw.drewN ?_ _ | refine Xt.Nw.alloc ?_ _ | refine Xt.Nw.joined ?_ | refine Xt.Nw.drewd ?_ | refine Xt.Nw.drewdN ?_ | refine Xt.Nw.ext ?_ | refine Xt.Nw.ext_some ?_ (by assumption) | refine Xt.Nw.setCell ?_ (by simp [go_sem] <;> omega) _)))⟩
    · have hT2 : twB 1024 [t1, t2, t3, t4, t5, t6] = if 0 ≤ t4 ∧ t4 ≤ 1024 - S then twB (1024 - S - t4) [t5, t6] else false := by rw [hT.out]; exact twB_step
      have HT2 := Lib.hid hT2
      clear hT2 hT
      by_cases hb : 0 ≤ t4
      · have d1 : decide (t4 < 0) = false := by simp; omega
        by_cases hb2 : t4 ≤ 1024 - S
        · have d2 : decide (1024 - S < t4) = false := by simp; omega
          go_wp2
          exact ⟨⟨4, S + t4, by omega, by go_num, rfl, by omega, by omega, (by rw [HT2.out, if_pos ⟨hb, hb2⟩, Int.sub_sub]; rfl : twB 1024 [t1, t2, t3, t4, t5, t6] = _), ⟨_, rfl⟩⟩, by simp [intOf]⟩
        · have d2 : decide (1024 - S < t4) = true := by simp; omega
          go_wp2
          go_ret
          exact ⟨ret_int (chk_bad (fun h => by have h := (cfgB_iff.1 h).1; simp only at h; have hn : ¬ (0 ≤ t4 ∧ t4 ≤ 1024 - S) := (by omega); rw [HT2.out, if_neg hn] at h; cases h)).symm, HN1.out.trans ((by repeat (first | exact Xt.Nw.refl _ | refine Xt.Nw.drew ?_ | refine Xt.Nw.drewN ?_ _ | refine Xt.Nw.alloc ?_ _ | refine Xt.Nw.joined ?_ | refine Xt.Nw.drewd ?_ | refine Xt.Nw.drewdN ?_ | refine Xt.Nw.ext ?_ | refine Xt.Nw.ext_some ?_ (by assumption) | refine Xt.Nw.setCell ?_ (by simp [go_sem] <;> omega) _)))⟩
      · have d1 : decide (t4 < 0) = true := by simp; omega
        go_wp2
        go_ret
        exact ⟨ret_int (chk_bad (fun h => by have h := (cfgB_iff.1 h).1; simp only at h; have hn : ¬ (0 ≤ t4 ∧ t4 ≤ 1024 - S) := (by omega); rw [HT2.out, if_neg hn] at h; cases h)).symm, HN1.out.trans ((by repeat (first | exact Xt.Nw.refl _ | refine Xt.Nw.drew ?_ | refine Xt.Nw.drewN ?_ _ | refine Xt.Nw.alloc ?_ _ | refine Xt.Nw.joined ?_ | refine Xt.Nw.drewd ?_ | refine Xt.Nw.drewdN ?_ | refine Xt.Nw.ext ?_ | refine Xt.Nw.ext_some ?_ (by assumption) | refine Xt.Nw.setCell ?_ (by simp [go_sem] <;> omega) _)))⟩
    · have hT2 : twB 1024 [t1, t2, t3, t4, t5, t6] = if 0 ≤ t5 ∧ t5 ≤ 1024 - S then twB (1024 - S - t5) [t6] else false := by rw [hT.out]; exact twB_step
      have HT2 := Lib.hid hT2
      clear hT2 hT
      by_cases hb : 0 ≤ t5
      · have d1 : decide (t5 < 0) = false := by simp; omega
        by_cases hb2 : t5 ≤ 1024 - S
        · have d2 : decide (1024 - S < t5) = false := by simp; omega
          go_wp2
          exact ⟨⟨5, S + t5, by omega, by go_num, rfl, by omega, by omega, (by rw [HT2.out, if_pos ⟨hb, hb2⟩, Int.sub_sub]; rfl : twB 1024 [t1, t2, t3, t4, t5, t6] = _), ⟨_, rfl⟩⟩, by simp [intOf]⟩
        · have d2 : decide (1024 - S < t5) = true := by simp; omega
          go_wp2
          go_ret
          exact ⟨ret_int (chk_bad (fun h => by have h := (cfgB_iff.1 h).1; simp only at h; have hn : ¬ (0 ≤ t5 ∧ t5 ≤ 1024 - S) := (by omega); rw [HT2.out, if_neg hn] at h; cases h)).symm, HN1.out.trans ((by repeat (first | exact Xt.Nw.refl _ | refine Xt.Nw.drew ?_ | refine Xt.Nw.drewN ?_ _ | refine Xt.Nw.alloc ?_ _ | refine Xt.Nw.joined ?_ | refine Xt.Nw.drewd ?_ | refine Xt.Nw.drewdN ?_ | refine Xt.Nw.ext ?_ | refine Xt.Nw.ext_some ?_ (by assumption) | refine Xt.Nw.setCell ?_ (by simp [go_sem] <;> omega) _)))⟩
      · have d1 : decide (t5 < 0) = true := by simp; omega
        go_wp2
        go_ret
        exact ⟨ret_int (chk_bad (fun h => by have h := (cfgB_iff.1 h).1; simp only at h; have hn : ¬ (0 ≤ t5 ∧ t5 ≤ 1024 - S) := (by omega); rw [HT2.out, if_neg hn] at h; cases h)).symm, HN1.out.trans ((by repeat (first | exact Xt.Nw.refl _ | refine Xt.Nw.drew ?_ | refine Xt.Nw.drewN ?_ _ | refine Xt.Nw.alloc ?_ _ | refine Xt.Nw.joined ?_ | refine Xt.Nw.drewd ?_ | refine Xt.Nw.drewdN ?_ | refine Xt.Nw.ext ?_ | refine Xt.Nw.ext_some ?_ (by assumption) | refine Xt.Nw.setCell ?_ (by simp [go_sem] <;> omega) _)))⟩
    · have hT2 : twB 1024 [t1, t2, t3, t4, t5, t6] = if 0 ≤ t6 ∧ t6 ≤ 1024 - S then twB (1024 - S - t6) [] else false := by rw [hT.out]; exact twB_step
      have HT2 := Lib.hid hT2
      clear hT2 hT
      by_cases hb : 0 ≤ t6
      · have d1 : decide (t6 < 0) = false := by simp; omega
        by_cases hb2 : t6 ≤ 1024 - S
        · have d2 : decide (1024 - S < t6) = false := by simp; omega
          go_wp2
          exact ⟨⟨6, S + t6, by omega, by go_num, rfl, by omega, by omega, (by rw [HT2.out, if_pos ⟨hb, hb2⟩, Int.sub_sub]; rfl : twB 1024 [t1, t2, t3, t4, t5, t6] = _), ⟨_, rfl⟩⟩, by simp [intOf]⟩
        · have d2 : decide (1024 - S < t6) = true := by simp; omega
          go_wp2
          go_ret
          exact ⟨ret_int (chk_bad (fun h => by have h := (cfgB_iff.1 h).1; simp only at h; have hn : ¬ (0 ≤ t6 ∧ t6 ≤ 1024 - S) := (by omega); rw [HT2.out, if_neg hn] at h; cases h)).symm, HN1.out.trans ((by repeat (first | exact Xt.Nw.refl _ | refine Xt.Nw.drew ?_ | refine Xt.Nw.drewN ?_ _ | refine Xt.Nw.alloc ?_ _ | refine Xt.Nw.joined ?_ | refine Xt.Nw.drewd ?_ | refine Xt.Nw.drewdN ?_ | refine Xt.Nw.ext ?_ | refine Xt.Nw.ext_some ?_ (by assumption) | refine Xt.Nw.setCell ?_ (by simp [go_sem] <;> omega) _)))⟩
      · have d1 : decide (t6 < 0) = true := by simp; omega
        go_wp2
        go_ret
        exact ⟨ret_int (chk_bad (fun h => by have h := (cfgB_iff.1 h).1; simp only at h; have hn : ¬ (0 ≤ t6 ∧ t6 ≤ 1024 - S) := (by omega); rw [HT2.out, if_neg hn] at h; cases h)).symm, HN1.out.trans ((by repeat (first | exact Xt.Nw.refl _ | refine Xt.Nw.drew ?_ | refine Xt.Nw.drewN ?_ _ | refine Xt.Nw.alloc ?_ _ | refine Xt.Nw.joined ?_ | refine Xt.Nw.drewd ?_ | refine Xt.Nw.drewdN ?_ | refine Xt.Nw.ext ?_ | refine Xt.Nw.ext_some ?_ (by assumption) | refine Xt.Nw.setCell ?_ (by simp [go_sem] <;> omega) _)))⟩
    · have hTT : twB 1024 [t1, t2, t3, t4, t5, t6] = true := hT.out
      have HTT := Lib.hid hTT
      clear hTT hT HT
      go_upto_region 14 with (fail)
      by_cases g0 : lk < 1
      · have d0 : decide (lk < 1) = true := by simpa using g0
        go_wp2_with (go_at_call 47; refine (HD.out _ (HN1.out.trans ((by repeat (first | exact Xt.Nw.refl _ | refine Xt.Nw.drew ?_ | refine Xt.Nw.drewN ?_ _ | refine Xt.Nw.alloc ?_ _ | refine Xt.Nw.joined ?_ | refine Xt.Nw.drewd ?_ | refine Xt.Nw.drewdN ?_ | refine Xt.Nw.ext ?_ | refine Xt.Nw.ext_some ?_ (by assumption) | refine Xt.Nw.setCell ?_ (by simp [go_sem] <;> omega) _))))).mono ?_; rintro e w' ⟨rfl, dW, rfl⟩)
        go_ret
        exact ⟨ret_int (chk_bad (fun h => by have h := cfgB_iff.1 h; simp only at h; omega)).symm, HN1.out.trans ((by repeat (first | exact Xt.Nw.refl _ | refine Xt.Nw.drew ?_ | refine Xt.Nw.drewN ?_ _ | refine Xt.Nw.alloc ?_ _ | refine Xt.Nw.joined ?_ | refine Xt.Nw.drewd ?_ | refine Xt.Nw.drewdN ?_ | refine Xt.Nw.ext ?_ | refine Xt.Nw.ext_some ?_ (by assumption) | refine Xt.Nw.setCell ?_ (by simp [go_sem] <;> omega) _)))⟩
      have d0 : decide (lk < 1) = false := by simpa using g0
      by_cases g1 : 16 < lk
      · have d1 : decide (16 < lk) = true := by simpa using g1
        go_wp2_with (go_at_call 47; refine (HD.out _ (HN1.out.trans ((by repeat (first | exact Xt.Nw.refl _ | refine Xt.Nw.drew ?_ | refine Xt.Nw.drewN ?_ _ | refine Xt.Nw.alloc ?_ _ | refine Xt.Nw.joined ?_ | refine Xt.Nw.drewd ?_ | refine Xt.Nw.drewdN ?_ | refine Xt.Nw.ext ?_ | refine Xt.Nw.ext_some ?_ (by assumption) | refine Xt.Nw.setCell ?_ (by simp [go_sem] <;> omega) _))))).mono ?_; rintro e w' ⟨rfl, dW, rfl⟩)
        go_ret
        exact ⟨ret_int (chk_bad (fun h => by have h := cfgB_iff.1 h; simp only at h; omega)).symm, HN1.out.trans ((by repeat (first | exact Xt.Nw.refl _ | refine Xt.Nw.drew ?_ | refine Xt.Nw.drewN ?_ _ | refine Xt.Nw.alloc ?_ _ | refine Xt.Nw.joined ?_ | refine Xt.Nw.drewd ?_ | refine Xt.Nw.drewdN ?_ | refine Xt.Nw.ext ?_ | refine Xt.Nw.ext_some ?_ (by assumption) | refine Xt.Nw.setCell ?_ (by simp [go_sem] <;> omega) _)))⟩
      have d1 : decide (16 < lk) = false := by simpa using g1
      by_cases g2 : tr < 1
      · have d2 : decide (tr < 1) = true := by simpa using g2
        go_wp2_with (go_at_call 47; refine (HD.out _ (HN1.out.trans ((by repeat (first | exact Xt.Nw.refl _ | refine Xt.Nw.drew ?_ | refine Xt.Nw.drewN ?_ _ | refine Xt.Nw.alloc ?_ _ | refine Xt.Nw.joined ?_ | refine Xt.Nw.drewd ?_ | refine Xt.Nw.drewdN ?_ | refine Xt.Nw.ext ?_ | refine Xt.Nw.ext_some ?_ (by assumption) | refine Xt.Nw.setCell ?_ (by simp [go_sem] <;> omega) _))))).mono ?_; rintro e w' ⟨rfl, dW, rfl⟩)
        go_ret
        exact ⟨ret_int (chk_bad (fun h => by have h := cfgB_iff.1 h; simp only at h; omega)).symm, HN1.out.trans ((by repeat (first | exact Xt.Nw.refl _ | refine Xt.Nw.drew ?_ | refine Xt.Nw.drewN ?_ _ | refine Xt.Nw.alloc ?_ _ | refine Xt.Nw.joined ?_ | refine Xt.Nw.drewd ?_ | refine Xt.Nw.drewdN ?_ | refine Xt.Nw.ext ?_ | refine Xt.Nw.ext_some ?_ (by assumption) | refine Xt.Nw.setCell ?_ (by simp [go_sem] <;> omega) _)))⟩
      have d2 : decide (tr < 1) = false := by simpa using g2
      by_cases g3 : 255 < tr
      · have d3 : decide (255 < tr) = true := by simpa using g3
        go_wp2_with (go_at_call 47; refine (HD.out _ (HN1.out.trans ((by repeat (first | exact Xt.Nw.refl _ | refine Xt.Nw.drew ?_ | refine Xt.Nw.drewN ?_ _ | refine Xt.Nw.alloc ?_ _ | refine Xt.Nw.joined ?_ | refine Xt.Nw.drewd ?_ | refine Xt.Nw.drewdN ?_ | refine Xt.Nw.ext ?_ | refine Xt.Nw.ext_some ?_ (by assumption) | refine Xt.Nw.setCell ?_ (by simp [go_sem] <;> omega) _))))).mono ?_; rintro e w' ⟨rfl, dW, rfl⟩)
        go_ret
        exact ⟨ret_int (chk_bad (fun h => by have h := cfgB_iff.1 h; simp only at h; omega)).symm, HN1.out.trans ((by repeat (first | exact Xt.Nw.refl _ | refine Xt.Nw.drew ?_ | refine Xt.Nw.drewN ?_ _ | refine Xt.Nw.alloc ?_ _ | refine Xt.Nw.joined ?_ | refine Xt.Nw.drewd ?_ | refine Xt.Nw.drewdN ?_ | refine Xt.Nw.ext ?_ | refine Xt.Nw.ext_some ?_ (by assumption) | refine Xt.Nw.setCell ?_ (by simp [go_sem] <;> omega) _)))⟩
      have d3 : decide (255 < tr) = false := by simpa using g3
      by_cases g4 : ba < 0
      · have d4 : decide (ba < 0) = true := by simpa using g4
        go_wp2_with (go_at_call 47; refine (HD.out _ (HN1.out.trans ((by repeat (first | exact Xt.Nw.refl _ | refine Xt.Nw.drew ?_ | refine Xt.Nw.drewN ?_ _ | refine Xt.Nw.alloc ?_ _ | refine Xt.Nw.joined ?_ | refine Xt.Nw.drewd ?_ | refine Xt.Nw.drewdN ?_ | refine Xt.Nw.ext ?_ | refine Xt.Nw.ext_some ?_ (by assumption) | refine Xt.Nw.setCell ?_ (by simp [go_sem] <;> omega) _))))).mono ?_; rintro e w' ⟨rfl, dW, rfl⟩)
        go_ret
        exact ⟨ret_int (chk_bad (fun h => by have h := cfgB_iff.1 h; simp only at h; omega)).symm, HN1.out.trans ((by repeat (first | exact Xt.Nw.refl _ | refine Xt.Nw.drew ?_ | refine Xt.Nw.drewN ?_ _ | refine Xt.Nw.alloc ?_ _ | refine Xt.Nw.joined ?_ | refine Xt.Nw.drewd ?_ | refine Xt.Nw.drewdN ?_ | refine Xt.Nw.ext ?_ | refine Xt.Nw.ext_some ?_ (by assumption) | refine Xt.Nw.setCell ?_ (by simp [go_sem] <;> omega) _)))⟩
      have d4 : decide (ba < 0) = false := by simpa using g4
      by_cases g5 : 64 < ba
      · have d5 : decide (64 < ba) = true := by simpa using g5
        go_wp2_with (go_at_call 47; refine (HD.out _ (HN1.out.trans ((by repeat (first | exact Xt.Nw.refl _ | refine Xt.Nw.drew ?_ | refine Xt.Nw.drewN ?_ _ | refine Xt.Nw.alloc ?_ _ | refine Xt.Nw.joined ?_ | refine Xt.Nw.drewd ?_ | refine Xt.Nw.drewdN ?_ | refine Xt.Nw.ext ?_ | refine Xt.Nw.ext_some ?_ (by assumption) | refine Xt.Nw.setCell ?_ (by simp [go_sem] <;> omega) _))))).mono ?_; rintro e w' ⟨rfl, dW, rfl⟩)
        go_ret
        exact ⟨ret_int (chk_bad (fun h => by have h := cfgB_iff.1 h; simp only at h; omega)).symm, HN1.out.trans ((by repeat (first | exact Xt.Nw.refl _ | refine Xt.Nw.drew ?_ | refine Xt.Nw.drewN ?_ _ | refine Xt.Nw.alloc ?_ _ | refine Xt.Nw.joined ?_ | refine Xt.Nw.drewd ?_ | refine Xt.Nw.drewdN ?_ | refine Xt.Nw.ext ?_ | refine Xt.Nw.ext_some ?_ (by assumption) | refine Xt.Nw.setCell ?_ (by simp [go_sem] <;> omega) _)))⟩
      have d5 : decide (64 < ba) = false := by simpa using g5
      have HLS := Lib.hid (show (1 ≤ lk ∧ lk ≤ 16) ∧ (1 ≤ tr ∧ tr ≤ 255) ∧ 0 ≤ ba ∧ ba ≤ 64 by omega)
      clear g0 g1 g2 g3 g4 g5
      go_wp2
      go_ret
      exact ⟨ret_int (chk_good (cfgB_iff.2 ⟨HTT.out, HGS.out.1, HGS.out.2.1, HGS.out.2.2.1, HGS.out.2.2.2, HBK.out, H6.out, HLS.out.1, HLS.out.2.1, HLS.out.2.2⟩)).symm, HN1.out.trans ((by repeat (first | exact Xt.Nw.refl _ | refine Xt.Nw.drew ?_ | refine Xt.Nw.drewN ?_ _ | refine Xt.Nw.alloc ?_ _ | refine Xt.Nw.joined ?_ | refine Xt.Nw.drewd ?_ | refine Xt.Nw.drewdN ?_ | refine Xt.Nw.ext ?_ | refine Xt.Nw.ext_some ?_ (by assumption) | refine Xt.Nw.setCell ?_ (by simp [go_sem] <;> omega) _)))⟩
set_option maxRecDepth 20000 in
set_option maxHeartbeats 16000000 in
theorem rlayout_anyN (c : Cf) (cuts : List Nat) (w : World) (h : Rd w 1 c.cA cuts.length (nums cuts)) (hcn : c.cn = cuts.length) (hen : c.eng ≠ 3) (hcr : 0 ≤ c.eng ∧ c.eng < 256) :
    Calls Tryz.prog 17 #[confV c] w fun e w' => e = .returned (.int .i64 (chkC c cuts)) ∧ Nw w w' := by
  obtain ⟨thr, sl, eng, bk, dk, dn, A, cn, cc, t1, t2, t3, t4, t5, t6, lk, tr, ba⟩ := c
  simp only at hcn hen hcr
  subst hcn
  unfold confV
  simp only
  obtain ⟨W1, hW1⟩ : ∃ W1, W1 = w.alloc (.cells #[.int .i64 thr, .int .i64 sl, .int .u8 eng, .int .i64 bk, .int .u8 dk, .int .i64 dn, .slice A cuts.length cc, .int .i64 t1, .int .i64 t2, .int .i64 t3, .int .i64 t4, .int .i64 t5, .int .i64 t6, .int .i64 lk, .int .i64 tr, .int .i64 ba] 27) := ⟨_, rfl⟩
  have hN1 : Nw w W1 := by rw [hW1]; exact (by repeat (first | exact Xt.Nw.refl _ | refine Xt.Nw.drew ?_ | refine Xt.Nw.drewN ?_ _ | refine Xt.Nw.alloc ?_ _ | refine Xt.Nw.joined ?_ | refine Xt.Nw.drewd ?_ | refine Xt.Nw.drewdN ?_ | refine Xt.Nw.ext ?_ | refine Xt.Nw.ext_some ?_ (by assumption) | refine Xt.Nw.setCell ?_ (by simp [go_sem] <;> omega) _))
  have b0 : W1.cell? ⟨w.heap.size, 0, none⟩ = some (.int .i64 thr) := by rw [hW1]; simp [go_sem]
  have b1 : W1.cell? ⟨w.heap.size, 1, none⟩ = some (.int .i64 sl) := by rw [hW1]; simp [go_sem]
  have b2 : W1.cell? ⟨w.heap.size, 2, none⟩ = some (.int .u8 eng) := by rw [hW1]; simp [go_sem]
  have b3 : W1.cell? ⟨w.heap.size, 3, none⟩ = some (.int .i64 bk) := by rw [hW1]; simp [go_sem]
  have b4 : W1.cell? ⟨w.heap.size, 4, none⟩ = some (.int .u8 dk) := by rw [hW1]; simp [go_sem]
  have b5 : W1.cell? ⟨w.heap.size, 5, none⟩ = some (.int .i64 dn) := by rw [hW1]; simp [go_sem]
  have b6 : W1.cell? ⟨w.heap.size, 6, none⟩ = some (.slice A cuts.length cc) := by rw [hW1]; simp [go_sem]
  have b7 : W1.cell? ⟨w.heap.size, 7, none⟩ = some (.int .i64 t1) := by rw [hW1]; simp [go_sem]
  have b8 : W1.cell? ⟨w.heap.size, 8, none⟩ = some (.int .i64 t2) := by rw [hW1]; simp [go_sem]
  have b9 : W1.cell? ⟨w.heap.size, 9, none⟩ = some (.int .i64 t3) := by rw [hW1]; simp [go_sem]
  have b10 : W1.cell? ⟨w.heap.size, 10, none⟩ = some (.int .i64 t4) := by rw [hW1]; simp [go_sem]
  have b11 : W1.cell? ⟨w.heap.size, 11, none⟩ = some (.int .i64 t5) := by rw [hW1]; simp [go_sem]
  have b12 : W1.cell? ⟨w.heap.size, 12, none⟩ = some (.int .i64 t6) := by rw [hW1]; simp [go_sem]
  have b13 : W1.cell? ⟨w.heap.size, 13, none⟩ = some (.int .i64 lk) := by rw [hW1]; simp [go_sem]
  have b14 : W1.cell? ⟨w.heap.size, 14, none⟩ = some (.int .i64 tr) := by rw [hW1]; simp [go_sem]
  have b15 : W1.cell? ⟨w.heap.size, 15, none⟩ = some (.int .i64 ba) := by rw [hW1]; simp [go_sem]
  have HW1 := Lib.hid hW1
  have HN1 := Lib.hid hN1
  have HD := Lib.hid (fun W (hw : Nw w W) => rdcheck_any W dk dn A cuts cc (h.nw hw))
  haveI : In w.heap.size W1 := ⟨World.block_lt_of_cell? W1 _ b0⟩
  have HT := Lib.hid (rfl : twB 1024 [t1, t2, t3, t4, t5, t6] = twB 1024 [t1, t2, t3, t4, t5, t6])
  clear hW1 hN1 h
  have e1 : (eng == 3) = false := by simpa using hen
  have e2 : (eng != 3) = true := by simpa using hen
  have HEN := Lib.hid hen
  clear hen
  go_enter Tryz.func17, Tryz.ntmps17
  go_upto_region 1 with (fail)
  rw [← HW1.out]
  by_cases g0 : thr < 1
  · have d0 : decide (thr < 1) = true := by simpa using g0
    go_wp2_with (go_at_call 47; refine (HD.out _ (HN1.out.trans ((by repeat (first | exact Xt.Nw.refl _ | refine Xt.Nw.drew ?_ | refine Xt.Nw.drewN ?_ _ | refine Xt.Nw.alloc ?_ _ | refine Xt.Nw.joined ?_ | refine Xt.Nw.drewd ?_ | refine Xt.Nw.drewdN ?_ | refine Xt.Nw.ext ?_ | refine Xt.Nw.ext_some ?_ (by assumption) | refine Xt.Nw.setCell ?_ (by simp [go_sem] <;> omega) _))))).mono ?_; rintro e w' ⟨rfl, dW, rfl⟩)
    go_ret
    exact ⟨ret_int (chk_bad (fun h => by have h := cfgB_iff.1 h; simp only at h; omega)).symm, HN1.out.trans ((by repeat (first | exact Xt.Nw.refl _ | refine Xt.Nw.drew ?_ | refine Xt.Nw.drewN ?_ _ | refine Xt.Nw.alloc ?_ _ | refine Xt.Nw.joined ?_ | refine Xt.Nw.drewd ?_ | refine Xt.Nw.drewdN ?_ | refine Xt.Nw.ext ?_ | refine Xt.Nw.ext_some ?_ (by assumption) | refine Xt.Nw.setCell ?_ (by simp [go_sem] <;> omega) _)))⟩
  have d0 : decide (thr < 1) = false := by simpa using g0
  by_cases g1 : 64 < thr
  · have d1 : decide (64 < thr) = true := by simpa using g1
    go_wp2_with (go_at_call 47; refine (HD.out _ (HN1.out.trans ((by repeat (first | exact Xt.Nw.refl _ | refine Xt.Nw.drew ?_ | refine Xt.Nw.drewN ?_ _ | refine Xt.Nw.alloc ?_ _ | refine Xt.Nw.joined ?_ | refine Xt.Nw.drewd ?_ | refine Xt.Nw.drewdN ?_ | refine Xt.Nw.ext ?_ | refine Xt.Nw.ext_some ?_ (by assumption) | refine Xt.Nw.setCell ?_ (by simp [go_sem] <;> omega) _))))).mono ?_; rintro e w' ⟨rfl, dW, rfl⟩)
    go_ret
    exact ⟨ret_int (chk_bad (fun h => by have h := cfgB_iff.1 h; simp only at h; omega)).symm, HN1.out.trans ((by repeat (first | exact Xt.Nw.refl _ | refine Xt.Nw.drew ?_ | refine Xt.Nw.drewN ?_ _ | refine Xt.Nw.alloc ?_ _ | refine Xt.Nw.joined ?_ | refine Xt.Nw.drewd ?_ | refine Xt.Nw.drewdN ?_ | refine Xt.Nw.ext ?_ | refine Xt.Nw.ext_some ?_ (by assumption) | refine Xt.Nw.setCell ?_ (by simp [go_sem] <;> omega) _)))⟩
  have d1 : decide (64 < thr) = false := by simpa using g1
  by_cases g2 : sl < 1
  · have d2 : decide (sl < 1) = true := by simpa using g2
    go_wp2_with (go_at_call 47; refine (HD.out _ (HN1.out.trans ((by repeat (first | exact Xt.Nw.refl _ | refine Xt.Nw.drew ?_ | refine Xt.Nw.drewN ?_ _ | refine Xt.Nw.alloc ?_ _ | refine Xt.Nw.joined ?_ | refine Xt.Nw.drewd ?_ | refine Xt.Nw.drewdN ?_ | refine Xt.Nw.ext ?_ | refine Xt.Nw.ext_some ?_ (by assumption) | refine Xt.Nw.setCell ?_ (by simp [go_sem] <;> omega) _))))).mono ?_; rintro e w' ⟨rfl, dW, rfl⟩)
    go_ret
    exact ⟨ret_int (chk_bad (fun h => by have h := cfgB_iff.1 h; simp only at h; omega)).symm, HN1.out.trans ((by repeat (first | exact Xt.Nw.refl _ | refine Xt.Nw.drew ?_ | refine Xt.Nw.drewN ?_ _ | refine Xt.Nw.alloc ?_ _ | refine Xt.Nw.joined ?_ | refine Xt.Nw.drewd ?_ | refine Xt.Nw.drewdN ?_ | refine Xt.Nw.ext ?_ | refine Xt.Nw.ext_some ?_ (by assumption) | refine Xt.Nw.setCell ?_ (by simp [go_sem] <;> omega) _)))⟩
  have d2 : decide (sl < 1) = false := by simpa using g2
  by_cases g3 : 64 < sl
  · have d3 : decide (64 < sl) = true := by simpa using g3
    go_wp2_with (go_at_call 47; refine (HD.out _ (HN1.out.trans ((by repeat (first | exact Xt.Nw.refl _ | refine Xt.Nw.drew ?_ | refine Xt.Nw.drewN ?_ _ | refine Xt.Nw.alloc ?_ _ | refine Xt.Nw.joined ?_ | refine Xt.Nw.drewd ?_ | refine Xt.Nw.drewdN ?_ | refine Xt.Nw.ext ?_ | refine Xt.Nw.ext_some ?_ (by assumption) | refine Xt.Nw.setCell ?_ (by simp [go_sem] <;> omega) _))))).mono ?_; rintro e w' ⟨rfl, dW, rfl⟩)
    go_ret
    exact ⟨ret_int (chk_bad (fun h => by have h := cfgB_iff.1 h; simp only at h; omega)).symm, HN1.out.trans ((by repeat (first | exact Xt.Nw.refl _ | refine Xt.Nw.drew ?_ | refine Xt.Nw.drewN ?_ _ | refine Xt.Nw.alloc ?_ _ | refine Xt.Nw.joined ?_ | refine Xt.Nw.drewd ?_ | refine Xt.Nw.drewdN ?_ | refine Xt.Nw.ext ?_ | refine Xt.Nw.ext_some ?_ (by assumption) | refine Xt.Nw.setCell ?_ (by simp [go_sem] <;> omega) _)))⟩
  have d3 : decide (64 < sl) = false := by simpa using g3
  by_cases g4 : eng < 1
  · have d4 : decide (eng < 1) = true := by simpa using g4
    go_wp2_with (go_at_call 47; refine (HD.out _ (HN1.out.trans ((by repeat (first | exact Xt.Nw.refl _ | refine Xt.Nw.drew ?_ | refine Xt.Nw.drewN ?_ _ | refine Xt.Nw.alloc ?_ _ | refine Xt.Nw.joined ?_ | refine Xt.Nw.drewd ?_ | refine Xt.Nw.drewdN ?_ | refine Xt.Nw.ext ?_ | refine Xt.Nw.ext_some ?_ (by assumption) | refine Xt.Nw.setCell ?_ (by simp [go_sem] <;> omega) _))))).mono ?_; rintro e w' ⟨rfl, dW, rfl⟩)
    go_ret
    exact ⟨ret_int (chk_bad (fun h => by have h := cfgB_iff.1 h; simp only at h; omega)).symm, HN1.out.trans ((by repeat (first | exact Xt.Nw.refl _ | refine Xt.Nw.drew ?_ | refine Xt.Nw.drewN ?_ _ | refine Xt.Nw.alloc ?_ _ | refine Xt.Nw.joined ?_ | refine Xt.Nw.drewd ?_ | refine Xt.Nw.drewdN ?_ | refine Xt.Nw.ext ?_ | refine Xt.Nw.ext_some ?_ (by assumption) | refine Xt.Nw.setCell ?_ (by simp [go_sem] <;> omega) _)))⟩
  have d4 : decide (eng < 1) = false := by simpa using g4
  by_cases g5 : 3 < eng
  · have d5 : decide (3 < eng) = true := by simpa using g5
    go_wp2_with (go_at_call 47; refine (HD.out _ (HN1.out.trans ((by repeat (first | exact Xt.Nw.refl _ | refine Xt.Nw.drew ?_ | refine Xt.Nw.drewN ?_ _ | refine Xt.Nw.alloc ?_ _ | refine Xt.Nw.joined ?_ | refine Xt.Nw.drewd ?_ | refine Xt.Nw.drewdN ?_ | refine Xt.Nw.ext ?_ | refine Xt.Nw.ext_some ?_ (by assumption) | refine Xt.Nw.setCell ?_ (by simp [go_sem] <;> omega) _))))).mono ?_; rintro e w' ⟨rfl, dW, rfl⟩)
    go_ret
    exact ⟨ret_int (chk_bad (fun h => by have h := cfgB_iff.1 h; simp only at h; omega)).symm, HN1.out.trans ((by repeat (first | exact Xt.Nw.refl _ | refine Xt.Nw.drew ?_ | refine Xt.Nw.drewN ?_ _ | refine Xt.Nw.alloc ?_ _ | refine Xt.Nw.joined ?_ | refine Xt.Nw.drewd ?_ | refine Xt.Nw.drewdN ?_ | refine Xt.Nw.ext ?_ | refine Xt.Nw.ext_some ?_ (by assumption) | refine Xt.Nw.setCell ?_ (by simp [go_sem] <;> omega) _)))⟩
  have d5 : decide (3 < eng) = false := by simpa using g5
  go_upto_region 3 with (fail)
  clear d0 d1 d2 d3 d4 d5
  have HGS := Lib.hid (show (1 ≤ thr ∧ thr ≤ 64) ∧ (1 ≤ sl ∧ sl ≤ 64) ∧ 1 ≤ (eng : Int) ∧ (eng : Int) ≤ 3 by omega)
  clear g0 g1 g2 g3 g4 g5
  by_cases g10 : bk = 0
  rotate_left
  · have d10 : (bk != 0) = true := by simpa using g10
    have HG10 := Lib.hid g10
    clear g10
    go_wp2_with (go_at_call 47; refine (HD.out _ (HN1.out.trans ((by repeat (first | exact Xt.Nw.refl _ | refine Xt.Nw.drew ?_ | refine Xt.Nw.drewN ?_ _ | refine Xt.Nw.alloc ?_ _ | refine Xt.Nw.joined ?_ | refine Xt.Nw.drewd ?_ | refine Xt.Nw.drewdN ?_ | refine Xt.Nw.ext ?_ | refine Xt.Nw.ext_some ?_ (by assumption) | refine Xt.Nw.setCell ?_ (by simp [go_sem] <;> omega) _))))).mono ?_; rintro e w' ⟨rfl, dW, rfl⟩)
    go_ret
    exact ⟨ret_int (chk_bad (fun h => by have h := cfgB_iff.1 h; simp only at h; exact HG10.out ((bkB_n HEN.out).1 h.2.2.2.2.2.1))).symm, HN1.out.trans ((by repeat (first | exact Xt.Nw.refl _ | refine Xt.Nw.drew ?_ | refine Xt.Nw.drewN ?_ _ | refine Xt.Nw.alloc ?_ _ | refine Xt.Nw.joined ?_ | refine Xt.Nw.drewd ?_ | refine Xt.Nw.drewdN ?_ | refine Xt.Nw.ext ?_ | refine Xt.Nw.ext_some ?_ (by assumption) | refine Xt.Nw.setCell ?_ (by simp [go_sem] <;> omega) _)))⟩
  have d10 : (bk != 0) = false := by simpa using g10
  have HBK := Lib.hid ((bkB_n (bk := bk) HEN.out).2 g10)
  clear g10
  go_upto_region 5 with (fail)
  clear d10 e1 e2
  rcases Bool.eq_false_or_eq_true (domB dk dn cuts) with p6 | p6
  rotate_left
  · have p6c : chkD dk dn cuts = 2 := domB_chk p6
    have H6 := Lib.hid p6
    clear p6
    go_wp2_with (go_at_call 47; refine (HD.out _ (HN1.out.trans ((by repeat (first | exact Xt.Nw.refl _ | refine Xt.Nw.drew ?_ | refine Xt.Nw.drewN ?_ _ | refine Xt.Nw.alloc ?_ _ | refine Xt.Nw.joined ?_ | refine Xt.Nw.drewd ?_ | refine Xt.Nw.drewdN ?_ | refine Xt.Nw.ext ?_ | refine Xt.Nw.ext_some ?_ (by assumption) | refine Xt.Nw.setCell ?_ (by simp [go_sem] <;> omega) _))))).mono ?_; rintro e w' ⟨rfl, dW, rfl⟩)
    go_ret
    exact ⟨ret_int (chk_bad (fun h => by have h := cfgB_iff.1 h; simp only at h; have h1 := h.2.2.2.2.2.2.1; rw [H6.out] at h1; cases h1)).symm, HN1.out.trans ((by repeat (first | exact Xt.Nw.refl _ | refine Xt.Nw.drew ?_ | refine Xt.Nw.drewN ?_ _ | refine Xt.Nw.alloc ?_ _ | refine Xt.Nw.joined ?_ | refine Xt.Nw.drewd ?_ | refine Xt.Nw.drewdN ?_ | refine Xt.Nw.ext ?_ | refine Xt.Nw.ext_some ?_ (by assumption) | refine Xt.Nw.setCell ?_ (by simp [go_sem] <;> omega) _)))⟩
  have p6c : chkD dk dn cuts = 0 := domB_chk p6
  have H6 := Lib.hid p6
  clear p6
  go_wp2_with (go_at_call 47; refine (HD.out _ (HN1.out.trans ((by repeat (first | exact Xt.Nw.refl _ | refine Xt.Nw.drew ?_ | refine Xt.Nw.drewN ?_ _ | refine Xt.Nw.alloc ?_ _ | refine Xt.Nw.joined ?_ | refine Xt.Nw.drewd ?_ | refine Xt.Nw.drewdN ?_ | refine Xt.Nw.ext ?_ | refine Xt.Nw.ext_some ?_ (by assumption) | refine Xt.Nw.setCell ?_ (by simp [go_sem] <;> omega) _))))).mono ?_; rintro e w' ⟨rfl, dW, rfl⟩)
  clear p6c
  go_loopw [3, 4] (fun a b wr => ∃ (i : Nat) (S : Int), i ≤ 6 ∧ a = .int .i64 S ∧ b = .int .i64 i ∧ 0 ≤ S ∧ S ≤ 1024 ∧ Hid (twB 1024 [t1, t2, t3, t4, t5, t6] = twB (1024 - S) ([t1, t2, t3, t4, t5, t6].drop i)) ∧ Nw W1 wr) (fun _ b _ => 6 - (intOf b).toNat)
  case atStart => exact ⟨0, 0, by omega, rfl, rfl, by omega, by omega, rfl, (by repeat (first | exact Xt.Nw.refl _ | refine Xt.Nw.drew ?_ | refine Xt.Nw.drewN ?_ _ | refine Xt.Nw.alloc ?_ _ | refine Xt.Nw.joined ?_ | refine Xt.Nw.drewd ?_ | refine Xt.Nw.drewdN ?_ | refine Xt.Nw.ext ?_ | refine Xt.Nw.ext_some ?_ (by assumption) | refine Xt.Nw.setCell ?_ (by simp [go_sem] <;> omega) _))⟩
  case round =>
    obtain ⟨i, S, hi, rfl, rfl, hL0, hL1, hT, d, rfl⟩ := hrel
    rcases (by omega : i = 0 ∨ i = 1 ∨ i = 2 ∨ i = 3 ∨ i = 4 ∨ i = 5 ∨ i = 6) with hz | rfl | rfl | rfl | rfl | rfl | rfl
    · have hiI : (i : Int) = 0 := by omega
      have hT2 : twB 1024 [t1, t2, t3, t4, t5, t6] = if 0 ≤ t1 ∧ t1 ≤ 1024 - S then twB (1024 - S - t1) [t2, t3, t4, t5, t6] else false := by have := hT.out; rw [hz] at this; rw [this]; exact twB_step
      have hz2 := Lib.hid hz
      clear hz
      have HT2 := Lib.hid hT2
      clear hT2 hT
      by_cases hb : 0 ≤ t1
      · have d1 : decide (t1 < 0) = false := by simp; omega
        by_cases hb2 : t1 ≤ 1024 - S
        · have d2 : decide (1024 - S < t1) = false := by simp; omega
          go_wp2
          exact ⟨⟨1, S + t1, by omega, by go_num, by go_num, by omega, by omega, (by rw [HT2.out, if_pos ⟨hb, hb2⟩, Int.sub_sub]; rfl : twB 1024 [t1, t2, t3, t4, t5, t6] = _), ⟨_, rfl⟩⟩, by simp [intOf, hz2.out]⟩
        · have d2 : decide (1024 - S < t1) = true := by simp; omega
          go_wp2
          go_ret
          exact ⟨ret_int (chk_bad (fun h => by have h := (cfgB_iff.1 h).1; simp only at h; have hn : ¬ (0 ≤ t1 ∧ t1 ≤ 1024 - S) := (by omega); rw [HT2.out, if_neg hn] at h; cases h)).symm, HN1.out.trans ((by repeat (first | exact Xt.Nw.refl _ | refine Xt.Nw.drew ?_ | refine Xt.Nw.drewN ?_ _ | refine Xt.Nw.alloc ?_ _ | refine Xt.Nw.joined ?_ | refine Xt.Nw.drewd ?_ | refine Xt.Nw.drewdN ?_ | refine Xt.Nw.ext ?_ | refine Xt.Nw.ext_some ?_ (by assumption) | refine Xt.Nw.setCell ?_ (by simp [go_sem] <;> omega) _)))⟩
      · have d1 : decide (t1 < 0) = true := by simp; omega
        go_wp2
        go_ret
        exact ⟨ret_int (chk_bad (fun h => by have h := (cfgB_iff.1 h).1; simp only at h; have hn : ¬ (0 ≤ t1 ∧ t1 ≤ 1024 - S) := (by omega); rw [HT2.out, if_neg hn] at h; cases h)).symm, HN1.out.trans ((by repeat (first | exact Xt.Nw.refl _ | refine Xt.Nw.drew ?_ | refine Xt.Nw.drewN ?_ _ | refine Xt.Nw.alloc ?_ _ | refine Xt.Nw.joined ?_ | refine Xt.Nw.drewd ?_ | refine Xt.Nw.drewdN ?_ | refine Xt.Nw.ext ?_ | refine Xt.Nw.ext_some ?_ (by assumption) | refine Xt.Nw.setCell ?_ (by simp [go_sem] <;> omega) _)))⟩
    · have hT2 : twB 1024 [t1, t2, t3, t4, t5, t6] = if 0 ≤ t2 ∧ t2 ≤ 1024 - S then twB (1024 - S - t2) [t3, t4, t5, t6] else false := by rw [hT.out]; exact twB_step
      have HT2 := Lib.hid hT2
      clear hT2 hT
      by_cases hb : 0 ≤ t2
      · have d1 : decide (t2 < 0) = false := by simp; omega
        by_cases hb2 : t2 ≤ 1024 - S
        · have d2 : decide (1024 - S < t2) = false := by simp; omega
          go_wp2
          exact ⟨⟨2, S + t2, by omega, by go_num, rfl, by omega, by omega, (by rw [HT2.out, if_pos ⟨hb, hb2⟩, Int.sub_sub]; rfl : twB 1024 [t1, t2, t3, t4, t5, t6] = _), ⟨_, rfl⟩⟩, by simp [intOf]⟩
        · have d2 : decide (1024 - S < t2) = true := by simp; omega
          go_wp2
          go_ret
          exact ⟨ret_int (chk_bad (fun h => by have h := (cfgB_iff.1 h).1; simp only at h; have hn : ¬ (0 ≤ t2 ∧ t2 ≤ 1024 - S) := (by omega); rw [HT2.out, if_neg hn] at h; cases h)).symm, HN1.out.trans ((by repeat (first | exact Xt.Nw.refl _ | refine Xt.Nw.drew ?_ | refine Xt.Nw.drewN ?_ _ | refine Xt.Nw.alloc ?_ _ | refine Xt.Nw.joined ?_ | refine Xt.Nw.drewd ?_ | refine Xt.Nw.drewdN ?_ | refine Xt.Nw.ext ?_ | refine Xt.Nw.ext_some ?_ (by assumption) | refine Xt.Nw.setCell ?_ (by simp [go_sem] <;> omega) _)))⟩
      · have d1 : decide (t2 < 0) = true := by simp; omega
        go_wp2
        go_ret
        exact ⟨ret_int (chk_bad (fun h => by have h := (cfgB_iff.1 h).1; simp only at h; have hn : ¬ (0 ≤ t2 ∧ t2 ≤ 1024 - S) := (by omega); rw [HT2.out, if_neg hn] at h; cases h)).symm, HN1.out.trans ((by repeat (first | exact Xt.Nw.refl _ | refine Xt.Nw.drew ?_ | refine Xt.Nw.drewN ?_ _ | refine Xt.Nw.alloc ?_ _ | refine Xt.Nw.joined ?_ | refine Xt.Nw.drewd ?_ | refine Xt.Nw.drewdN ?_ | refine Xt.Nw.ext ?_ | refine Xt.Nw.ext_some ?_ (by assumption) | refine Xt.Nw.setCell ?_ (by simp [go_sem] <;> omega) _)))⟩
    · have hT2 : twB 1024 [t1, t2, t3, t4, t5, t6] = if 0 ≤ t3 ∧ t3 ≤ 1024 - S then twB (1024 - S - t3) [t4, t5, t6] else false := by rw [hT.out]; exact twB_step
      have HT2 := Lib.hid hT2
      clear hT2 hT
      by_cases hb : 0 ≤ t3
      · have d1 : decide (t3 < 0) = false := by simp; omega
        by_cases hb2 : t3 ≤ 1024 - S
        · have d2 : decide (1024 - S < t3) = false := by simp; omega
          go_wp2
          exact ⟨⟨3, S + t3, by omega, by go_num, rfl, by omega, by omega, (by rw [HT2.out, if_pos ⟨hb, hb2⟩, Int.sub_sub]; rfl : twB 1024 [t1, t2, t3, t4, t5, t6] = _), ⟨_, rfl⟩⟩, by simp [intOf]⟩
        · have d2 : decide (1024 - S < t3) = true := by simp; omega
          go_wp2
          go_ret
          exact ⟨ret_int (chk_bad (fun h => by have h := (cfgB_iff.1 h).1; simp only at h; have hn : ¬ (0 ≤ t3 ∧ t3 ≤ 1024 - S) := (by omega); rw [HT2.out, if_neg hn] at h; cases h)).symm, HN1.out.trans ((by repeat (first | exact Xt.Nw.refl _ | refine Xt.Nw.drew ?_ | refine Xt.Nw.drewN ?_ _ | refine Xt.Nw.alloc ?_ _ | refine Xt.Nw.joined ?_ | refine Xt.Nw.drewd ?_ | refine Xt.Nw.drewdN ?_ | refine Xt.Nw.ext ?_ | refine Xt.Nw.ext_some ?_ (by assumption) | refine Xt.Nw.setCell ?_ (by simp [go_sem] <;> omega) _)))⟩
      · have d1 : decide (t3 < 0) = true := by simp; omega
        go_wp2
        go_ret
        exact ⟨ret_int (chk_bad (fun h => by have h := (cfgB_iff.1 h).1; simp only at h; have hn : ¬ (0 ≤ t3 ∧ t3 ≤ 1024 - S) := (by omega); rw [HT2.out, if_neg hn] at h; cases h)).symm, HN1.out.trans ((by repeat (first | exact Xt.Nw.refl _ | refine Xt.Nw.drew ?_ | refine Xt.Nw.drewN ?_ _ | refine Xt.Nw.alloc ?_ _ | refine Xt.Nw.joined ?_ | refine Xt.Nw.drewd ?_ | refine Xt.Nw.drewdN ?_ | refine Xt.Nw.ext ?_ | refine Xt.Nw.ext_some ?_ (by assumption) | refine Xt.Nw.setCell ?_ (by simp [go_sem] <;> omega) _)))⟩
    · have hT2 : twB 1024 [t1, t2, t3, t4, t5, t6] = if 0 ≤ t4 ∧ t4 ≤ 1024 - S then twB (1024 - S - t4) [t5, t6] else false := by rw [hT.out]; exact twB_step
      have HT2 := Lib.hid hT2
      clear hT2 hT
      by_cases hb : 0 ≤ t4
      · have d1 : decide (t4 < 0) = false := by simp; omega
        by_cases hb2 : t4 ≤ 1024 - S
        · have d2 : decide (1024 - S < t4) = false := by simp; omega
          go_wp2
          exact ⟨⟨4, S + t4, by omega, by go_num, rfl, by omega, by omega, (by rw [HT2.out, if_pos ⟨hb, hb2⟩, Int.sub_sub]; rfl : twB 1024 [t1, t2, t3, t4, t5, t6] = _), ⟨_, rfl⟩⟩, by simp [intOf]⟩
        · have d2 : decide (1024 - S < t4) = true := by simp; omega
          go_wp2
          go_ret
          exact ⟨ret_int (chk_bad (fun h => by have h := (cfgB_iff.1 h).1; simp only at h; have hn : ¬ (0 ≤ t4 ∧ t4 ≤ 1024 - S) := (by omega); rw [HT2.out, if_neg hn] at h; cases h)).symm, HN1.out.trans ((by repeat (first | exact Xt.Nw.refl _ | refine Xt.Nw.drew ?_ | refine Xt.Nw.drewN ?_ _ | refine Xt.Nw.alloc ?_ _ | refine Xt.Nw.joined ?_ | refine Xt.Nw.drewd ?_ | refine Xt.Nw.drewdN ?_ | refine Xt.Nw.ext ?_ | refine Xt.Nw.ext_some ?_ (by assumption) | refine Xt.Nw.setCell ?_ (by simp [go_sem] <;> omega) _)))⟩
      · have d1 : decide (t4 < 0) = true := by simp; omega
        go_wp2
        go_ret
        exact ⟨ret_int (chk_bad (fun h => by have h := (cfgB_iff.1 h).1; simp only at h; have hn : ¬ (0 ≤ t4 ∧ t4 ≤ 1024 - S) := (by omega); rw [HT2.out, if_neg hn] at h; cases h)).symm, HN1.out.trans ((by repeat (first | exact Xt.Nw.refl _ | refine Xt.Nw.drew ?_ | refine Xt.Nw.drewN ?_ _ | refine Xt.Nw.alloc ?_ _ | refine Xt.Nw.joined ?_ | refine Xt.Nw.drewd ?_ | refine Xt.Nw.drewdN ?_ | refine Xt.Nw.ext ?_ | refine Xt.Nw.ext_some ?_ (by assumption) | refine Xt.Nw.setCell ?_ (by simp [go_sem] <;> omega) _)))⟩
    · have hT2 : twB 1024 [t1, t2, t3, t4, t5, t6] = if 0 ≤ t5 ∧ t5 ≤ 1024 - S then twB (1024 - S - t5) [t6] else false := by rw [hT.out]; exact twB_step
      have HT2 := Lib.hid hT2
      clear hT2 hT
      by_cases hb : 0 ≤ t5
      · have d1 : decide (t5 < 0) = false := by simp; omega
        by_cases hb2 : t5 ≤ 1024 - S
        · have d2 : decide (1024 - S < t5) = false := by simp; omega
          go_wp2
          exact ⟨⟨5, S + t5, by omega, by go_num, rfl, by omega, by omega, (by rw [HT2.out, if_pos ⟨hb, hb2⟩, Int.sub_sub]; rfl : twB 1024 [t1, t2, t3, t4, t5, t6] = _), ⟨_, rfl⟩⟩, by simp [intOf]⟩
        · have d2 : decide (1024 - S < t5) = true := by simp; omega
          go_wp2
          go_ret
          exact ⟨ret_int (chk_bad (fun h => by have h := (cfgB_iff.1 h).1; simp only at h; have hn : ¬ (0 ≤ t5 ∧ t5 ≤ 1024 - S) := (by omega); rw [HT2.out, if_neg hn] at h; cases h)).symm, HN1.out.trans ((by repeat (first | exact Xt.Nw.refl _ | refine Xt.Nw.drew ?_ | refine Xt.Nw.drewN ?_ _ | refine Xt.Nw.alloc ?_ _ | refine Xt.Nw.joined ?_ | refine Xt.Nw.drewd ?_ | refine Xt.Nw.drewdN ?_ | refine Xt.Nw.ext ?_ | refine Xt.Nw.ext_some ?_ (by assumption) | refine Xt.Nw.setCell ?_ (by simp [go_sem] <;> omega) _)))⟩
      · have d1 : decide (t5 < 0) = true := by simp; omega
        go_wp2
        go_ret
        exact ⟨ret_int (chk_bad (fun h => by have h := (cfgB_iff.1 h).1; simp only at h; have hn : ¬ (0 ≤ t5 ∧ t5 ≤ 1024 - S) := (by omega); rw [HT2.out, if_neg hn] at h; cases h)).symm, HN1.out.trans ((by repeat (first | exact Xt.Nw.refl _ | refine Xt.Nw.drew ?_ | refine Xt.Nw.drewN ?_ _ | refine Xt.Nw.alloc ?_ _ | refine Xt.Nw.joined ?_ | refine Xt.Nw.drewd ?_ | refine Xt.Nw.drewdN ?_ | refine Xt.Nw.ext ?_ | refine Xt.Nw.ext_some ?_ (by assumption) | refine Xt.Nw.setCell ?_ (by simp [go_sem] <;> omega) _)))⟩
    · have hT2 : twB 1024 [t1, t2, t3, t4, t5, t6] = if 0 ≤ t6 ∧ t6 ≤ 1024 - S then twB (1024 - S - t6) [] else false := by rw [hT.out]; exact twB_step
      have HT2 := Lib.hid hT2
      clear hT2 hT
      by_cases hb : 0 ≤ t6
      · have d1 : decide (t6 < 0) = false := by simp; omega
        by_cases hb2 : t6 ≤ 1024 - S
        · have d2 : decide (1024 - S < t6) = false := by simp; omega
          go_wp2
          exact ⟨⟨6, S + t6, by omega, by go_num, rfl, by omega, by omega, (by rw [HT2.out, if_pos ⟨hb, hb2⟩, Int.sub_sub]; rfl : twB 1024 [t1, t2, t3, t4, t5, t6] = _), ⟨_, rfl⟩⟩, by simp [intOf]⟩
        · have d2 : decide (1024 - S < t6) = true := by simp; omega
          go_wp2
          go_ret
          exact ⟨ret_int (chk_bad (fun h => by have h := (cfgB_iff.1 h).1; simp only at h; have hn : ¬ (0 ≤ t6 ∧ t6 ≤ 1024 - S) := (by omega); rw [HT2.out, if_neg hn] at h; cases h)).symm, HN1.out.trans ((by repeat (first | exact Xt.Nw.refl _ | refine Xt.Nw.drew ?_ | refine Xt.Nw.drewN ?_ _ | refine Xt.Nw.alloc ?_ _ | refine Xt.Nw.joined ?_ | refine Xt.Nw.drewd ?_ | refine Xt.Nw.drewdN ?_ | refine Xt.Nw.ext ?_ | refine Xt.Nw.ext_some ?_ (by assumption) | refine Xt.Nw.setCell ?_ (by simp [go_sem] <;> omega) _)))⟩
      · have d1 : decide (t6 < 0) = true := by simp; omega
        go_wp2
        go_ret
        exact ⟨ret_int (chk_bad (fun h => by have h := (cfgB_iff.1 h).1; simp only at h; have hn : ¬ (0 ≤ t6 ∧ t6 ≤ 1024 - S) := (by omega); rw [HT2.out, if_neg hn] at h; cases h)).symm, HN1.out.trans ((by repeat (first | exact Xt.Nw.refl _ | refine Xt.Nw.drew ?_ | refine Xt.Nw.drewN ?_ _ | refine Xt.Nw.alloc ?_ _ | refine Xt.Nw.joined ?_ | refine Xt.Nw.drewd ?_ | refine Xt.Nw.drewdN ?_ | refine Xt.Nw.ext ?_ | refine Xt.Nw.ext_some ?_ (by assumption) | refine Xt.Nw.setCell ?_ (by simp [go_sem] <;> omega) _)))⟩
    · have hTT : twB 1024 [t1, t2, t3, t4, t5, t6] = true := hT.out
      have HTT := Lib.hid hTT
      clear hTT hT HT
      go_upto_region 14 with (fail)
      by_cases g0 : lk < 1
      · have d0 : decide (lk < 1) = true := by simpa using g0
        go_wp2_with (go_at_call 47; refine (HD.out _ (HN1.out.trans ((by repeat (first | exact Xt.Nw.refl _ | refine Xt.Nw.drew ?_ | refine Xt.Nw.drewN ?_ _ | refine Xt.Nw.alloc ?_ _ | refine Xt.Nw.joined ?_ | refine Xt.Nw.drewd ?_ | refine Xt.Nw.drewdN ?_ | refine Xt.Nw.ext ?_ | refine Xt.Nw.ext_some ?_ (by assumption) | refine Xt.Nw.setCell ?_ (by simp [go_sem] <;> omega) _))))).mono ?_; rintro e w' ⟨rfl, dW, rfl⟩)
        go_ret
        exact ⟨ret_int (chk_bad (fun h => by have h := cfgB_iff.1 h; simp only at h; omega)).symm, HN1.out.trans ((by repeat (first | exact Xt.Nw.refl _ | refine Xt.Nw.drew ?_ | refine Xt.Nw.drewN ?_ _ | refine Xt.Nw.alloc ?_ _ | refine Xt.Nw.joined ?_ | refine Xt.Nw.drewd ?_ | refine Xt.Nw.drewdN ?_ | refine Xt.Nw.ext ?_ | refine Xt.Nw.ext_some ?_ (by assumption) | refine Xt.Nw.setCell ?_ (by simp [go_sem] <;> omega) _)))⟩
      have d0 : decide (lk < 1) = false := by simpa using g0
      by_cases g1 : 16 < lk
      · have d1 : decide (16 < lk) = true := by simpa using g1
        go_wp2_with (go_at_call 47; refine (HD.out _ (HN1.out.trans ((by repeat (first | exact Xt.Nw.refl _ | refine Xt.Nw.drew ?_ | refine Xt.Nw.drewN ?_ _ | refine Xt.Nw.alloc ?_ _ | refine Xt.Nw.joined ?_ | refine Xt.Nw.drewd ?_ | refine Xt.Nw.drewdN ?_ | refine Xt.Nw.ext ?_ | refine Xt.Nw.ext_some ?_ (by assumption) | refine Xt.Nw.setCell ?_ (by simp [go_sem] <;> omega) _))))).mono ?_; rintro e w' ⟨rfl, dW, rfl⟩)
        go_ret
        exact ⟨ret_int (chk_bad (fun h => by have h := cfgB_iff.1 h; simp only at h; omega)).symm, HN1.out.trans ((by repeat (first | exact Xt.Nw.refl _ | refine Xt.Nw.drew ?_ | refine Xt.Nw.drewN ?_ _ | refine Xt.Nw.alloc ?_ _ | refine Xt.Nw.joined ?_ | refine Xt.Nw.drewd ?_ | refine Xt.Nw.drewdN ?_ | refine Xt.Nw.ext ?_ | refine Xt.Nw.ext_some ?_ (by assumption) | refine Xt.Nw.setCell ?_ (by simp [go_sem] <;> omega) _)))⟩
      have d1 : decide (16 < lk) = false := by simpa using g1
      by_cases g2 : tr < 1
      · have d2 : decide (tr < 1) = true := by simpa using g2
        go_wp2_with (go_at_call 47; refine (HD.out _ (HN1.out.trans ((by repeat (first | exact Xt.Nw.refl _ | refine Xt.Nw.drew ?_ | refine Xt.Nw.drewN ?_ _ | refine Xt.Nw.alloc ?_ _ | refine Xt.Nw.joined ?_ | refine Xt.Nw.drewd ?_ | refine Xt.Nw.drewdN ?_ | refine Xt.Nw.ext ?_ | refine Xt.Nw.ext_some ?_ (by assumption) | refine Xt.Nw.setCell ?_ (by simp [go_sem] <;> omega) _))))).mono ?_; rintro e w' ⟨rfl, dW, rfl⟩)
        go_ret
        exact ⟨ret_int (chk_bad (fun h => by have h := cfgB_iff.1 h; simp only at h; omega)).symm, HN1.out.trans ((by repeat (first | exact Xt.Nw.refl _ | refine Xt.Nw.drew ?_ | refine Xt.Nw.drewN ?_ _ | refine Xt.Nw.alloc ?_ _ | refine Xt.Nw.joined ?_ | refine Xt.Nw.drewd ?_ | refine Xt.Nw.drewdN ?_ | refine Xt.Nw.ext ?_ | refine Xt.Nw.ext_some ?_ (by assumption) | refine Xt.Nw.setCell ?_ (by simp [go_sem] <;> omega) _)))⟩
      have d2 : decide (tr < 1) = false := by simpa using g2
      by_cases g3 : 255 < tr
      · have d3 : decide (255 < tr) = true := by simpa using g3
        go_wp2_with (go_at_call 47; refine (HD.out _ (HN1.out.trans ((by repeat (first | exact Xt.Nw.refl _ | refine Xt.Nw.drew ?_ | refine Xt.Nw.drewN ?_ _ | refine Xt.Nw.alloc ?_ _ | refine Xt.Nw.joined ?_ | refine Xt.Nw.drewd ?_ | refine Xt.Nw.drewdN ?_ | refine Xt.Nw.ext ?_ | refine Xt.Nw.ext_some ?_ (by assumption) | refine Xt.Nw.setCell ?_ (by simp [go_sem] <;> omega) _))))).mono ?_; rintro e w' ⟨rfl, dW, rfl⟩)
        go_ret
        exact ⟨ret_int (chk_bad (fun h => by have h := cfgB_iff.1 h; simp only at h; omega)).symm, HN1.out.trans ((by repeat (first | exact Xt.Nw.refl _ | refine Xt.Nw.drew ?_ | refine Xt.Nw.drewN ?_ _ | refine Xt.Nw.alloc ?_ _ | refine Xt.Nw.joined ?_ | refine Xt.Nw.drewd ?_ | refine Xt.Nw.drewdN ?_ | refine Xt.Nw.ext ?_ | refine Xt.Nw.ext_some ?_ (by assumption) | refine Xt.Nw.setCell ?_ (by simp [go_sem] <;> omega) _)))⟩
      have d3 : decide (255 < tr) = false := by simpa using g3
      by_cases g4 : ba < 0
      · have d4 : decide (ba < 0) = true := by simpa using g4
        go_wp2_with (go_at_call 47; refine (HD.out _ (HN1.out.trans ((by repeat (first | exact Xt.Nw.refl _ | refine Xt.Nw.drew ?_ | refine Xt.Nw.drewN ?_ _ | refine Xt.Nw.alloc ?_ _ | refine Xt.Nw.joined ?_ | refine Xt.Nw.drewd ?_ | refine Xt.Nw.drewdN ?_ | refine Xt.Nw.ext ?_ | refine Xt.Nw.ext_some ?_ (by assumption) | refine Xt.Nw.setCell ?_ (by simp [go_sem] <;> omega) _))))).mono ?_; rintro e w' ⟨rfl, dW, rfl⟩)
        go_ret
        exact ⟨ret_int (chk_bad (fun h => by have h := cfgB_iff.1 h; simp only at h; omega)).symm, HN1.out.trans ((by repeat (first | exact Xt.Nw.refl _ | refine Xt.Nw.drew ?_ | refine Xt.Nw.drewN ?_ _ | refine Xt.Nw.alloc ?_ _ | refine Xt.Nw.joined ?_ | refine Xt.Nw.drewd ?_ | refine Xt.Nw.drewdN ?_ | refine Xt.Nw.ext ?_ | refine Xt.Nw.ext_some ?_ (by assumption) | refine Xt.Nw.setCell ?_ (by simp [go_sem] <;> omega) _)))⟩
      have d4 : decide (ba < 0) = false := by simpa using g4
      by_cases g5 : 64 < ba
      · have d5 : decide (64 < ba) = true := by simpa using g5
        go_wp2_with (go_at_call 47; refine (HD.out _ (HN1.out.trans ((by repeat (first | exact Xt.Nw.refl _ | refine Xt.Nw.drew ?_ | refine Xt.Nw.drewN ?_ _ | refine Xt.Nw.alloc ?_ _ | refine Xt.Nw.joined ?_ | refine Xt.Nw.drewd ?_ | refine Xt.Nw.drewdN ?_ | refine Xt.Nw.ext ?_ | refine Xt.Nw.ext_some ?_ (by assumption) | refine Xt.Nw.setCell ?_ (by simp [go_sem] <;> omega) _))))).mono ?_; rintro e w' ⟨rfl, dW, rfl⟩)
        go_ret
        exact ⟨ret_int (chk_bad (fun h => by have h := cfgB_iff.1 h; simp only at h; omega)).symm, HN1.out.trans ((by repeat (first | exact Xt.Nw.refl _ | refine Xt.Nw.drew ?_ | refine Xt.Nw.drewN ?_ _ | refine Xt.Nw.alloc ?_ _ | refine Xt.Nw.joined ?_ | refine Xt.Nw.drewd ?_ | refine Xt.Nw.drewdN ?_ | refine Xt.Nw.ext ?_ | refine Xt.Nw.ext_some ?_ (by assumption) | refine Xt.Nw.setCell ?_ (by simp [go_sem] <;> omega) _)))⟩
      have d5 : decide (64 < ba) = false := by simpa using g5
      have HLS := Lib.hid (show (1 ≤ lk ∧ lk ≤ 16) ∧ (1 ≤ tr ∧ tr ≤ 255) ∧ 0 ≤ ba ∧ ba ≤ 64 by omega)
      clear g0 g1 g2 g3 g4 g5
      go_wp2
      go_ret
      exact ⟨ret_int (chk_good (cfgB_iff.2 ⟨HTT.out, HGS.out.1, HGS.out.2.1, HGS.out.2.2.1, HGS.out.2.2.2, HBK.out, H6.out, HLS.out.1, HLS.out.2.1, HLS.out.2.2⟩)).symm, HN1.out.trans ((by repeat (first | exact Xt.Nw.refl _ | refine Xt.Nw.drew ?_ | refine Xt.Nw.drewN ?_ _ | refine Xt.Nw.alloc ?_ _ | refine Xt.Nw.joined ?_ | refine Xt.Nw.drewd ?_ | refine Xt.Nw.drewdN ?_ | refine Xt.Nw.ext ?_ | refine Xt.Nw.ext_some ?_ (by assumption) | refine Xt.Nw.setCell ?_ (by simp [go_sem] <;> omega) _)))⟩
theorem rlayout_all (c : Cf) (cuts : List Nat) (w : World) (h : Rd w 1 c.cA cuts.length (nums cuts)) (hcn : c.cn = cuts.length) (hcr : 0 ≤ c.eng ∧ c.eng < 256) :
    Calls Tryz.prog 17 #[confV c] w fun e w' => e = .returned (.int .i64 (chkC c cuts)) ∧ Nw w w' := by
  by_cases he : c.eng = 3
  · exact rlayout_any3 c cuts w h hcn he hcr
  · exact rlayout_anyN c cuts w h hcn he hcr
end Go.Proofs.YtahagplegmcaaaaGreatDoor
