import Derived.Test.YtfnapkfdocabcaaGreatGVe
import Derived.BigQuiet
set_option linter.unusedVariables false
set_option linter.unusedSimpArgs false
set_option linter.unnecessarySimpa false
namespace Go.Proofs.YtfnapkfdocabcaaGreat
open Go.RowKit Go.Xt
/-! layout.Check and the reference's Check at any configuration. -/
def wthB (n a b : Int) : Bool := decide (a ≤ n) && decide (n ≤ b)
def bkB (eng bk : Int) : Bool := if eng = 3 then wthB bk 1 16 else decide (bk = 0)
def twB : Int → List Int → Bool
  | _, [] => true
  | left, t :: r => (decide (0 ≤ t) && decide (t ≤ left)) && twB (left - t) r
/-- Whether a configuration with these cuts is valid. -/
def cfgB (c : Cf) (cuts : List Nat) : Bool :=
  twB 1024 [c.t1, c.t2, c.t3, c.t4, c.t5, c.t6] && (wthB c.thr 1 64 && (wthB c.sl 1 64 && (decide (1 ≤ c.eng) && (decide (c.eng ≤ 3) && (bkB c.eng c.bk && (domB c.dk c.dn cuts && (wthB c.lk 1 16 && (wthB c.tr 1 255 && wthB c.ba 0 64))))))))
def chkC (c : Cf) (cuts : List Nat) : Int := if cfgB c cuts = true then 0 else 2
theorem within_any (n a b : Int) (w : World) : Calls Tryz.prog 50 #[.int .i64 n, .int .i64 a, .int .i64 b] w fun e w' => e = .returned (.bool (wthB n a b)) ∧ Nw w w' := by
  unfold wthB
  obtain ⟨p, hp⟩ : ∃ p, decide (a ≤ n) = p := ⟨_, rfl⟩
  obtain ⟨q, hq⟩ : ∃ q, decide (n ≤ b) = q := ⟨_, rfl⟩
  rw [hp, hq]
  cases p <;> cases q
  all_goals
    go_enter Tryz.func50, Tryz.ntmps50
    go_wp2
    go_ret
    exact ⟨rfl, (by repeat (first | exact Xt.Nw.refl _ | refine Xt.Nw.drew ?_ | refine Xt.Nw.drewN ?_ _ | refine Xt.Nw.alloc ?_ _ | refine Xt.Nw.joined ?_ | refine Xt.Nw.drewd ?_ | refine Xt.Nw.drewdN ?_ | refine Xt.Nw.ext ?_ | refine Xt.Nw.ext_some ?_ (by assumption) | refine Xt.Nw.setCell ?_ (by simp [go_sem] <;> omega) _))⟩
theorem chkD_iff (k n : Int) (l : List Nat) : chkD k n l = if domB k n l = true then 0 else 2 := by unfold chkD; cases domB k n l <;> rfl
theorem domB_chk {k n : Int} {l : List Nat} {q : Bool} (h : domB k n l = q) : chkD k n l = if q = true then 0 else 2 := by rw [chkD_iff, h]
set_option maxRecDepth 20000 in
@[go_sem high] theorem idx6v_0 (a0 a1 a2 a3 a4 a5 : Int) (w : World) : Sem.run Tryz.prog (Instr.index 25 (.agg #[.int .i64 a0, .int .i64 a1, .int .i64 a2, .int .i64 a3, .int .i64 a4, .int .i64 a5]) (.int .i64 0)) w = .ok (.int .i64 a0) w := by rfl
set_option maxRecDepth 20000 in
@[go_sem high] theorem idx6v_1 (a0 a1 a2 a3 a4 a5 : Int) (w : World) : Sem.run Tryz.prog (Instr.index 25 (.agg #[.int .i64 a0, .int .i64 a1, .int .i64 a2, .int .i64 a3, .int .i64 a4, .int .i64 a5]) (.int .i64 1)) w = .ok (.int .i64 a1) w := by rfl
set_option maxRecDepth 20000 in
@[go_sem high] theorem idx6v_2 (a0 a1 a2 a3 a4 a5 : Int) (w : World) : Sem.run Tryz.prog (Instr.index 25 (.agg #[.int .i64 a0, .int .i64 a1, .int .i64 a2, .int .i64 a3, .int .i64 a4, .int .i64 a5]) (.int .i64 2)) w = .ok (.int .i64 a2) w := by rfl
set_option maxRecDepth 20000 in
@[go_sem high] theorem idx6v_3 (a0 a1 a2 a3 a4 a5 : Int) (w : World) : Sem.run Tryz.prog (Instr.index 25 (.agg #[.int .i64 a0, .int .i64 a1, .int .i64 a2, .int .i64 a3, .int .i64 a4, .int .i64 a5]) (.int .i64 3)) w = .ok (.int .i64 a3) w := by rfl
set_option maxRecDepth 20000 in
@[go_sem high] theorem idx6v_4 (a0 a1 a2 a3 a4 a5 : Int) (w : World) : Sem.run Tryz.prog (Instr.index 25 (.agg #[.int .i64 a0, .int .i64 a1, .int .i64 a2, .int .i64 a3, .int .i64 a4, .int .i64 a5]) (.int .i64 4)) w = .ok (.int .i64 a4) w := by rfl
set_option maxRecDepth 20000 in
@[go_sem high] theorem idx6v_5 (a0 a1 a2 a3 a4 a5 : Int) (w : World) : Sem.run Tryz.prog (Instr.index 25 (.agg #[.int .i64 a0, .int .i64 a1, .int .i64 a2, .int .i64 a3, .int .i64 a4, .int .i64 a5]) (.int .i64 5)) w = .ok (.int .i64 a5) w := by rfl
theorem twB_step {L t : Int} {r : List Int} : twB L (t :: r) = if 0 ≤ t ∧ t ≤ L then twB (L - t) r else false := by
  show ((decide (0 ≤ t) && decide (t ≤ L)) && twB (L - t) r) = _
  by_cases h : 0 ≤ t ∧ t ≤ L
  · rw [if_pos h]; simp [h.1, h.2]
  · rw [if_neg h]
    by_cases h1 : 0 ≤ t
    · have h2 : ¬ t ≤ L := fun h2 => h ⟨h1, h2⟩
      simp [h2]
    · simp [h1]
set_option maxRecDepth 20000 in
set_option maxHeartbeats 16000000 in
theorem layout_any3 (c : Cf) (cuts : List Nat) (w : World) (h : Rd w 1 c.cA cuts.length (nums cuts)) (hcn : c.cn = cuts.length) (hen : c.eng = 3) (hcr : 0 ≤ c.eng ∧ c.eng < 256) :
    Calls Tryz.prog 24 #[confV c] w fun e w' => e = .returned (.int .i64 (chkC c cuts)) ∧ Nw w w' := by
  obtain ⟨thr, sl, eng, bk, dk, dn, A, cn, cc, t1, t2, t3, t4, t5, t6, lk, tr, ba⟩ := c
  simp only at hcn hen hcr
  subst hcn
  unfold confV
  simp only
  obtain ⟨W1, hW1⟩ : ∃ W1, W1 = w.alloc (.cells #[.int .i64 thr, .int .i64 sl, .int .u8 eng, .int .i64 bk, .int .u8 dk, .int .i64 dn, .slice A cuts.length cc, .int .i64 t1, .int .i64 t2, .int .i64 t3, .int .i64 t4, .int .i64 t5, .int .i64 t6, .int .i64 lk, .int .i64 tr, .int .i64 ba] 27) := ⟨_, rfl⟩
  have hN1 : Nw w W1 := by rw [hW1]; exact (by repeat (first | exact Xt.Nw.refl _ | refine Xt.Nw.drew ?_ | refine Xt.Nw.drewN ?_ _ | refine Xt.Nw.alloc ?_ _ | refine Xt.Nw.joined ?_ | refine Xt.Nw.drewd ?_ | refine Xt.Nw.drewdN ?_ | refine Xt.Nw.ext ?_ | refine Xt.Nw.ext_some ?_ (by assumption) | refine Xt.Nw.setCell ?_ (by simp [go_sem] <;> omega) _))
  have b0 : W1.cell? ⟨w.heap.size, 0, none⟩ = some (.int .i64 thr) := by rw [hW1]; simp [go_sem]
  have b1 : W1.cell? ⟨w.heap.size, 1, none⟩ = some (.int .i64 sl) := by rw [hW1]; simp [go_sem]
  have b2 : W1.cell? ⟨w.heap.size, 2, none⟩ = some (.int .u8 eng) := by rw [hW1]; simp [go_sem]
  have b3 : W1.cell? ⟨w.heap.size, 3, none⟩ = some (.int .i64 bk) := by rw [hW1]; simp [go_sem]
  have b4 : W1.cell? ⟨w.heap.size, 4, none⟩ = some (.int .u8 dk) := by rw [hW1]; simp [go_sem]
  have b5 : W1.cell? ⟨w.heap.size, 5, none⟩ = some (.int .i64 dn) := by rw [hW1]; simp [go_sem]
  have b6 : W1.cell? ⟨w.heap.size, 6, none⟩ = some (.slice A cuts.length cc) := by rw [hW1]; simp [go_sem]
  have b7 : W1.cell? ⟨w.heap.size, 7, none⟩ = some (.int .i64 t1) := by rw [hW1]; simp [go_sem]
  have b8 : W1.cell? ⟨w.heap.size, 8, none⟩ = some (.int .i64 t2) := by rw [hW1]; simp [go_sem]
  have b9 : W1.cell? ⟨w.heap.size, 9, none⟩ = some (.int .i64 t3) := by rw [hW1]; simp [go_sem]
  have b10 : W1.cell? ⟨w.heap.size, 10, none⟩ = some (.int .i64 t4) := by rw [hW1]; simp [go_sem]
  have b11 : W1.cell? ⟨w.heap.size, 11, none⟩ = some (.int .i64 t5) := by rw [hW1]; simp [go_sem]
  have b12 : W1.cell? ⟨w.heap.size, 12, none⟩ = some (.int .i64 t6) := by rw [hW1]; simp [go_sem]
  have b13 : W1.cell? ⟨w.heap.size, 13, none⟩ = some (.int .i64 lk) := by rw [hW1]; simp [go_sem]
  have b14 : W1.cell? ⟨w.heap.size, 14, none⟩ = some (.int .i64 tr) := by rw [hW1]; simp [go_sem]
  have b15 : W1.cell? ⟨w.heap.size, 15, none⟩ = some (.int .i64 ba) := by rw [hW1]; simp [go_sem]
  have HW1 := Lib.hid hW1
  have HN1 := Lib.hid hN1
  have HD := Lib.hid (fun W (hw : Nw w W) => dcheck_any W dk dn A cuts cc (h.nw hw))
  haveI : In w.heap.size W1 := ⟨World.block_lt_of_cell? W1 _ b0⟩
  have HT := Lib.hid (rfl : twB 1024 [t1, t2, t3, t4, t5, t6] = twB 1024 [t1, t2, t3, t4, t5, t6])
  clear hW1 hN1 h
  subst hen
  have e0 : (3 : Int) = 3 := rfl
  clear e0
  obtain ⟨q, hq⟩ : ∃ q, bkB 3 bk = q := ⟨_, rfl⟩
  have hq2 : wthB bk 1 16 = q := by rw [← hq]; unfold bkB; rw [if_pos rfl]
  have HQ := Lib.hid hq
  clear hq
  go_enter Tryz.func24, Tryz.ntmps24
  go_upto_region 1 with (fail)
  rw [← HW1.out]
  go_upto_region 5 with (first | (go_at_call 50; refine (within_any _ _ _ _).mono ?_; rintro e w' ⟨rfl, dW, rfl⟩) | (go_at_call 51; refine (HD.out _ (HN1.out.trans ((by repeat (first | exact Xt.Nw.refl _ | refine Xt.Nw.drew ?_ | refine Xt.Nw.drewN ?_ _ | refine Xt.Nw.alloc ?_ _ | refine Xt.Nw.joined ?_ | refine Xt.Nw.drewd ?_ | refine Xt.Nw.drewdN ?_ | refine Xt.Nw.ext ?_ | refine Xt.Nw.ext_some ?_ (by assumption) | refine Xt.Nw.setCell ?_ (by simp [go_sem] <;> omega) _))))).mono ?_; rintro e w' ⟨rfl, dW, rfl⟩))
  clear hq2
  go_wp2
  go_loopw [4, 18] (fun a b wr => ∃ (i : Nat) (L : Int), i ≤ 6 ∧ a = .int .i64 L ∧ b = .int .i64 i ∧ 0 ≤ L ∧ L ≤ 1024 ∧ Hid (twB 1024 [t1, t2, t3, t4, t5, t6] = twB L ([t1, t2, t3, t4, t5, t6].drop i)) ∧ Nw W1 wr) (fun _ b _ => 6 - (intOf b).toNat)
  case atStart => exact ⟨0, 1024, by omega, rfl, rfl, by omega, by omega, rfl, ⟨_, rfl⟩⟩
  case round =>
    obtain ⟨i, L, hi, rfl, rfl, hL0, hL1, hT, d, rfl⟩ := hrel
    rcases (by omega : i = 0 ∨ i = 1 ∨ i = 2 ∨ i = 3 ∨ i = 4 ∨ i = 5 ∨ i = 6) with hz | rfl | rfl | rfl | rfl | rfl | rfl
    · have hiI : (i : Int) = 0 := by omega
      have hT2 : twB 1024 [t1, t2, t3, t4, t5, t6] = if 0 ≤ t1 ∧ t1 ≤ L then twB (L - t1) [t2, t3, t4, t5, t6] else false := by have := hT.out; rw [hz] at this; rw [this]; exact twB_step
      have hz2 := Lib.hid hz
      clear hz
      have HT2 := Lib.hid hT2
      clear hT2 hT
      by_cases hb : 0 ≤ t1
      · have d1 : decide (t1 < 0) = false := by simp; omega
        by_cases hb2 : t1 ≤ L
        · have d2 : decide (L < t1) = false := by simp; omega
          go_wp2
          exact ⟨⟨1, L - t1, by omega, by go_num, rfl, by omega, by omega, (by rw [HT2.out, if_pos ⟨hb, hb2⟩]; rfl : twB 1024 [t1, t2, t3, t4, t5, t6] = _), ⟨_, rfl⟩⟩, by simp [intOf, hz2.out]⟩
        · have d2 : decide (L < t1) = true := by simp; omega
          go_wp2
          go_ret
          exact ⟨ret_int (by have hn : ¬ (0 ≤ t1 ∧ t1 ≤ L) := (by omega); unfold chkC cfgB; simp only; rw [HT2.out, if_neg hn]; simp), HN1.out.trans ((by repeat (first | exact Xt.Nw.refl _ | refine Xt.Nw.drew ?_ | refine Xt.Nw.drewN ?_ _ | refine Xt.Nw.alloc ?_ _ | refine Xt.Nw.joined ?_ | refine Xt.Nw.drewd ?_ | refine Xt.Nw.drewdN ?_ | refine Xt.Nw.ext ?_ | refine Xt.Nw.ext_some ?_ (by assumption) | refine Xt.Nw.setCell ?_ (by simp [go_sem] <;> omega) _)))⟩
      · have d1 : decide (t1 < 0) = true := by simp; omega
        go_wp2
        go_ret
        exact ⟨ret_int (by have hn : ¬ (0 ≤ t1 ∧ t1 ≤ L) := (by omega); unfold chkC cfgB; simp only; rw [HT2.out, if_neg hn]; simp), HN1.out.trans ((by repeat (first | exact Xt.Nw.refl _ | refine Xt.Nw.drew ?_ | refine Xt.Nw.drewN ?_ _ | refine Xt.Nw.alloc ?_ _ | refine Xt.Nw.joined ?_ | refine Xt.Nw.drewd ?_ | refine Xt.Nw.drewdN ?_ | refine Xt.Nw.ext ?_ | refine Xt.Nw.ext_some ?_ (by assumption) | refine Xt.Nw.setCell ?_ (by simp [go_sem] <;> omega) _)))⟩
    · have hT2 : twB 1024 [t1, t2, t3, t4, t5, t6] = if 0 ≤ t2 ∧ t2 ≤ L then twB (L - t2) [t3, t4, t5, t6] else false := by rw [hT.out]; exact twB_step
      have HT2 := Lib.hid hT2
      clear hT2 hT
      by_cases hb : 0 ≤ t2
      · have d1 : decide (t2 < 0) = false := by simp; omega
        by_cases hb2 : t2 ≤ L
        · have d2 : decide (L < t2) = false := by simp; omega
          go_wp2
          exact ⟨⟨2, L - t2, by omega, by go_num, rfl, by omega, by omega, (by rw [HT2.out, if_pos ⟨hb, hb2⟩]; rfl : twB 1024 [t1, t2, t3, t4, t5, t6] = _), ⟨_, rfl⟩⟩, by simp [intOf]⟩
        · have d2 : decide (L < t2) = true := by simp; omega
          go_wp2
          go_ret
          exact ⟨ret_int (by have hn : ¬ (0 ≤ t2 ∧ t2 ≤ L) := (by omega); unfold chkC cfgB; simp only; rw [HT2.out, if_neg hn]; simp), HN1.out.trans ((by repeat (first | exact Xt.Nw.refl _ | refine Xt.Nw.drew ?_ | refine Xt.Nw.drewN ?_ _ | refine Xt.Nw.alloc ?_ _ | refine Xt.Nw.joined ?_ | refine Xt.Nw.drewd ?_ | refine Xt.Nw.drewdN ?_ | refine Xt.Nw.ext ?_ | refine Xt.Nw.ext_some ?_ (by assumption) | refine Xt.Nw.setCell ?_ (by simp [go_sem] <;> omega) _)))⟩
      · have d1 : decide (t2 < 0) = true := by simp; omega
        go_wp2
        go_ret
        exact ⟨ret_int (by have hn : ¬ (0 ≤ t2 ∧ t2 ≤ L) := (by omega); unfold chkC cfgB; simp only; rw [HT2.out, if_neg hn]; simp), HN1.out.trans ((by repeat (first | exact Xt.Nw.refl _ | refine Xt.Nw.drew ?_ | refine Xt.Nw.drewN ?_ _ | refine Xt.Nw.alloc ?_ _ | refine Xt.Nw.joined ?_ | refine Xt.Nw.drewd ?_ | refine Xt.Nw.drewdN ?_ | refine Xt.Nw.ext ?_ | refine Xt.Nw.ext_some ?_ (by assumption) | refine Xt.Nw.setCell ?_ (by simp [go_sem] <;> omega) _)))⟩
    · have hT2 : twB 1024 [t1, t2, t3, t4, t5, t6] = if 0 ≤ t3 ∧ t3 ≤ L then twB (L - t3) [t4, t5, t6] else false := by rw [hT.out]; exact twB_step
      have HT2 := Lib.hid hT2
      clear hT2 hT
      by_cases hb : 0 ≤ t3
      · have d1 : decide (t3 < 0) = false := by simp; omega
        by_cases hb2 : t3 ≤ L
        · have d2 : decide (L < t3) = false := by simp; omega
          go_wp2
          exact ⟨⟨3, L - t3, by omega, by go_num, rfl, by omega, by omega, (by rw [HT2.out, if_pos ⟨hb, hb2⟩]; rfl : twB 1024 [t1, t2, t3, t4, t5, t6] = _), ⟨_, rfl⟩⟩, by simp [intOf]⟩
        · have d2 : decide (L < t3) = true := by simp; omega
          go_wp2
          go_ret
          exact ⟨ret_int (by have hn : ¬ (0 ≤ t3 ∧ t3 ≤ L) := (by omega); unfold chkC cfgB; simp only; rw [HT2.out, if_neg hn]; simp), HN1.out.trans ((by repeat (first | exact Xt.Nw.refl _ | refine Xt.Nw.drew ?_ | refine Xt.Nw.drewN ?_ _ | refine Xt.Nw.alloc ?_ _ | refine Xt.Nw.joined ?_ | refine Xt.Nw.drewd ?_ | refine Xt.Nw.drewdN ?_ | refine Xt.Nw.ext ?_ | refine Xt.Nw.ext_some ?_ (by assumption) | refine Xt.Nw.setCell ?_ (by simp [go_sem] <;> omega) _)))⟩
      · have d1 : decide (t3 < 0) = true := by simp; omega
        go_wp2
        go_ret
        exact ⟨ret_int (by have hn : ¬ (0 ≤ t3 ∧ t3 ≤ L) := (by omega); unfold chkC cfgB; simp only; rw [HT2.out, if_neg hn]; simp), HN1.out.trans ((by repeat (first | exact Xt.Nw.refl _ | refine Xt.Nw.drew ?_ | refine Xt.Nw.drewN ?_ _ | refine Xt.Nw.alloc ?_ _ | refine Xt.Nw.joined ?_ | refine Xt.Nw.drewd ?_ | refine Xt.Nw.drewdN ?_ | refine Xt.Nw.ext ?_ | refine Xt.Nw.ext_some ?_ (by assumption) | refine Xt.Nw.setCell ?_ (by simp [go_sem] <;> omega) _)))⟩
    · have hT2 : twB 1024 [t1, t2, t3, t4, t5, t6] = if 0 ≤ t4 ∧ t4 ≤ L then twB (L - t4) [t5, t6] else false := by rw [hT.out]; exact twB_step
      have HT2 := Lib.hid hT2
      clear hT2 hT
      by_cases hb : 0 ≤ t4
      · have d1 : decide (t4 < 0) = false := by simp; omega
        by_cases hb2 : t4 ≤ L
        · have d2 : decide (L < t4) = false := by simp; omega
          go_wp2
          exact ⟨⟨4, L - t4, by omega, by go_num, rfl, by omega, by omega, (by rw [HT2.out, if_pos ⟨hb, hb2⟩]; rfl : twB 1024 [t1, t2, t3, t4, t5, t6] = _), ⟨_, rfl⟩⟩, by simp [intOf]⟩
        · have d2 : decide (L < t4) = true := by simp; omega
          go_wp2
          go_ret
          exact ⟨ret_int (by have hn : ¬ (0 ≤ t4 ∧ t4 ≤ L) := (by omega); unfold chkC cfgB; simp only; rw [HT2.out, if_neg hn]; simp), HN1.out.trans ((by repeat (first | exact Xt.Nw.refl _ | refine Xt.Nw.drew ?_ | refine Xt.Nw.drewN ?_ _ | refine Xt.Nw.alloc ?_ _ | refine Xt.Nw.joined ?_ | refine Xt.Nw.drewd ?_ | refine Xt.Nw.drewdN ?_ | refine Xt.Nw.ext ?_ | refine Xt.Nw.ext_some ?_ (by assumption) | refine Xt.Nw.setCell ?_ (by simp [go_sem] <;> omega) _)))⟩
      · have d1 : decide (t4 < 0) = true := by simp; omega
        go_wp2
        go_ret
        exact ⟨ret_int (by have hn : ¬ (0 ≤ t4 ∧ t4 ≤ L) := (by omega); unfold chkC cfgB; simp only; rw [HT2.out, if_neg hn]; simp), HN1.out.trans ((by repeat (first | exact Xt.Nw.refl _ | refine Xt.Nw.drew ?_ | refine Xt.Nw.drewN ?_ _ | refine Xt.Nw.alloc ?_ _ | refine Xt.Nw.joined ?_ | refine Xt.Nw.drewd ?_ | refine Xt.Nw.drewdN ?_ | refine Xt.Nw.ext ?_ | refine Xt.Nw.ext_some ?_ (by assumption) | refine Xt.Nw.setCell ?_ (by simp [go_sem] <;> omega) _)))⟩
    · have hT2 : twB 1024 [t1, t2, t3, t4, t5, t6] = if 0 ≤ t5 ∧ t5 ≤ L then twB (L - t5) [t6] else false := by rw [hT.out]; exact twB_step
      have HT2 := Lib.hid hT2
      clear hT2 hT
      by_cases hb : 0 ≤ t5
      · have d1 : decide (t5 < 0) = false := by simp; omega
        by_cases hb2 : t5 ≤ L
        · have d2 : decide (L < t5) = false := by simp; omega
          go_wp2
          exact ⟨⟨5, L - t5, by omega, by go_num, rfl, by omega, by omega, (by rw [HT2.out, if_pos ⟨hb, hb2⟩]; rfl : twB 1024 [t1, t2, t3, t4, t5, t6] = _), ⟨_, rfl⟩⟩, by simp [intOf]⟩
        · have d2 : decide (L < t5) = true := by simp; omega
          go_wp2
          go_ret
          exact ⟨ret_int (by have hn : ¬ (0 ≤ t5 ∧ t5 ≤ L) := (by omega); unfold chkC cfgB; simp only; rw [HT2.out, if_neg hn]; simp), HN1.out.trans ((by repeat (first | exact Xt.Nw.refl _ | refine Xt.Nw.drew ?_ | refine Xt.Nw.drewN ?_ _ | refine Xt.Nw.alloc ?_ _ | refine Xt.Nw.joined ?_ | refine Xt.Nw.drewd ?_ | refine Xt.Nw.drewdN ?_ | refine Xt.Nw.ext ?_ | refine Xt.Nw.ext_some ?_ (by assumption) | refine Xt.Nw.setCell ?_ (by simp [go_sem] <;> omega) _)))⟩
      · have d1 : decide (t5 < 0) = true := by simp; omega
        go_wp2
        go_ret
        exact ⟨ret_int (by have hn : ¬ (0 ≤ t5 ∧ t5 ≤ L) := (by omega); unfold chkC cfgB; simp only; rw [HT2.out, if_neg hn]; simp), HN1.out.trans ((by repeat (first | exact Xt.Nw.refl _ | refine Xt.Nw.drew ?_ | refine Xt.Nw.drewN ?_ _ | refine Xt.Nw.alloc ?_ _ | refine Xt.Nw.joined ?_ | refine Xt.Nw.drewd ?_ | refine Xt.Nw.drewdN ?_ | refine Xt.Nw.ext ?_ | refine Xt.Nw.ext_some ?_ (by assumption) | refine Xt.Nw.setCell ?_ (by simp [go_sem] <;> omega) _)))⟩
    · have hT2 : twB 1024 [t1, t2, t3, t4, t5, t6] = if 0 ≤ t6 ∧ t6 ≤ L then twB (L - t6) [] else false := by rw [hT.out]; exact twB_step
      have HT2 := Lib.hid hT2
      clear hT2 hT
      by_cases hb : 0 ≤ t6
      · have d1 : decide (t6 < 0) = false := by simp; omega
        by_cases hb2 : t6 ≤ L
        · have d2 : decide (L < t6) = false := by simp; omega
          go_wp2
          exact ⟨⟨6, L - t6, by omega, by go_num, rfl, by omega, by omega, (by rw [HT2.out, if_pos ⟨hb, hb2⟩]; rfl : twB 1024 [t1, t2, t3, t4, t5, t6] = _), ⟨_, rfl⟩⟩, by simp [intOf]⟩
        · have d2 : decide (L < t6) = true := by simp; omega
          go_wp2
          go_ret
          exact ⟨ret_int (by have hn : ¬ (0 ≤ t6 ∧ t6 ≤ L) := (by omega); unfold chkC cfgB; simp only; rw [HT2.out, if_neg hn]; simp), HN1.out.trans ((by repeat (first | exact Xt.Nw.refl _ | refine Xt.Nw.drew ?_ | refine Xt.Nw.drewN ?_ _ | refine Xt.Nw.alloc ?_ _ | refine Xt.Nw.joined ?_ | refine Xt.Nw.drewd ?_ | refine Xt.Nw.drewdN ?_ | refine Xt.Nw.ext ?_ | refine Xt.Nw.ext_some ?_ (by assumption) | refine Xt.Nw.setCell ?_ (by simp [go_sem] <;> omega) _)))⟩
      · have d1 : decide (t6 < 0) = true := by simp; omega
        go_wp2
        go_ret
        exact ⟨ret_int (by have hn : ¬ (0 ≤ t6 ∧ t6 ≤ L) := (by omega); unfold chkC cfgB; simp only; rw [HT2.out, if_neg hn]; simp), HN1.out.trans ((by repeat (first | exact Xt.Nw.refl _ | refine Xt.Nw.drew ?_ | refine Xt.Nw.drewN ?_ _ | refine Xt.Nw.alloc ?_ _ | refine Xt.Nw.joined ?_ | refine Xt.Nw.drewd ?_ | refine Xt.Nw.drewdN ?_ | refine Xt.Nw.ext ?_ | refine Xt.Nw.ext_some ?_ (by assumption) | refine Xt.Nw.setCell ?_ (by simp [go_sem] <;> omega) _)))⟩
    · have hTT : twB 1024 [t1, t2, t3, t4, t5, t6] = true := hT.out
      have HTT := Lib.hid hTT
      clear hTT hT HT
      rcases Bool.eq_false_or_eq_true (wthB thr 1 64) with p1 | p1
      rotate_left
      · skip
        go_wp2_with (first | (go_at_call 50; refine (within_any _ _ _ _).mono ?_; rintro e w' ⟨rfl, dW, rfl⟩) | (go_at_call 51; refine (HD.out _ (HN1.out.trans ((by repeat (first | exact Xt.Nw.refl _ | refine Xt.Nw.drew ?_ | refine Xt.Nw.drewN ?_ _ | refine Xt.Nw.alloc ?_ _ | refine Xt.Nw.joined ?_ | refine Xt.Nw.drewd ?_ | refine Xt.Nw.drewdN ?_ | refine Xt.Nw.ext ?_ | refine Xt.Nw.ext_some ?_ (by assumption) | refine Xt.Nw.setCell ?_ (by simp [go_sem] <;> omega) _))))).mono ?_; rintro e w' ⟨rfl, dW, rfl⟩))
        go_ret
        exact ⟨ret_int (by unfold chkC cfgB; simp only; rw [HTT.out]; simp [p1]), HN1.out.trans ((by repeat (first | exact Xt.Nw.refl _ | refine Xt.Nw.drew ?_ | refine Xt.Nw.drewN ?_ _ | refine Xt.Nw.alloc ?_ _ | refine Xt.Nw.joined ?_ | refine Xt.Nw.drewd ?_ | refine Xt.Nw.drewdN ?_ | refine Xt.Nw.ext ?_ | refine Xt.Nw.ext_some ?_ (by assumption) | refine Xt.Nw.setCell ?_ (by simp [go_sem] <;> omega) _)))⟩
      rcases Bool.eq_false_or_eq_true (wthB sl 1 64) with p2 | p2
      rotate_left
      · skip
        go_wp2_with (first | (go_at_call 50; refine (within_any _ _ _ _).mono ?_; rintro e w' ⟨rfl, dW, rfl⟩) | (go_at_call 51; refine (HD.out _ (HN1.out.trans ((by repeat (first | exact Xt.Nw.refl _ | refine Xt.Nw.drew ?_ | refine Xt.Nw.drewN ?_ _ | refine Xt.Nw.alloc ?_ _ | refine Xt.Nw.joined ?_ | refine Xt.Nw.drewd ?_ | refine Xt.Nw.drewdN ?_ | refine Xt.Nw.ext ?_ | refine Xt.Nw.ext_some ?_ (by assumption) | refine Xt.Nw.setCell ?_ (by simp [go_sem] <;> omega) _))))).mono ?_; rintro e w' ⟨rfl, dW, rfl⟩))
        go_ret
        exact ⟨ret_int (by unfold chkC cfgB; simp only; rw [HTT.out]; simp [p1, p2]), HN1.out.trans ((by repeat (first | exact Xt.Nw.refl _ | refine Xt.Nw.drew ?_ | refine Xt.Nw.drewN ?_ _ | refine Xt.Nw.alloc ?_ _ | refine Xt.Nw.joined ?_ | refine Xt.Nw.drewd ?_ | refine Xt.Nw.drewdN ?_ | refine Xt.Nw.ext ?_ | refine Xt.Nw.ext_some ?_ (by assumption) | refine Xt.Nw.setCell ?_ (by simp [go_sem] <;> omega) _)))⟩
      rcases Bool.eq_false_or_eq_true q with p5 | p5
      rotate_left
      · subst p5
        go_wp2_with (first | (go_at_call 50; refine (within_any _ _ _ _).mono ?_; rintro e w' ⟨rfl, dW, rfl⟩) | (go_at_call 51; refine (HD.out _ (HN1.out.trans ((by repeat (first | exact Xt.Nw.refl _ | refine Xt.Nw.drew ?_ | refine Xt.Nw.drewN ?_ _ | refine Xt.Nw.alloc ?_ _ | refine Xt.Nw.joined ?_ | refine Xt.Nw.drewd ?_ | refine Xt.Nw.drewdN ?_ | refine Xt.Nw.ext ?_ | refine Xt.Nw.ext_some ?_ (by assumption) | refine Xt.Nw.setCell ?_ (by simp [go_sem] <;> omega) _))))).mono ?_; rintro e w' ⟨rfl, dW, rfl⟩))
        go_ret
        exact ⟨ret_int (by unfold chkC cfgB; simp only; rw [HTT.out]; simp [p1, p2, HQ.out]), HN1.out.trans ((by repeat (first | exact Xt.Nw.refl _ | refine Xt.Nw.drew ?_ | refine Xt.Nw.drewN ?_ _ | refine Xt.Nw.alloc ?_ _ | refine Xt.Nw.joined ?_ | refine Xt.Nw.drewd ?_ | refine Xt.Nw.drewdN ?_ | refine Xt.Nw.ext ?_ | refine Xt.Nw.ext_some ?_ (by assumption) | refine Xt.Nw.setCell ?_ (by simp [go_sem] <;> omega) _)))⟩
      subst p5
      rcases Bool.eq_false_or_eq_true (domB dk dn cuts) with p6 | p6
      rotate_left
      · have p6c : chkD dk dn cuts = 2 := domB_chk p6
        have H6 := Lib.hid p6
        clear p6
        go_wp2_with (first | (go_at_call 50; refine (within_any _ _ _ _).mono ?_; rintro e w' ⟨rfl, dW, rfl⟩) | (go_at_call 51; refine (HD.out _ (HN1.out.trans ((by repeat (first | exact Xt.Nw.refl _ | refine Xt.Nw.drew ?_ | refine Xt.Nw.drewN ?_ _ | refine Xt.Nw.alloc ?_ _ | refine Xt.Nw.joined ?_ | refine Xt.Nw.drewd ?_ | refine Xt.Nw.drewdN ?_ | refine Xt.Nw.ext ?_ | refine Xt.Nw.ext_some ?_ (by assumption) | refine Xt.Nw.setCell ?_ (by simp [go_sem] <;> omega) _))))).mono ?_; rintro e w' ⟨rfl, dW, rfl⟩))
        go_ret
        exact ⟨ret_int (by unfold chkC cfgB; simp only; rw [HTT.out]; simp [p1, p2, HQ.out, H6.out]), HN1.out.trans ((by repeat (first | exact Xt.Nw.refl _ | refine Xt.Nw.drew ?_ | refine Xt.Nw.drewN ?_ _ | refine Xt.Nw.alloc ?_ _ | refine Xt.Nw.joined ?_ | refine Xt.Nw.drewd ?_ | refine Xt.Nw.drewdN ?_ | refine Xt.Nw.ext ?_ | refine Xt.Nw.ext_some ?_ (by assumption) | refine Xt.Nw.setCell ?_ (by simp [go_sem] <;> omega) _)))⟩
      have p6c : chkD dk dn cuts = 0 := domB_chk p6
      have H6 := Lib.hid p6
      clear p6
      rcases Bool.eq_false_or_eq_true (wthB lk 1 16) with p7 | p7
      rotate_left
      · skip
        go_wp2_with (first | (go_at_call 50; refine (within_any _ _ _ _).mono ?_; rintro e w' ⟨rfl, dW, rfl⟩) | (go_at_call 51; refine (HD.out _ (HN1.out.trans ((by repeat (first | exact Xt.Nw.refl _ | refine Xt.Nw.drew ?_ | refine Xt.Nw.drewN ?_ _ | refine Xt.Nw.alloc ?_ _ | refine Xt.Nw.joined ?_ | refine Xt.Nw.drewd ?_ | refine Xt.Nw.drewdN ?_ | refine Xt.Nw.ext ?_ | refine Xt.Nw.ext_some ?_ (by assumption) | refine Xt.Nw.setCell ?_ (by simp [go_sem] <;> omega) _))))).mono ?_; rintro e w' ⟨rfl, dW, rfl⟩))
        go_ret
        exact ⟨ret_int (by unfold chkC cfgB; simp only; rw [HTT.out]; simp [p1, p2, HQ.out, H6.out, p7]), HN1.out.trans ((by repeat (first | exact Xt.Nw.refl _ | refine Xt.Nw.drew ?_ | refine Xt.Nw.drewN ?_ _ | refine Xt.Nw.alloc ?_ _ | refine Xt.Nw.joined ?_ | refine Xt.Nw.drewd ?_ | refine Xt.Nw.drewdN ?_ | refine Xt.Nw.ext ?_ | refine Xt.Nw.ext_some ?_ (by assumption) | refine Xt.Nw.setCell ?_ (by simp [go_sem] <;> omega) _)))⟩
      rcases Bool.eq_false_or_eq_true (wthB tr 1 255) with p8 | p8
      rotate_left
      · skip
        go_wp2_with (first | (go_at_call 50; refine (within_any _ _ _ _).mono ?_; rintro e w' ⟨rfl, dW, rfl⟩) | (go_at_call 51; refine (HD.out _ (HN1.out.trans ((by repeat (first | exact Xt.Nw.refl _ | refine Xt.Nw.drew ?_ | refine Xt.Nw.drewN ?_ _ | refine Xt.Nw.alloc ?_ _ | refine Xt.Nw.joined ?_ | refine Xt.Nw.drewd ?_ | refine Xt.Nw.drewdN ?_ | refine Xt.Nw.ext ?_ | refine Xt.Nw.ext_some ?_ (by assumption) | refine Xt.Nw.setCell ?_ (by simp [go_sem] <;> omega) _))))).mono ?_; rintro e w' ⟨rfl, dW, rfl⟩))
        go_ret
        exact ⟨ret_int (by unfold chkC cfgB; simp only; rw [HTT.out]; simp [p1, p2, HQ.out, H6.out, p7, p8]), HN1.out.trans ((by repeat (first | exact Xt.Nw.refl _ | refine Xt.Nw.drew ?_ | refine Xt.Nw.drewN ?_ _ | refine Xt.Nw.alloc ?_ _ | refine Xt.Nw.joined ?_ | refine Xt.Nw.drewd ?_ | refine Xt.Nw.drewdN ?_ | refine Xt.Nw.ext ?_ | refine Xt.Nw.ext_some ?_ (by assumption) | refine Xt.Nw.setCell ?_ (by simp [go_sem] <;> omega) _)))⟩
      rcases Bool.eq_false_or_eq_true (wthB ba 0 64) with p9 | p9
      rotate_left
      · skip
        go_wp2_with (first | (go_at_call 50; refine (within_any _ _ _ _).mono ?_; rintro e w' ⟨rfl, dW, rfl⟩) | (go_at_call 51; refine (HD.out _ (HN1.out.trans ((by repeat (first | exact Xt.Nw.refl _ | refine Xt.Nw.drew ?_ | refine Xt.Nw.drewN ?_ _ | refine Xt.Nw.alloc ?_ _ | refine Xt.Nw.joined ?_ | refine Xt.Nw.drewd ?_ | refine Xt.Nw.drewdN ?_ | refine Xt.Nw.ext ?_ | refine Xt.Nw.ext_some ?_ (by assumption) | refine Xt.Nw.setCell ?_ (by simp [go_sem] <;> omega) _))))).mono ?_; rintro e w' ⟨rfl, dW, rfl⟩))
        go_ret
        exact ⟨ret_int (by unfold chkC cfgB; simp only; rw [HTT.out]; simp [p1, p2, HQ.out, H6.out, p7, p8, p9]), HN1.out.trans ((by repeat (first | exact Xt.Nw.refl _ | refine Xt.Nw.drew ?_ | refine Xt.Nw.drewN ?_ _ | refine Xt.Nw.alloc ?_ _ | refine Xt.Nw.joined ?_ | refine Xt.Nw.drewd ?_ | refine Xt.Nw.drewdN ?_ | refine Xt.Nw.ext ?_ | refine Xt.Nw.ext_some ?_ (by assumption) | refine Xt.Nw.setCell ?_ (by simp [go_sem] <;> omega) _)))⟩
      go_wp2_with (first | (go_at_call 50; refine (within_any _ _ _ _).mono ?_; rintro e w' ⟨rfl, dW, rfl⟩) | (go_at_call 51; refine (HD.out _ (HN1.out.trans ((by repeat (first | exact Xt.Nw.refl _ | refine Xt.Nw.drew ?_ | refine Xt.Nw.drewN ?_ _ | refine Xt.Nw.alloc ?_ _ | refine Xt.Nw.joined ?_ | refine Xt.Nw.drewd ?_ | refine Xt.Nw.drewdN ?_ | refine Xt.Nw.ext ?_ | refine Xt.Nw.ext_some ?_ (by assumption) | refine Xt.Nw.setCell ?_ (by simp [go_sem] <;> omega) _))))).mono ?_; rintro e w' ⟨rfl, dW, rfl⟩))
      go_ret
      exact ⟨ret_int (by unfold chkC cfgB; simp only; rw [HTT.out]; simp [p1, p2, HQ.out, H6.out, p7, p8, p9]), HN1.out.trans ((by repeat (first | exact Xt.Nw.refl _ | refine Xt.Nw.drew ?_ | refine Xt.Nw.drewN ?_ _ | refine Xt.Nw.alloc ?_ _ | refine Xt.Nw.joined ?_ | refine Xt.Nw.drewd ?_ | refine Xt.Nw.drewdN ?_ | refine Xt.Nw.ext ?_ | refine Xt.Nw.ext_some ?_ (by assumption) | refine Xt.Nw.setCell ?_ (by simp [go_sem] <;> omega) _)))⟩
set_option maxRecDepth 20000 in
set_option maxHeartbeats 16000000 in
theorem layout_anyN (c : Cf) (cuts : List Nat) (w : World) (h : Rd w 1 c.cA cuts.length (nums cuts)) (hcn : c.cn = cuts.length) (hen : c.eng ≠ 3) (hcr : 0 ≤ c.eng ∧ c.eng < 256) :
    Calls Tryz.prog 24 #[confV c] w fun e w' => e = .returned (.int .i64 (chkC c cuts)) ∧ Nw w w' := by
  obtain ⟨thr, sl, eng, bk, dk, dn, A, cn, cc, t1, t2, t3, t4, t5, t6, lk, tr, ba⟩ := c
  simp only at hcn hen hcr
  subst hcn
  unfold confV
  simp only
  obtain ⟨W1, hW1⟩ : ∃ W1, W1 = w.alloc (.cells #[.int .i64 thr, .int .i64 sl, .int .u8 eng, .int .i64 bk, .int .u8 dk, .int .i64 dn, .slice A cuts.length cc, .int .i64 t1, .int .i64 t2, .int .i64 t3, .int .i64 t4, .int .i64 t5, .int .i64 t6, .int .i64 lk, .int .i64 tr, .int .i64 ba] 27) := ⟨_, rfl⟩
  have hN1 : Nw w W1 := by rw [hW1]; exact (by repeat (first | exact Xt.Nw.refl _ | refine Xt.Nw.drew ?_ | refine Xt.Nw.drewN ?_ _ | refine Xt.Nw.alloc ?_ _ | refine Xt.Nw.joined ?_ | refine Xt.Nw.drewd ?_ | refine Xt.Nw.drewdN ?_ | refine Xt.Nw.ext ?_ | refine Xt.Nw.ext_some ?_ (by assumption) | refine Xt.Nw.setCell ?_ (by simp [go_sem] <;> omega) _))
  have b0 : W1.cell? ⟨w.heap.size, 0, none⟩ = some (.int .i64 thr) := by rw [hW1]; simp [go_sem]
  have b1 : W1.cell? ⟨w.heap.size, 1, none⟩ = some (.int .i64 sl) := by rw [hW1]; simp [go_sem]
  have b2 : W1.cell? ⟨w.heap.size, 2, none⟩ = some (.int .u8 eng) := by rw [hW1]; simp [go_sem]
  have b3 : W1.cell? ⟨w.heap.size, 3, none⟩ = some (.int .i64 bk) := by rw [hW1]; simp [go_sem]
  have b4 : W1.cell? ⟨w.heap.size, 4, none⟩ = some (.int .u8 dk) := by rw [hW1]; simp [go_sem]
  have b5 : W1.cell? ⟨w.heap.size, 5, none⟩ = some (.int .i64 dn) := by rw [hW1]; simp [go_sem]
  have b6 : W1.cell? ⟨w.heap.size, 6, none⟩ = some (.slice A cuts.length cc) := by rw [hW1]; simp [go_sem]
  have b7 : W1.cell? ⟨w.heap.size, 7, none⟩ = some (.int .i64 t1) := by rw [hW1]; simp [go_sem]
  have b8 : W1.cell? ⟨w.heap.size, 8, none⟩ = some (.int .i64 t2) := by rw [hW1]; simp [go_sem]
  have b9 : W1.cell? ⟨w.heap.size, 9, none⟩ = some (.int .i64 t3) := by rw [hW1]; simp [go_sem]
  have b10 : W1.cell? ⟨w.heap.size, 10, none⟩ = some (.int .i64 t4) := by rw [hW1]; simp [go_sem]
  have b11 : W1.cell? ⟨w.heap.size, 11, none⟩ = some (.int .i64 t5) := by rw [hW1]; simp [go_sem]
  have b12 : W1.cell? ⟨w.heap.size, 12, none⟩ = some (.int .i64 t6) := by rw [hW1]; simp [go_sem]
  have b13 : W1.cell? ⟨w.heap.size, 13, none⟩ = some (.int .i64 lk) := by rw [hW1]; simp [go_sem]
  have b14 : W1.cell? ⟨w.heap.size, 14, none⟩ = some (.int .i64 tr) := by rw [hW1]; simp [go_sem]
  have b15 : W1.cell? ⟨w.heap.size, 15, none⟩ = some (.int .i64 ba) := by rw [hW1]; simp [go_sem]
  have HW1 := Lib.hid hW1
  have HN1 := Lib.hid hN1
  have HD := Lib.hid (fun W (hw : Nw w W) => dcheck_any W dk dn A cuts cc (h.nw hw))
  haveI : In w.heap.size W1 := ⟨World.block_lt_of_cell? W1 _ b0⟩
  have HT := Lib.hid (rfl : twB 1024 [t1, t2, t3, t4, t5, t6] = twB 1024 [t1, t2, t3, t4, t5, t6])
  clear hW1 hN1 h
  have e1 : (eng == 3) = false := by simpa using hen
  obtain ⟨q, hq⟩ : ∃ q, bkB eng bk = q := ⟨_, rfl⟩
  have hq2 : (bk == 0) = q := by rw [← hq]; unfold bkB; rw [if_neg hen]; rfl
  have HEN := Lib.hid hen
  clear hen
  have HQ := Lib.hid hq
  clear hq
  go_enter Tryz.func24, Tryz.ntmps24
  go_upto_region 1 with (fail)
  rw [← HW1.out]
  go_upto_region 5 with (first | (go_at_call 50; refine (within_any _ _ _ _).mono ?_; rintro e w' ⟨rfl, dW, rfl⟩) | (go_at_call 51; refine (HD.out _ (HN1.out.trans ((by repeat (first | exact Xt.Nw.refl _ | refine Xt.Nw.drew ?_ | refine Xt.Nw.drewN ?_ _ | refine Xt.Nw.alloc ?_ _ | refine Xt.Nw.joined ?_ | refine Xt.Nw.drewd ?_ | refine Xt.Nw.drewdN ?_ | refine Xt.Nw.ext ?_ | refine Xt.Nw.ext_some ?_ (by assumption) | refine Xt.Nw.setCell ?_ (by simp [go_sem] <;> omega) _))))).mono ?_; rintro e w' ⟨rfl, dW, rfl⟩))
  clear hq2
  go_wp2
  go_loopw [4, 18] (fun a b wr => ∃ (i : Nat) (L : Int), i ≤ 6 ∧ a = .int .i64 L ∧ b = .int .i64 i ∧ 0 ≤ L ∧ L ≤ 1024 ∧ Hid (twB 1024 [t1, t2, t3, t4, t5, t6] = twB L ([t1, t2, t3, t4, t5, t6].drop i)) ∧ Nw W1 wr) (fun _ b _ => 6 - (intOf b).toNat)
  case atStart => exact ⟨0, 1024, by omega, rfl, rfl, by omega, by omega, rfl, Nw.refl _⟩
  case round =>
    obtain ⟨i, L, hi, rfl, rfl, hL0, hL1, hT, d, rfl⟩ := hrel
    rcases (by omega : i = 0 ∨ i = 1 ∨ i = 2 ∨ i = 3 ∨ i = 4 ∨ i = 5 ∨ i = 6) with hz | rfl | rfl | rfl | rfl | rfl | rfl
    · have hiI : (i : Int) = 0 := by omega
      have hT2 : twB 1024 [t1, t2, t3, t4, t5, t6] = if 0 ≤ t1 ∧ t1 ≤ L then twB (L - t1) [t2, t3, t4, t5, t6] else false := by have := hT.out; rw [hz] at this; rw [this]; exact twB_step
      have hz2 := Lib.hid hz
      clear hz
      have HT2 := Lib.hid hT2
      clear hT2 hT
      by_cases hb : 0 ≤ t1
      · have d1 : decide (t1 < 0) = false := by simp; omega
        by_cases hb2 : t1 ≤ L
        · have d2 : decide (L < t1) = false := by simp; omega
          go_wp2
          exact ⟨⟨1, L - t1, by omega, by go_num, rfl, by omega, by omega, (by rw [HT2.out, if_pos ⟨hb, hb2⟩]; rfl : twB 1024 [t1, t2, t3, t4, t5, t6] = _), ⟨_, rfl⟩⟩, by simp [intOf, hz2.out]⟩
        · have d2 : decide (L < t1) = true := by simp; omega
          go_wp2
          go_ret
          exact ⟨ret_int (by have hn : ¬ (0 ≤ t1 ∧ t1 ≤ L) := (by omega); unfold chkC cfgB; simp only; rw [HT2.out, if_neg hn]; simp), HN1.out.trans ((by repeat (first | exact Xt.Nw.refl _ | refine Xt.Nw.drew ?_ | refine Xt.Nw.drewN ?_ _ | refine Xt.Nw.alloc ?_ _ | refine Xt.Nw.joined ?_ | refine Xt.Nw.drewd ?_ | refine Xt.Nw.drewdN ?_ | refine Xt.Nw.ext ?_ | refine Xt.Nw.ext_some ?_ (by assumption) | refine Xt.Nw.setCell ?_ (by simp [go_sem] <;> omega) _)))⟩
      · have d1 : decide (t1 < 0) = true := by simp; omega
        go_wp2
        go_ret
        exact ⟨ret_int (by have hn : ¬ (0 ≤ t1 ∧ t1 ≤ L) := (by omega); unfold chkC cfgB; simp only; rw [HT2.out, if_neg hn]; simp), HN1.out.trans ((by repeat (first | exact Xt.Nw.refl _ | refine Xt.Nw.drew ?_ | refine Xt.Nw.drewN ?_ _ | refine Xt.Nw.alloc ?_ _ | refine Xt.Nw.joined ?_ | refine Xt.Nw.drewd ?_ | refine Xt.Nw.drewdN ?_ | refine Xt.Nw.ext ?_ | refine Xt.Nw.ext_some ?_ (by assumption) | refine Xt.Nw.setCell ?_ (by simp [go_sem] <;> omega) _)))⟩
    · have hT2 : twB 1024 [t1, t2, t3, t4, t5, t6] = if 0 ≤ t2 ∧ t2 ≤ L then twB (L - t2) [t3, t4, t5, t6] else false := by rw [hT.out]; exact twB_step
      have HT2 := Lib.hid hT2
      clear hT2 hT
      by_cases hb : 0 ≤ t2
      · have d1 : decide (t2 < 0) = false := by simp; omega
        by_cases hb2 : t2 ≤ L
        · have d2 : decide (L < t2) = false := by simp; omega
          go_wp2
          exact ⟨⟨2, L - t2, by omega, by go_num, rfl, by omega, by omega, (by rw [HT2.out, if_pos ⟨hb, hb2⟩]; rfl : twB 1024 [t1, t2, t3, t4, t5, t6] = _), ⟨_, rfl⟩⟩, by simp [intOf]⟩
        · have d2 : decide (L < t2) = true := by simp; omega
          go_wp2
          go_ret
          exact ⟨ret_int (by have hn : ¬ (0 ≤ t2 ∧ t2 ≤ L) := (by omega); unfold chkC cfgB; simp only; rw [HT2.out, if_neg hn]; simp), HN1.out.trans ((by repeat (first | exact Xt.Nw.refl _ | refine Xt.Nw.drew ?_ | refine Xt.Nw.drewN ?_ _ | refine Xt.Nw.alloc ?_ _ | refine Xt.Nw.joined ?_ | refine Xt.Nw.drewd ?_ | refine Xt.Nw.drewdN ?_ | refine Xt.Nw.ext ?_ | refine Xt.Nw.ext_some ?_ (by assumption) | refine Xt.Nw.setCell ?_ (by simp [go_sem] <;> omega) _)))⟩
      · have d1 : decide (t2 < 0) = true := by simp; omega
        go_wp2
        go_ret
        exact ⟨ret_int (by have hn : ¬ (0 ≤ t2 ∧ t2 ≤ L) := (by omega); unfold chkC cfgB; simp only; rw [HT2.out, if_neg hn]; simp), HN1.out.trans ((by repeat (first | exact Xt.Nw.refl _ | refine Xt.Nw.drew ?_ | refine Xt.Nw.drewN ?_ _ | refine Xt.Nw.alloc ?_ _ | refine Xt.Nw.joined ?_ | refine Xt.Nw.drewd ?_ | refine Xt.Nw.drewdN ?_ | refine Xt.Nw.ext ?_ | refine Xt.Nw.ext_some ?_ (by assumption) | refine Xt.Nw.setCell ?_ (by simp [go_sem] <;> omega) _)))⟩
    · have hT2 : twB 1024 [t1, t2, t3, t4, t5, t6] = if 0 ≤ t3 ∧ t3 ≤ L then twB (L - t3) [t4, t5, t6] else false := by rw [hT.out]; exact twB_step
      have HT2 := Lib.hid hT2
      clear hT2 hT
      by_cases hb : 0 ≤ t3
      · have d1 : decide (t3 < 0) = false := by simp; omega
        by_cases hb2 : t3 ≤ L
        · have d2 : decide (L < t3) = false := by simp; omega
          go_wp2
          exact ⟨⟨3, L - t3, by omega, by go_num, rfl, by omega, by omega, (by rw [HT2.out, if_pos ⟨hb, hb2⟩]; rfl : twB 1024 [t1, t2, t3, t4, t5, t6] = _), ⟨_, rfl⟩⟩, by simp [intOf]⟩
        · have d2 : decide (L < t3) = true := by simp; omega
          go_wp2
          go_ret
          exact ⟨ret_int (by have hn : ¬ (0 ≤ t3 ∧ t3 ≤ L) := (by omega); unfold chkC cfgB; simp only; rw [HT2.out, if_neg hn]; simp), HN1.out.trans ((by repeat (first | exact Xt.Nw.refl _ | refine Xt.Nw.drew ?_ | refine Xt.Nw.drewN ?_ _ | refine Xt.Nw.alloc ?_ _ | refine Xt.Nw.joined ?_ | refine Xt.Nw.drewd ?_ | refine Xt.Nw.drewdN ?_ | refine Xt.Nw.ext ?_ | refine Xt.Nw.ext_some ?_ (by assumption) | refine Xt.Nw.setCell ?_ (by simp [go_sem] <;> omega) _)))⟩
      · have d1 : decide (t3 < 0) = true := by simp; omega
        go_wp2
        go_ret
        exact ⟨ret_int (by have hn : ¬ (0 ≤ t3 ∧ t3 ≤ L) := (by omega); unfold chkC cfgB; simp only; rw [HT2.out, if_neg hn]; simp), HN1.out.trans ((by repeat (first | exact Xt.Nw.refl _ | refine Xt.Nw.drew ?_ | refine Xt.Nw.drewN ?_ _ | refine Xt.Nw.alloc ?_ _ | refine Xt.Nw.joined ?_ | refine Xt.Nw.drewd ?_ | refine Xt.Nw.drewdN ?_ | refine Xt.Nw.ext ?_ | refine Xt.Nw.ext_some ?_ (by assumption) | refine Xt.Nw.setCell ?_ (by simp [go_sem] <;> omega) _)))⟩
    · have hT2 : twB 1024 [t1, t2, t3, t4, t5, t6] = if 0 ≤ t4 ∧ t4 ≤ L then twB (L - t4) [t5, t6] else false := by rw [hT.out]; exact twB_step
      have HT2 := Lib.hid hT2
      clear hT2 hT
      by_cases hb : 0 ≤ t4
      · have d1 : decide (t4 < 0) = false := by simp; omega
        by_cases hb2 : t4 ≤ L
        · have d2 : decide (L < t4) = false := by simp; omega
          go_wp2
          exact ⟨⟨4, L - t4, by omega, by go_num, rfl, by omega, by omega, (by rw [HT2.out, if_pos ⟨hb, hb2⟩]; rfl : twB 1024 [t1, t2, t3, t4, t5, t6] = _), ⟨_, rfl⟩⟩, by simp [intOf]⟩
        · have d2 : decide (L < t4) = true := by simp; omega
          go_wp2
          go_ret
          exact ⟨ret_int (by have hn : ¬ (0 ≤ t4 ∧ t4 ≤ L) := (by omega); unfold chkC cfgB; simp only; rw [HT2.out, if_neg hn]; simp), HN1.out.trans ((by repeat (first | exact Xt.Nw.refl _ | refine Xt.Nw.drew ?_ | refine Xt.Nw.drewN ?_ _ | refine Xt.Nw.alloc ?_ _ | refine Xt.Nw.joined ?_ | refine Xt.Nw.drewd ?_ | refine Xt.Nw.drewdN ?_ | refine Xt.Nw.ext ?_ | refine Xt.Nw.ext_some ?_ (by assumption) | refine Xt.Nw.setCell ?_ (by simp [go_sem] <;> omega) _)))⟩
      · have d1 : decide (t4 < 0) = true := by simp; omega
        go_wp2
        go_ret
        exact ⟨ret_int (by have hn : ¬ (0 ≤ t4 ∧ t4 ≤ L) := (by omega); unfold chkC cfgB; simp only; rw [HT2.out, if_neg hn]; simp), HN1.out.trans ((by repeat (first | exact Xt.Nw.refl _ | refine Xt.Nw.drew ?_ | refine Xt.Nw.drewN ?_ _ | refine Xt.Nw.alloc ?_ _ | refine Xt.Nw.joined ?_ | refine Xt.Nw.drewd ?_ | refine Xt.Nw.drewdN ?_ | refine Xt.Nw.ext ?_ | refine Xt.Nw.ext_some ?_ (by assumption) | refine Xt.Nw.setCell ?_ (by simp [go_sem] <;> omega) _)))⟩
    · have hT2 : twB 1024 [t1, t2, t3, t4, t5, t6] = if 0 ≤ t5 ∧ t5 ≤ L then twB (L - t5) [t6] else false := by rw [hT.out]; exact twB_step
      have HT2 := Lib.hid hT2
      clear hT2 hT
      by_cases hb : 0 ≤ t5
      · have d1 : decide (t5 < 0) = false := by simp; omega
        by_cases hb2 : t5 ≤ L
        · have d2 : decide (L < t5) = false := by simp; omega
          go_wp2
          exact ⟨⟨5, L - t5, by omega, by go_num, rfl, by omega, by omega, (by rw [HT2.out, if_pos ⟨hb, hb2⟩]; rfl : twB 1024 [t1, t2, t3, t4, t5, t6] = _), ⟨_, rfl⟩⟩, by simp [intOf]⟩
        · have d2 : decide (L < t5) = true := by simp; omega
          go_wp2
          go_ret
          exact ⟨ret_int (by have hn : ¬ (0 ≤ t5 ∧ t5 ≤ L) := (by omega); unfold chkC cfgB; simp only; rw [HT2.out, if_neg hn]; simp), HN1.out.trans ((by repeat (first | exact Xt.Nw.refl _ | refine Xt.Nw.drew ?_ | refine Xt.Nw.drewN ?_ _ | refine Xt.Nw.alloc ?_ _ | refine Xt.Nw.joined ?_ | refine Xt.Nw.drewd ?_ | refine Xt.Nw.drewdN ?_ | refine Xt.Nw.ext ?_ | refine Xt.Nw.ext_some ?_ (by assumption) | refine Xt.Nw.setCell ?_ (by simp [go_sem] <;> omega) _)))⟩
      · have d1 : decide (t5 < 0) = true := by simp; omega
        go_wp2
        go_ret
        exact ⟨ret_int (by have hn : ¬ (0 ≤ t5 ∧ t5 ≤ L) := (by omega); unfold chkC cfgB; simp only; rw [HT2.out, if_neg hn]; simp), HN1.out.trans ((by repeat (first | exact Xt.Nw.refl _ | refine Xt.Nw.drew ?_ | refine Xt.Nw.drewN ?_ _ | refine Xt.Nw.alloc ?_ _ | refine Xt.Nw.joined ?_ | refine Xt.Nw.drewd ?_ | refine Xt.Nw.drewdN ?_ | refine Xt.Nw.ext ?_ | refine Xt.Nw.ext_some ?_ (by assumption) | refine Xt.Nw.setCell ?_ (by simp [go_sem] <;> omega) _)))⟩
    · have hT2 : twB 1024 [t1, t2, t3, t4, t5, t6] = if 0 ≤ t6 ∧ t6 ≤ L then twB (L - t6) [] else false := by rw [hT.out]; exact twB_step
      have HT2 := Lib.hid hT2
      clear hT2 hT
      by_cases hb : 0 ≤ t6
      · have d1 : decide (t6 < 0) = false := by simp; omega
        by_cases hb2 : t6 ≤ L
        · have d2 : decide (L < t6) = false := by simp; omega
          go_wp2
          exact ⟨⟨6, L - t6, by omega, by go_num, rfl, by omega, by omega, (by rw [HT2.out, if_pos ⟨hb, hb2⟩]; rfl : twB 1024 [t1, t2, t3, t4, t5, t6] = _), ⟨_, rfl⟩⟩, by simp [intOf]⟩
        · have d2 : decide (L < t6) = true := by simp; omega
          go_wp2
          go_ret
          exact ⟨ret_int (by have hn : ¬ (0 ≤ t6 ∧ t6 ≤ L) := (by omega); unfold chkC cfgB; simp only; rw [HT2.out, if_neg hn]; simp), HN1.out.trans ((by repeat (first | exact Xt.Nw.refl _ | refine Xt.Nw.drew ?_ | refine Xt.Nw.drewN ?_ _ | refine Xt.Nw.alloc ?_ _ | refine Xt.Nw.joined ?_ | refine Xt.Nw.drewd ?_ | refine Xt.Nw.drewdN ?_ | refine Xt.Nw.ext ?_ | refine Xt.Nw.ext_some ?_ (by assumption) | refine Xt.Nw.setCell ?_ (by simp [go_sem] <;> omega) _)))⟩
      · have d1 : decide (t6 < 0) = true := by simp; omega
        go_wp2
        go_ret
        exact ⟨ret_int (by have hn : ¬ (0 ≤ t6 ∧ t6 ≤ L) := (by omega); unfold chkC cfgB; simp only; rw [HT2.out, if_neg hn]; simp), HN1.out.trans ((by repeat (first | exact Xt.Nw.refl _ | refine Xt.Nw.drew ?_ | refine Xt.Nw.drewN ?_ _ | refine Xt.Nw.alloc ?_ _ | refine Xt.Nw.joined ?_ | refine Xt.Nw.drewd ?_ | refine Xt.Nw.drewdN ?_ | refine Xt.Nw.ext ?_ | refine Xt.Nw.ext_some ?_ (by assumption) | refine Xt.Nw.setCell ?_ (by simp [go_sem] <;> omega) _)))⟩
    · have hTT : twB 1024 [t1, t2, t3, t4, t5, t6] = true := hT.out
      have HTT := Lib.hid hTT
      clear hTT hT HT
      rcases Bool.eq_false_or_eq_true (wthB thr 1 64) with p1 | p1
      rotate_left
      · skip
        go_wp2_with (first | (go_at_call 50; refine (within_any _ _ _ _).mono ?_; rintro e w' ⟨rfl, dW, rfl⟩) | (go_at_call 51; refine (HD.out _ (HN1.out.trans ((by repeat (first | exact Xt.Nw.refl _ | refine Xt.Nw.drew ?_ | refine Xt.Nw.drewN ?_ _ | refine Xt.Nw.alloc ?_ _ | refine Xt.Nw.joined ?_ | refine Xt.Nw.drewd ?_ | refine Xt.Nw.drewdN ?_ | refine Xt.Nw.ext ?_ | refine Xt.Nw.ext_some ?_ (by assumption) | refine Xt.Nw.setCell ?_ (by simp [go_sem] <;> omega) _))))).mono ?_; rintro e w' ⟨rfl, dW, rfl⟩))
        go_ret
        exact ⟨ret_int (by unfold chkC cfgB; simp only; rw [HTT.out]; simp [p1]), HN1.out.trans ((by repeat (first | exact Xt.Nw.refl _ | refine Xt.Nw.drew ?_ | refine Xt.Nw.drewN ?_ _ | refine Xt.Nw.alloc ?_ _ | refine Xt.Nw.joined ?_ | refine Xt.Nw.drewd ?_ | refine Xt.Nw.drewdN ?_ | refine Xt.Nw.ext ?_ | refine Xt.Nw.ext_some ?_ (by assumption) | refine Xt.Nw.setCell ?_ (by simp [go_sem] <;> omega) _)))⟩
      rcases Bool.eq_false_or_eq_true (wthB sl 1 64) with p2 | p2
      rotate_left
      · skip
        go_wp2_with (first | (go_at_call 50; refine (within_any _ _ _ _).mono ?_; rintro e w' ⟨rfl, dW, rfl⟩) | (go_at_call 51; refine (HD.out _ (HN1.out.trans ((by repeat (first | exact Xt.Nw.refl _ | refine Xt.Nw.drew ?_ | refine Xt.Nw.drewN ?_ _ | refine Xt.Nw.alloc ?_ _ | refine Xt.Nw.joined ?_ | refine Xt.Nw.drewd ?_ | refine Xt.Nw.drewdN ?_ | refine Xt.Nw.ext ?_ | refine Xt.Nw.ext_some ?_ (by assumption) | refine Xt.Nw.setCell ?_ (by simp [go_sem] <;> omega) _))))).mono ?_; rintro e w' ⟨rfl, dW, rfl⟩))
        go_ret
        exact ⟨ret_int (by unfold chkC cfgB; simp only; rw [HTT.out]; simp [p1, p2]), HN1.out.trans ((by repeat (first | exact Xt.Nw.refl _ | refine Xt.Nw.drew ?_ | refine Xt.Nw.drewN ?_ _ | refine Xt.Nw.alloc ?_ _ | refine Xt.Nw.joined ?_ | refine Xt.Nw.drewd ?_ | refine Xt.Nw.drewdN ?_ | refine Xt.Nw.ext ?_ | refine Xt.Nw.ext_some ?_ (by assumption) | refine Xt.Nw.setCell ?_ (by simp [go_sem] <;> omega) _)))⟩
      rcases Bool.eq_false_or_eq_true (decide (1 ≤ eng)) with p3b | p3b
      rotate_left
      · have p3 : decide (eng < 1) = true := by simp at p3b ⊢; omega
        have p3c : ¬ 1 ≤ eng := by simpa using p3b
        go_wp2_with (first | (go_at_call 50; refine (within_any _ _ _ _).mono ?_; rintro e w' ⟨rfl, dW, rfl⟩) | (go_at_call 51; refine (HD.out _ (HN1.out.trans ((by repeat (first | exact Xt.Nw.refl _ | refine Xt.Nw.drew ?_ | refine Xt.Nw.drewN ?_ _ | refine Xt.Nw.alloc ?_ _ | refine Xt.Nw.joined ?_ | refine Xt.Nw.drewd ?_ | refine Xt.Nw.drewdN ?_ | refine Xt.Nw.ext ?_ | refine Xt.Nw.ext_some ?_ (by assumption) | refine Xt.Nw.setCell ?_ (by simp [go_sem] <;> omega) _))))).mono ?_; rintro e w' ⟨rfl, dW, rfl⟩))
        go_ret
        exact ⟨ret_int (by unfold chkC cfgB; simp only; rw [HTT.out]; simp [p1, p2, p3b]), HN1.out.trans ((by repeat (first | exact Xt.Nw.refl _ | refine Xt.Nw.drew ?_ | refine Xt.Nw.drewN ?_ _ | refine Xt.Nw.alloc ?_ _ | refine Xt.Nw.joined ?_ | refine Xt.Nw.drewd ?_ | refine Xt.Nw.drewdN ?_ | refine Xt.Nw.ext ?_ | refine Xt.Nw.ext_some ?_ (by assumption) | refine Xt.Nw.setCell ?_ (by simp [go_sem] <;> omega) _)))⟩
      have p3 : decide (eng < 1) = false := by simp at p3b ⊢; omega
      rcases Bool.eq_false_or_eq_true (decide (eng ≤ 3)) with p4b | p4b
      rotate_left
      · have p4 : decide (3 < eng) = true := by simp at p4b ⊢; omega
        have p4c : ¬ eng ≤ 3 := by simpa using p4b
        go_wp2_with (first | (go_at_call 50; refine (within_any _ _ _ _).mono ?_; rintro e w' ⟨rfl, dW, rfl⟩) | (go_at_call 51; refine (HD.out _ (HN1.out.trans ((by repeat (first | exact Xt.Nw.refl _ | refine Xt.Nw.drew ?_ | refine Xt.Nw.drewN ?_ _ | refine Xt.Nw.alloc ?_ _ | refine Xt.Nw.joined ?_ | refine Xt.Nw.drewd ?_ | refine Xt.Nw.drewdN ?_ | refine Xt.Nw.ext ?_ | refine Xt.Nw.ext_some ?_ (by assumption) | refine Xt.Nw.setCell ?_ (by simp [go_sem] <;> omega) _))))).mono ?_; rintro e w' ⟨rfl, dW, rfl⟩))
        go_ret
        exact ⟨ret_int (by unfold chkC cfgB; simp only; rw [HTT.out]; simp [p1, p2, p3b, p4b]), HN1.out.trans ((by repeat (first | exact Xt.Nw.refl _ | refine Xt.Nw.drew ?_ | refine Xt.Nw.drewN ?_ _ | refine Xt.Nw.alloc ?_ _ | refine Xt.Nw.joined ?_ | refine Xt.Nw.drewd ?_ | refine Xt.Nw.drewdN ?_ | refine Xt.Nw.ext ?_ | refine Xt.Nw.ext_some ?_ (by assumption) | refine Xt.Nw.setCell ?_ (by simp [go_sem] <;> omega) _)))⟩
      have p4 : decide (3 < eng) = false := by simp at p4b ⊢; omega
      rcases Bool.eq_false_or_eq_true q with p5 | p5
      rotate_left
      · subst p5
        go_wp2_with (first | (go_at_call 50; refine (within_any _ _ _ _).mono ?_; rintro e w' ⟨rfl, dW, rfl⟩) | (go_at_call 51; refine (HD.out _ (HN1.out.trans ((by repeat (first | exact Xt.Nw.refl _ | refine Xt.Nw.drew ?_ | refine Xt.Nw.drewN ?_ _ | refine Xt.Nw.alloc ?_ _ | refine Xt.Nw.joined ?_ | refine Xt.Nw.drewd ?_ | refine Xt.Nw.drewdN ?_ | refine Xt.Nw.ext ?_ | refine Xt.Nw.ext_some ?_ (by assumption) | refine Xt.Nw.setCell ?_ (by simp [go_sem] <;> omega) _))))).mono ?_; rintro e w' ⟨rfl, dW, rfl⟩))
        go_ret
        exact ⟨ret_int (by unfold chkC cfgB; simp only; rw [HTT.out]; simp [p1, p2, p3b, p4b, HQ.out]), HN1.out.trans ((by repeat (first | exact Xt.Nw.refl _ | refine Xt.Nw.drew ?_ | refine Xt.Nw.drewN ?_ _ | refine Xt.Nw.alloc ?_ _ | refine Xt.Nw.joined ?_ | refine Xt.Nw.drewd ?_ | refine Xt.Nw.drewdN ?_ | refine Xt.Nw.ext ?_ | refine Xt.Nw.ext_some ?_ (by assumption) | refine Xt.Nw.setCell ?_ (by simp [go_sem] <;> omega) _)))⟩
      subst p5
      rcases Bool.eq_false_or_eq_true (domB dk dn cuts) with p6 | p6
      rotate_left
      · have p6c : chkD dk dn cuts = 2 := domB_chk p6
        have H6 := Lib.hid p6
        clear p6
        go_wp2_with (first | (go_at_call 50; refine (within_any _ _ _ _).mono ?_; rintro e w' ⟨rfl, dW, rfl⟩) | (go_at_call 51; refine (HD.out _ (HN1.out.trans ((by repeat (first | exact Xt.Nw.refl _ | refine Xt.Nw.drew ?_ | refine Xt.Nw.drewN ?_ _ | refine Xt.Nw.alloc ?_ _ | refine Xt.Nw.joined ?_ | refine Xt.Nw.drewd ?_ | refine Xt.Nw.drewdN ?_ | refine Xt.Nw.ext ?_ | refine Xt.Nw.ext_some ?_ (by assumption) | refine Xt.Nw.setCell ?_ (by simp [go_sem] <;> omega) _))))).mono ?_; rintro e w' ⟨rfl, dW, rfl⟩))
        go_ret
        exact ⟨ret_int (by unfold chkC cfgB; simp only; rw [HTT.out]; simp [p1, p2, p3b, p4b, HQ.out, H6.out]), HN1.out.trans ((by repeat (first | exact Xt.Nw.refl _ | refine Xt.Nw.drew ?_ | refine Xt.Nw.drewN ?_ _ | refine Xt.Nw.alloc ?_ _ | refine Xt.Nw.joined ?_ | refine Xt.Nw.drewd ?_ | refine Xt.Nw.drewdN ?_ | refine Xt.Nw.ext ?_ | refine Xt.Nw.ext_some ?_ (by assumption) | refine Xt.Nw.setCell ?_ (by simp [go_sem] <;> omega) _)))⟩
      have p6c : chkD dk dn cuts = 0 := domB_chk p6
      have H6 := Lib.hid p6
      clear p6
      rcases Bool.eq_false_or_eq_true (wthB lk 1 16) with p7 | p7
      rotate_left
      · skip
        go_wp2_with (first | (go_at_call 50; refine (within_any _ _ _ _).mono ?_; rintro e w' ⟨rfl, dW, rfl⟩) | (go_at_call 51; refine (HD.out _ (HN1.out.trans ((by repeat (first | exact Xt.Nw.refl _ | refine Xt.Nw.drew ?_ | refine Xt.Nw.drewN ?_ _ | refine Xt.Nw.alloc ?_ _ | refine Xt.Nw.joined ?_ | refine Xt.Nw.drewd ?_ | refine Xt.Nw.drewdN ?_ | refine Xt.Nw.ext ?_ | refine Xt.Nw.ext_some ?_ (by assumption) | refine Xt.Nw.setCell ?_ (by simp [go_sem] <;> omega) _))))).mono ?_; rintro e w' ⟨rfl, dW, rfl⟩))
        go_ret
        exact ⟨ret_int (by unfold chkC cfgB; simp only; rw [HTT.out]; simp [p1, p2, p3b, p4b, HQ.out, H6.out, p7]), HN1.out.trans ((by repeat (first | exact Xt.Nw.refl _ | refine Xt.Nw.drew ?_ | refine Xt.Nw.drewN ?_ _ | refine Xt.Nw.alloc ?_ _ | refine Xt.Nw.joined ?_ | refine Xt.Nw.drewd ?_ | refine Xt.Nw.drewdN ?_ | refine Xt.Nw.ext ?_ | refine Xt.Nw.ext_some ?_ (by assumption) | refine Xt.Nw.setCell ?_ (by simp [go_sem] <;> omega) _)))⟩
      rcases Bool.eq_false_or_eq_true (wthB tr 1 255) with p8 | p8
      rotate_left
      · skip
        go_wp2_with (first | (go_at_call 50; refine (within_any _ _ _ _).mono ?_; rintro e w' ⟨rfl, dW, rfl⟩) | (go_at_call 51; refine (HD.out _ (HN1.out.trans ((by repeat (first | exact Xt.Nw.refl _ | refine Xt.Nw.drew ?_ | refine Xt.Nw.drewN ?_ _ | refine Xt.Nw.alloc ?_ _ | refine Xt.Nw.joined ?_ | refine Xt.Nw.drewd ?_ | refine Xt.Nw.drewdN ?_ | refine Xt.Nw.ext ?_ | refine Xt.Nw.ext_some ?_ (by assumption) | refine Xt.Nw.setCell ?_ (by simp [go_sem] <;> omega) _))))).mono ?_; rintro e w' ⟨rfl, dW, rfl⟩))
        go_ret
        exact ⟨ret_int (by unfold chkC cfgB; simp only; rw [HTT.out]; simp [p1, p2, p3b, p4b, HQ.out, H6.out, p7, p8]), HN1.out.trans ((by repeat (first | exact Xt.Nw.refl _ | refine Xt.Nw.drew ?_ | refine Xt.Nw.drewN ?_ _ | refine Xt.Nw.alloc ?_ _ | refine Xt.Nw.joined ?_ | refine Xt.Nw.drewd ?_ | refine Xt.Nw.drewdN ?_ | refine Xt.Nw.ext ?_ | refine Xt.Nw.ext_some ?_ (by assumption) | refine Xt.Nw.setCell ?_ (by simp [go_sem] <;> omega) _)))⟩
      rcases Bool.eq_false_or_eq_true (wthB ba 0 64) with p9 | p9
      rotate_left
      · skip
        go_wp2_with (first | (go_at_call 50; refine (within_any _ _ _ _).mono ?_; rintro e w' ⟨rfl, dW, rfl⟩) | (go_at_call 51; refine (HD.out _ (HN1.out.trans ((by repeat (first | exact Xt.Nw.refl _ | refine Xt.Nw.drew ?_ | refine Xt.Nw.drewN ?_ _ | refine Xt.Nw.alloc ?_ _ | refine Xt.Nw.joined ?_ | refine Xt.Nw.drewd ?_ | refine Xt.Nw.drewdN ?_ | refine Xt.Nw.ext ?_ | refine Xt.Nw.ext_some ?_ (by assumption) | refine Xt.Nw.setCell ?_ (by simp [go_sem] <;> omega) _))))).mono ?_; rintro e w' ⟨rfl, dW, rfl⟩))
        go_ret
        exact ⟨ret_int (by unfold chkC cfgB; simp only; rw [HTT.out]; simp [p1, p2, p3b, p4b, HQ.out, H6.out, p7, p8, p9]), HN1.out.trans ((by repeat (first | exact Xt.Nw.refl _ | refine Xt.Nw.drew ?_ | refine Xt.Nw.drewN ?_ _ | refine Xt.Nw.alloc ?_ _ | refine Xt.Nw.joined ?_ | refine Xt.Nw.drewd ?_ | refine Xt.Nw.drewdN ?_ | refine Xt.Nw.ext ?_ | refine Xt.Nw.ext_some ?_ (by assumption) | refine Xt.Nw.setCell ?_ (by simp [go_sem] <;> omega) _)))⟩
      go_wp2_with (first | (go_at_call 50; refine (within_any _ _ _ _).mono ?_; rintro e w' ⟨rfl, dW, rfl⟩) | (go_at_call 51; refine (HD.out _ (HN1.out.trans ((by repeat (first | exact Xt.Nw.refl _ | refine Xt.Nw.drew ?_ | refine Xt.Nw.drewN ?_ _ | refine Xt.Nw.alloc ?_ _ | refine Xt.Nw.joined ?_ | refine Xt.Nw.drewd ?_ | refine Xt.Nw.drewdN ?_ | refine Xt.Nw.ext ?_ | refine Xt.Nw.ext_some ?_ (by assumption) | refine Xt.Nw.setCell ?_ (by simp [go_sem] <;> omega) _))))).mono ?_; rintro e w' ⟨rfl, dW, rfl⟩))
      go_ret
      exact ⟨ret_int (by unfold chkC cfgB; simp only; rw [HTT.out]; simp [p1, p2, p3b, p4b, HQ.out, H6.out, p7, p8, p9]), HN1.out.trans ((by repeat (first | exact Xt.Nw.refl _ | refine Xt.Nw.drew ?_ | refine Xt.Nw.drewN ?_ _ | refine Xt.Nw.alloc ?_ _ | refine Xt.Nw.joined ?_ | refine Xt.Nw.drewd ?_ | refine Xt.Nw.drewdN ?_ | refine Xt.Nw.ext ?_ | refine Xt.Nw.ext_some ?_ (by assumption) | refine Xt.Nw.setCell ?_ (by simp [go_sem] <;> omega) _)))⟩
theorem layout_all (c : Cf) (cuts : List Nat) (w : World) (h : Rd w 1 c.cA cuts.length (nums cuts)) (hcn : c.cn = cuts.length) (hcr : 0 ≤ c.eng ∧ c.eng < 256) :
    Calls Tryz.prog 24 #[confV c] w fun e w' => e = .returned (.int .i64 (chkC c cuts)) ∧ Nw w w' := by
  by_cases he : c.eng = 3
  · exact layout_any3 c cuts w h hcn he hcr
  · exact layout_anyN c cuts w h hcn he hcr
end Go.Proofs.YtfnapkfdocabcaaGreat
