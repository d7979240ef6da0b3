import Derived.Test.YtkikdpdainmlcaaGreatGVe
import Derived.BigQuiet
import Derived.Test.YtkikdpdainmlcaaGreatGQj
set_option linter.unusedVariables false
set_option linter.unusedSimpArgs false
set_option linter.unnecessarySimpa false
namespace Go.Proofs.YtkikdpdainmlcaaGreat
open Go.RowKit Go.Xt
/-! layout.Check and the reference's Check at any configuration. -/
def wthB (n a b : Int) : Bool := decide (a ≤ n) && decide (n ≤ b)
def bkB (eng bk : Int) : Bool := if eng = 3 then wthB bk 1 16 else decide (bk = 0)
def twB : Int → List Int → Bool
  | _, [] => true
  | left, t :: r => (decide (0 ≤ t) && decide (t ≤ left)) && twB (left - t) r
def cfgB (c : Cf) (cuts : List Nat) : Bool :=
  twB 1024 [c.t1, c.t2, c.t3, c.t4, c.t5, c.t6] && (wthB c.thr 1 64 && (wthB c.sl 1 64 && (decide (1 ≤ c.eng) && (decide (c.eng ≤ 3) && (bkB c.eng c.bk && (domB c.dk c.dn cuts && (wthB c.lk 1 16 && (wthB c.tr 1 255 && wthB c.ba 0 64))))))))
def chkC (c : Cf) (cuts : List Nat) : Int := if cfgB c cuts = true then 0 else 2
theorem within_any (n a b : Int) (w : World) : Calls Tryz.prog 98 #[.int .i64 n, .int .i64 a, .int .i64 b] w fun e w' => e = .returned (.bool (wthB n a b)) ∧ Nw w w' := by
  unfold wthB
  obtain ⟨p, hp⟩ : ∃ p, decide (a ≤ n) = p := ⟨_, rfl⟩
  obtain ⟨q, hq⟩ : ∃ q, decide (n ≤ b) = q := ⟨_, rfl⟩
  rw [hp, hq]
  cases p <;> cases q
  all_goals
    go_enter Tryz.func98, Tryz.ntmps98
    go_wp2
    go_ret
    exact ⟨rfl, nwa⟩
theorem chkD_iff (k n : Int) (l : List Nat) : chkD k n l = if domB k n l = true then 0 else 2 := by unfold chkD; cases domB k n l <;> rfl
theorem domB_chk {k n : Int} {l : List Nat} {q : Bool} (h : domB k n l = q) : chkD k n l = if q = true then 0 else 2 := by rw [chkD_iff, h]
set_option maxRecDepth 20000 in
@[go_sem high] theorem idx6v_0 (a0 a1 a2 a3 a4 a5 : Int) (w : World) : Sem.run Tryz.prog (Instr.index 25 (.agg #[.int .i64 a0, .int .i64 a1, .int .i64 a2, .int .i64 a3, .int .i64 a4, .int .i64 a5]) (.int .i64 0)) w = .ok (.int .i64 a0) w := by rfl
set_option maxRecDepth 20000 in
@[go_sem high] theorem idx6v_1 (a0 a1 a2 a3 a4 a5 : Int) (w : World) : Sem.run Tryz.prog (Instr.index 25 (.agg #[.int .i64 a0, .int .i64 a1, .int .i64 a2, .int .i64 a3, .int .i64 a4, .int .i64 a5]) (.int .i64 1)) w = .ok (.int .i64 a1) w := by rfl
set_option maxRecDepth 20000 in
@[go_sem high] theorem idx6v_2 (a0 a1 a2 a3 a4 a5 : Int) (w : World) : Sem.run Tryz.prog (Instr.index 25 (.agg #[.int .i64 a0, .int .i64 a1, .int .i64 a2, .int .i64 a3, .int .i64 a4, .int .i64 a5]) (.int .i64 2)) w = .ok (.int .i64 a2) w := by rfl
set_option maxRecDepth 20000 in
@[go_sem high] theorem idx6v_3 (a0 a1 a2 a3 a4 a5 : Int) (w : World) : Sem.run Tryz.prog (Instr.index 25 (.agg #[.int .i64 a0, .int .i64 a1, .int .i64 a2, .int .i64 a3, .int .i64 a4, .int .i64 a5]) (.int .i64 3)) w = .ok (.int .i64 a3) w := by rfl
set_option maxRecDepth 20000 in
@[go_sem high] theorem idx6v_4 (a0 a1 a2 a3 a4 a5 : Int) (w : World) : Sem.run Tryz.prog (Instr.index 25 (.agg #[.int .i64 a0, .int .i64 a1, .int .i64 a2, .int .i64 a3, .int .i64 a4, .int .i64 a5]) (.int .i64 4)) w = .ok (.int .i64 a4) w := by rfl
set_option maxRecDepth 20000 in
@[go_sem high] theorem idx6v_5 (a0 a1 a2 a3 a4 a5 : Int) (w : World) : Sem.run Tryz.prog (Instr.index 25 (.agg #[.int .i64 a0, .int .i64 a1, .int .i64 a2, .int .i64 a3, .int .i64 a4, .int .i64 a5]) (.int .i64 5)) w = .ok (.int .i64 a5) w := by rfl
theorem twB_step {L t : Int} {r : List Int} : twB L (t :: r) = if 0 ≤ t ∧ t ≤ L then twB (L - t) r else false := by
  show ((decide (0 ≤ t) && decide (t ≤ L)) && twB (L - t) r) = _
  by_cases h : 0 ≤ t ∧ t ≤ L
  · rw [if_pos h]; simp [h.1, h.2]
  · rw [if_neg h]
    by_cases h1 : 0 ≤ t
    · have h2 : ¬ t ≤ L := fun h2 => h ⟨h1, h2⟩
      simp [h2]
    · simp [h1]
set_option maxRecDepth 20000 in
set_option maxHeartbeats 16000000 in
theorem layout_any3 (c : Cf) (cuts : List Nat) (w : World) (h : Rd w 1 c.cA cuts.length (nums cuts)) (hcn : c.cn = cuts.length) (hen : c.eng = 3) (hcr : 0 ≤ c.eng ∧ c.eng < 256) :
    Calls Tryz.prog 83 #[confV c] w fun e w' => e = .returned (.int .i64 (chkC c cuts)) ∧ Nw w w' := by
  obtain ⟨thr, sl, eng, bk, dk, dn, A, cn, cc, t1, t2, t3, t4, t5, t6, lk, tr, ba⟩ := c
  simp only at hcn hen hcr
  subst hcn
  unfold confV
  simp only
  obtain ⟨W1, hW1⟩ : ∃ W1, W1 = w.alloc (.cells #[.int .i64 thr, .int .i64 sl, .int .u8 eng, .int .i64 bk, .int .u8 dk, .int .i64 dn, .slice A cuts.length cc, .int .i64 t1, .int .i64 t2, .int .i64 t3, .int .i64 t4, .int .i64 t5, .int .i64 t6, .int .i64 lk, .int .i64 tr, .int .i64 ba] 27) := ⟨_, rfl⟩
  have hN1 : Nw w W1 := by rw [hW1]; exact nwa
  have b0 : W1.cell? ⟨w.heap.size, 0, none⟩ = some (.int .i64 thr) := by rw [hW1]; simp [go_sem]
  have b1 : W1.cell? ⟨w.heap.size, 1, none⟩ = some (.int .i64 sl) := by rw [hW1]; simp [go_sem]
  have b2 : W1.cell? ⟨w.heap.size, 2, none⟩ = some (.int .u8 eng) := by rw [hW1]; simp [go_sem]
  have b3 : W1.cell? ⟨w.heap.size, 3, none⟩ = some (.int .i64 bk) := by rw [hW1]; simp [go_sem]
  have b4 : W1.cell? ⟨w.heap.size, 4, none⟩ = some (.int .u8 dk) := by rw [hW1]; simp [go_sem]
  have b5 : W1.cell? ⟨w.heap.size, 5, none⟩ = some (.int .i64 dn) := by rw [hW1]; simp [go_sem]
  have b6 : W1.cell? ⟨w.heap.size, 6, none⟩ = some (.slice A cuts.length cc) := by rw [hW1]; simp [go_sem]
  have b7 : W1.cell? ⟨w.heap.size, 7, none⟩ = some (.int .i64 t1) := by rw [hW1]; simp [go_sem]
  have b8 : W1.cell? ⟨w.heap.size, 8, none⟩ = some (.int .i64 t2) := by rw [hW1]; simp [go_sem]
  have b9 : W1.cell? ⟨w.heap.size, 9, none⟩ = some (.int .i64 t3) := by rw [hW1]; simp [go_sem]
  have b10 : W1.cell? ⟨w.heap.size, 10, none⟩ = some (.int .i64 t4) := by rw [hW1]; simp [go_sem]
  have b11 : W1.cell? ⟨w.heap.size, 11, none⟩ = some (.int .i64 t5) := by rw [hW1]; simp [go_sem]
  have b12 : W1.cell? ⟨w.heap.size, 12, none⟩ = some (.int .i64 t6) := by rw [hW1]; simp [go_sem]
  have b13 : W1.cell? ⟨w.heap.size, 13, none⟩ = some (.int .i64 lk) := by rw [hW1]; simp [go_sem]
  have b14 : W1.cell? ⟨w.heap.size, 14, none⟩ = some (.int .i64 tr) := by rw [hW1]; simp [go_sem]
  have b15 : W1.cell? ⟨w.heap.size, 15, none⟩ = some (.int .i64 ba) := by rw [hW1]; simp [go_sem]
  have HW1 := Lib.hid hW1
  have HN1 := Lib.hid hN1
  have HD := Lib.hid (fun W (hw : Nw w W) => dcheck_any W dk dn A cuts cc (h.nw hw))
  haveI : In w.heap.size W1 := ⟨World.block_lt_of_cell? W1 _ b0⟩
  have HT := Lib.hid (rfl : twB 1024 [t1, t2, t3, t4, t5, t6] = twB 1024 [t1, t2, t3, t4, t5, t6])
  clear hW1 hN1 h
  subst hen
  have e0 : (3 : Int) = 3 := rfl
  clear e0
  obtain ⟨q, hq⟩ : ∃ q, bkB 3 bk = q := ⟨_, rfl⟩
  have hq2 : wthB bk 1 16 = q := by rw [← hq]; unfold bkB; rw [if_pos rfl]
  have HQ := Lib.hid hq
  clear hq
  go_enter Tryz.func83, Tryz.ntmps83
  go_upto_region 1 with (fail)
  rw [← HW1.out]
  go_upto_region 5 with (first | (go_at_call 98; refine (within_any _ _ _ _).mono ?_; rintro e w' ⟨rfl, dW, rfl⟩) | (go_at_call 99; refine (HD.out _ (HN1.out.trans (nwa))).mono ?_; rintro e w' ⟨rfl, dW, rfl⟩))
  clear hq2
  go_wp2
  go_loopw [4, 18] (fun a b wr => ∃ (i : Nat) (L : Int), i ≤ 6 ∧ a = .int .i64 L ∧ b = .int .i64 i ∧ 0 ≤ L ∧ L ≤ 1024 ∧ Hid (twB 1024 [t1, t2, t3, t4, t5, t6] = twB L ([t1, t2, t3, t4, t5, t6].drop i)) ∧ Nw W1 wr) (fun _ b _ => 6 - (intOf b).toNat)
  case atStart => exact ⟨0, 1024, by omega, rfl, rfl, by omega, by omega, rfl, ⟨_, rfl⟩⟩
  case round =>
    obtain ⟨i, L, hi, rfl, rfl, hL0, hL1, hT, d, rfl⟩ := hrel
    rcases (by omega : i = 0 ∨ i = 1 ∨ i = 2 ∨ i = 3 ∨ i = 4 ∨ i = 5 ∨ i = 6) with hz | rfl | rfl | rfl | rfl | rfl | rfl
    · have hiI : (i : Int) = 0 := by omega
      have hT2 : twB 1024 [t1, t2, t3, t4, t5, t6] = if 0 ≤ t1 ∧ t1 ≤ L then twB (L - t1) [t2, t3, t4, t5, t6] else false := by have := hT.out; rw [hz] at this; rw [this]; exact twB_step
      have hz2 := Lib.hid hz
      clear hz
      have HT2 := Lib.hid hT2
      clear hT2 hT
      by_cases hb : 0 ≤ t1
      · have d1 : decide (t1 < 0) = false := by simp; omega
        by_cases hb2 : t1 ≤ L
        · have d2 : decide (L < t1) = false := by simp; omega
          go_wp2
          exact ⟨⟨1, L - t1, by omega, by go_num, rfl, by omega, by omega, (by rw [HT2.out, if_pos ⟨hb, hb2⟩]; rfl : twB 1024 [t1, t2, t3, t4, t5, t6] = _), ⟨_, rfl⟩⟩, by simp [intOf, hz2.out]⟩
        · have d2 : decide (L < t1) = true := by simp; omega
          go_wp2
          go_ret
          exact ⟨ret_int (by have hn : ¬ (0 ≤ t1 ∧ t1 ≤ L) := (by omega); unfold chkC cfgB; simp only; rw [HT2.out, if_neg hn]; simp), HN1.out.trans (nwa)⟩
      · have d1 : decide (t1 < 0) = true := by simp; omega
        go_wp2
        go_ret
        exact ⟨ret_int (by have hn : ¬ (0 ≤ t1 ∧ t1 ≤ L) := (by omega); unfold chkC cfgB; simp only; rw [HT2.out, if_neg hn]; simp), HN1.out.trans (nwa)⟩
    · have hT2 : twB 1024 [t1, t2, t3, t4, t5, t6] = if 0 ≤ t2 ∧ t2 ≤ L then twB (L - t2) [t3, t4, t5, t6] else false := by rw [hT.out]; exact twB_step
      have HT2 := Lib.hid hT2
      clear hT2 hT
      by_cases hb : 0 ≤ t2
      · have d1 : decide (t2 < 0) = false := by simp; omega
        by_cases hb2 : t2 ≤ L
        · have d2 : decide (L < t2) = false := by simp; omega
          go_wp2
          exact ⟨⟨2, L - t2, by omega, by go_num, rfl, by omega, by omega, (by rw [HT2.out, if_pos ⟨hb, hb2⟩]; rfl : twB 1024 [t1, t2, t3, t4, t5, t6] = _), ⟨_, rfl⟩⟩, by simp [intOf]⟩
        · have d2 : decide (L < t2) = true := by simp; omega
          go_wp2
          go_ret
          exact ⟨ret_int (by have hn : ¬ (0 ≤ t2 ∧ t2 ≤ L) := (by omega); unfold chkC cfgB; simp only; rw [HT2.out, if_neg hn]; simp), HN1.out.trans (nwa)⟩
      · have d1 : decide (t2 < 0) = true := by simp; omega
        go_wp2
        go_ret
        exact ⟨ret_int (by have hn : ¬ (0 ≤ t2 ∧ t2 ≤ L) := (by omega); unfold chkC cfgB; simp only; rw [HT2.out, if_neg hn]; simp), HN1.out.trans (nwa)⟩
    · have hT2 : twB 1024 [t1, t2, t3, t4, t5, t6] = if 0 ≤ t3 ∧ t3 ≤ L then twB (L - t3) [t4, t5, t6] else false := by rw [hT.out]; exact twB_step
      have HT2 := Lib.hid hT2
      clear hT2 hT
      by_cases hb : 0 ≤ t3
      · have d1 : decide (t3 < 0) = false := by simp; omega
        by_cases hb2 : t3 ≤ L
        · have d2 : decide (L < t3) = false := by simp; omega
          go_wp2
          exact ⟨⟨3, L - t3, by omega, by go_num, rfl, by omega, by omega, (by rw [HT2.out, if_pos ⟨hb, hb2⟩]; rfl : twB 1024 [t1, t2, t3, t4, t5, t6] = _), ⟨_, rfl⟩⟩, by simp [intOf]⟩
        · have d2 : decide (L < t3) = true := by simp; omega
          go_wp2
          go_ret
          exact ⟨ret_int (by have hn : ¬ (0 ≤ t3 ∧ t3 ≤ L) := (by omega); unfold chkC cfgB; simp only; rw [HT2.out, if_neg hn]; simp), HN1.out.trans (nwa)⟩
      · have d1 : decide (t3 < 0) = true := by simp; omega
        go_wp2
        go_ret
        exact ⟨ret_int (by have hn : ¬ (0 ≤ t3 ∧ t3 ≤ L) := (by omega); unfold chkC cfgB; simp only; rw [HT2.out, if_neg hn]; simp), HN1.out.trans (nwa)⟩
    · have hT2 : twB 1024 [t1, t2, t3, t4, t5, t6] = if 0 ≤ t4 ∧ t4 ≤ L then twB (L - t4) [t5, t6] else false := by rw [hT.out]; exact twB_step
      have HT2 := Lib.hid hT2
      clear hT2 hT
      by_cases hb : 0 ≤ t4
      · have d1 : decide (t4 < 0) = false := by simp; omega
        by_cases hb2 : t4 ≤ L
        · have d2 : decide (L < t4) = false := by simp; omega
          go_wp2
          exact ⟨⟨4, L - t4, by omega, by go_num, rfl, by omega, by omega, (by rw [HT2.out, if_pos ⟨hb, hb2⟩]; rfl : twB 1024 [t1, t2, t3, t4, t5, t6] = _), ⟨_, rfl⟩⟩, by simp [intOf]⟩
        · have d2 : decide (L < t4) = true := by simp; omega
          go_wp2
          go_ret
          exact ⟨ret_int (by have hn : ¬ (0 ≤ t4 ∧ t4 ≤ L) := (by omega); unfold chkC cfgB; simp only; rw [HT2.out, if_neg hn]; simp), HN1.out.trans (nwa)⟩
      · have d1 : decide (t4 < 0) = true := by simp; omega
        go_wp2
        go_ret
        exact ⟨ret_int (by have hn : ¬ (0 ≤ t4 ∧ t4 ≤ L) := (by omega); unfold chkC cfgB; simp only; rw [HT2.out, if_neg hn]; simp), HN1.out.trans (nwa)⟩
    · have hT2 : twB 1024 [t1, t2, t3, t4, t5, t6] = if 0 ≤ t5 ∧ t5 ≤ L then twB (L - t5) [t6] else false := by rw [hT.out]; exact twB_step
      have HT2 := Lib.hid hT2
      clear hT2 hT
      by_cases hb : 0 ≤ t5
      · have d1 : decide (t5 < 0) = false := by simp; omega
        by_cases hb2 : t5 ≤ L
        · have d2 : decide (L < t5) = false := by simp; omega
          go_wp2
          exact ⟨⟨5, L - t5, by omega, by go_num, rfl, by omega, by omega, (by rw [HT2.out, if_pos ⟨hb, hb2⟩]; rfl : twB 1024 [t1, t2, t3, t4, t5, t6] = _), ⟨_, rfl⟩⟩, by simp [intOf]⟩
        · have d2 : decide (L < t5) = true := by simp; omega
          go_wp2
          go_ret
          exact ⟨ret_int (by have hn : ¬ (0 ≤ t5 ∧ t5 ≤ L) := (by omega); unfold chkC cfgB; simp only; rw [HT2.out, if_neg hn]; simp), HN1.out.trans (nwa)⟩
      · have d1 : decide (t5 < 0) = true := by simp; omega
        go_wp2
        go_ret
        exact ⟨ret_int (by have hn : ¬ (0 ≤ t5 ∧ t5 ≤ L) := (by omega); unfold chkC cfgB; simp only; rw [HT2.out, if_neg hn]; simp), HN1.out.trans (nwa)⟩
    · have hT2 : twB 1024 [t1, t2, t3, t4, t5, t6] = if 0 ≤ t6 ∧ t6 ≤ L then twB (L - t6) [] else false := by rw [hT.out]; exact twB_step
      have HT2 := Lib.hid hT2
      clear hT2 hT
      by_cases hb : 0 ≤ t6
      · have d1 : decide (t6 < 0) = false := by simp; omega
        by_cases hb2 : t6 ≤ L
        · have d2 : decide (L < t6) = false := by simp; omega
          go_wp2
          exact ⟨⟨6, L - t6, by omega, by go_num, rfl, by omega, by omega, (by rw [HT2.out, if_pos ⟨hb, hb2⟩]; rfl : twB 1024 [t1, t2, t3, t4, t5, t6] = _), ⟨_, rfl⟩⟩, by simp [intOf]⟩
        · have d2 : decide (L < t6) = true := by simp; omega
          go_wp2
          go_ret
          exact ⟨ret_int (by have hn : ¬ (0 ≤ t6 ∧ t6 ≤ L) := (by omega); unfold chkC cfgB; simp only; rw [HT2.out, if_neg hn]; simp), HN1.out.trans (nwa)⟩
      · have d1 : decide (t6 < 0) = true := by simp; omega
        go_wp2
        go_ret
        exact ⟨ret_int (by have hn : ¬ (0 ≤ t6 ∧ t6 ≤ L) := (by omega); unfold chkC cfgB; simp only; rw [HT2.out, if_neg hn]; simp), HN1.out.trans (nwa)⟩
    · have hTT : twB 1024 [t1, t2, t3, t4, t5, t6] = true := hT.out
      have HTT := Lib.hid hTT
      clear hTT hT HT
      rcases Bool.eq_false_or_eq_true (wthB thr 1 64) with p1 | p1
      rotate_left
      · skip
        go_wp2_with (first | (go_at_call 98; refine (within_any _ _ _ _).mono ?_; rintro e w' ⟨rfl, dW, rfl⟩) | (go_at_call 99; refine (HD.out _ (HN1.out.trans (nwa))).mono ?_; rintro e w' ⟨rfl, dW, rfl⟩))
        go_ret
        exact ⟨ret_int (by unfold chkC cfgB; simp only; rw [HTT.out]; simp [p1]), HN1.out.trans (nwa)⟩
      rcases Bool.eq_false_or_eq_true (wthB sl 1 64) with p2 | p2
      rotate_left
      · skip
        go_wp2_with (first | (go_at_call 98; refine (within_any _ _ _ _).mono ?_; rintro e w' ⟨rfl, dW, rfl⟩) | (go_at_call 99; refine (HD.out _ (HN1.out.trans (nwa))).mono ?_; rintro e w' ⟨rfl, dW, rfl⟩))
        go_ret
        exact ⟨ret_int (by unfold chkC cfgB; simp only; rw [HTT.out]; simp [p1, p2]), HN1.out.trans (nwa)⟩
      rcases Bool.eq_false_or_eq_true q with p5 | p5
      rotate_left
      · subst p5
        go_wp2_with (first | (go_at_call 98; refine (within_any _ _ _ _).mono ?_; rintro e w' ⟨rfl, dW, rfl⟩) | (go_at_call 99; refine (HD.out _ (HN1.out.trans (nwa))).mono ?_; rintro e w' ⟨rfl, dW, rfl⟩))
        go_ret
        exact ⟨ret_int (by unfold chkC cfgB; simp only; rw [HTT.out]; simp [p1, p2, HQ.out]), HN1.out.trans (nwa)⟩
      subst p5
      rcases Bool.eq_false_or_eq_true (domB dk dn cuts) with p6 | p6
      rotate_left
      · have p6c : chkD dk dn cuts = 2 := domB_chk p6
        have H6 := Lib.hid p6
        clear p6
        go_wp2_with (first | (go_at_call 98; refine (within_any _ _ _ _).mono ?_; rintro e w' ⟨rfl, dW, rfl⟩) | (go_at_call 99; refine (HD.out _ (HN1.out.trans (nwa))).mono ?_; rintro e w' ⟨rfl, dW, rfl⟩))
        go_ret
        exact ⟨ret_int (by unfold chkC cfgB; simp only; rw [HTT.out]; simp [p1, p2, HQ.out, H6.out]), HN1.out.trans (nwa)⟩
      have p6c : chkD dk dn cuts = 0 := domB_chk p6
      have H6 := Lib.hid p6
      clear p6
      rcases Bool.eq_false_or_eq_true (wthB lk 1 16) with p7 | p7
      rotate_left
      · skip
        go_wp2_with (first | (go_at_call 98; refine (within_any _ _ _ _).mono ?_; rintro e w' ⟨rfl, dW, rfl⟩) | (go_at_call 99; refine (HD.out _ (HN1.out.trans (nwa))).mono ?_; rintro e w' ⟨rfl, dW, rfl⟩))
        go_ret
        exact ⟨ret_int (by unfold chkC cfgB; simp only; rw [HTT.out]; simp [p1, p2, HQ.out, H6.out, p7]), HN1.out.trans (nwa)⟩
      rcases Bool.eq_false_or_eq_true (wthB tr 1 255) with p8 | p8
      rotate_left
      · skip
        go_wp2_with (first | (go_at_call 98; refine (within_any _ _ _ _).mono ?_; rintro e w' ⟨rfl, dW, rfl⟩) | (go_at_call 99; refine (HD.out _ (HN1.out.trans (nwa))).mono ?_; rintro e w' ⟨rfl, dW, rfl⟩))
        go_ret
        exact ⟨ret_int (by unfold chkC cfgB; simp only; rw [HTT.out]; simp [p1, p2, HQ.out, H6.out, p7, p8]), HN1.out.trans (nwa)⟩
      rcases Bool.eq_false_or_eq_true (wthB ba 0 64) with p9 | p9
      rotate_left
      · skip
        go_wp2_with (first | (go_at_call 98; refine (within_any _ _ _ _).mono ?_; rintro e w' ⟨rfl, dW, rfl⟩) | (go_at_call 99; refine (HD.out _ (HN1.out.trans (nwa))).mono ?_; rintro e w' ⟨rfl, dW, rfl⟩))
        go_ret
        exact ⟨ret_int (by unfold chkC cfgB; simp only; rw [HTT.out]; simp [p1, p2, HQ.out, H6.out, p7, p8, p9]), HN1.out.trans (nwa)⟩
      go_wp2_with (first | (go_at_call 98; refine (within_any _ _ _ _).mono ?_; rintro e w' ⟨rfl, dW, rfl⟩) | (go_at_call 99; refine (HD.out _ (HN1.out.trans (nwa))).mono ?_; rintro e w' ⟨rfl, dW, rfl⟩))
      go_ret
      exact ⟨ret_int (by unfold chkC cfgB; simp only; rw [HTT.out]; simp [p1, p2, HQ.out, H6.out, p7, p8, p9]), HN1.out.trans (nwa)⟩
set_option maxRecDepth 20000 in
set_option maxHeartbeats 16000000 in
theorem layout_anyN (c : Cf) (cuts : List Nat) (w : World) (h : Rd w 1 c.cA cuts.length (nums cuts)) (hcn : c.cn = cuts.length) (hen : c.eng ≠ 3) (hcr : 0 ≤ c.eng ∧ c.eng < 256) :
    Calls Tryz.prog 83 #[confV c] w fun e w' => e = .returned (.int .i64 (chkC c cuts)) ∧ Nw w w' := by
  obtain ⟨thr, sl, eng, bk, dk, dn, A, cn, cc, t1, t2, t3, t4, t5, t6, lk, tr, ba⟩ := c
  simp only at hcn hen hcr
  subst hcn
  unfold confV
  simp only
  obtain ⟨W1, hW1⟩ : ∃ W1, W1 = w.alloc (.cells #[.int .i64 thr, .int .i64 sl, .int .u8 eng, .int .i64 bk, .int .u8 dk, .int .i64 dn, .slice A cuts.length cc, .int .i64 t1, .int .i64 t2, .int .i64 t3, .int .i64 t4, .int .i64 t5, .int .i64 t6, .int .i64 lk, .int .i64 tr, .int .i64 ba] 27) := ⟨_, rfl⟩
  have hN1 : Nw w W1 := by rw [hW1]; exact nwa
  have b0 : W1.cell? ⟨w.heap.size, 0, none⟩ = some (.int .i64 thr) := by rw [hW1]; simp [go_sem]
  have b1 : W1.cell? ⟨w.heap.size, 1, none⟩ = some (.int .i64 sl) := by rw [hW1]; simp [go_sem]
  have b2 : W1.cell? ⟨w.heap.size, 2, none⟩ = some (.int .u8 eng) := by rw [hW1]; simp [go_sem]
  have b3 : W1.cell? ⟨w.heap.size, 3, none⟩ = some (.int .i64 bk) := by rw [hW1]; simp [go_sem]
  have b4 : W1.cell? ⟨w.heap.size, 4, none⟩ = some (.int .u8 dk) := by rw [hW1]; simp [go_sem]
  have b5 : W1.cell? ⟨w.heap.size, 5, none⟩ = some (.int .i64 dn) := by rw [hW1]; simp [go_sem]
  have b6 : W1.cell? ⟨w.heap.size, 6, none⟩ = some (.slice A cuts.length cc) := by rw [hW1]; simp [go_sem]
  have b7 : W1.cell? ⟨w.heap.size, 7, none⟩ = some (.int .i64 t1) := by rw [hW1]; simp [go_sem]
  have b8 : W1.cell? ⟨w.heap.size, 8, none⟩ = some (.int .i64 t2) := by rw [hW1]; simp [go_sem]
  have b9 : W1.cell? ⟨w.heap.size, 9, none⟩ = some (.int .i64 t3) := by rw [hW1]; simp [go_sem]
  have b10 : W1.cell? ⟨w.heap.size, 10, none⟩ = some (.int .i64 t4) := by rw [hW1]; simp [go_sem]
  have b11 : W1.cell? ⟨w.heap.size, 11, none⟩ = some (.int .i64 t5) := by rw [hW1]; simp [go_sem]
  have b12 : W1.cell? ⟨w.heap.size, 12, none⟩ = some (.int .i64 t6) := by rw [hW1]; simp [go_sem]
  have b13 : W1.cell? ⟨w.heap.size, 13, none⟩ = some (.int .i64 lk) := by rw [hW1]; simp [go_sem]
  have b14 : W1.cell? ⟨w.heap.size, 14, none⟩ = some (.int .i64 tr) := by rw [hW1]; simp [go_sem]
  have b15 : W1.cell? ⟨w.heap.size, 15, none⟩ = some (.int .i64 ba) := by rw [hW1]; simp [go_sem]
  have HW1 := Lib.hid hW1
  have HN1 := Lib.hid hN1
  have HD := Lib.hid (fun W (hw : Nw w W) => dcheck_any W dk dn A cuts cc (h.nw hw))
  haveI : In w.heap.size W1 := ⟨World.block_lt_of_cell? W1 _ b0⟩
  have HT := Lib.hid (rfl : twB 1024 [t1, t2, t3, t4, t5, t6] = twB 1024 [t1, t2, t3, t4, t5, t6])
  clear hW1 hN1 h
  have e1 : (eng == 3) = false := by simpa using hen
  obtain ⟨q, hq⟩ : ∃ q, bkB eng bk = q := ⟨_, rfl⟩
  have hq2 : (bk == 0) = q := by rw [← hq]; unfold bkB; rw [if_neg hen]; rfl
  have HEN := Lib.hid hen
  clear hen
  have HQ := Lib.hid hq
  clear hq
  go_enter Tryz.func83, Tryz.ntmps83
  go_upto_region 1 with (fail)
  rw [← HW1.out]
  go_upto_region 5 with (first | (go_at_call 98; refine (within_any _ _ _ _).mono ?_; rintro e w' ⟨rfl, dW, rfl⟩) | (go_at_call 99; refine (HD.out _ (HN1.out.trans (nwa))).mono ?_; rintro e w' ⟨rfl, dW, rfl⟩))
  clear hq2
  go_wp2
  go_loopw [4, 18] (fun a b wr => ∃ (i : Nat) (L : Int), i ≤ 6 ∧ a = .int .i64 L ∧ b = .int .i64 i ∧ 0 ≤ L ∧ L ≤ 1024 ∧ Hid (twB 1024 [t1, t2, t3, t4, t5, t6] = twB L ([t1, t2, t3, t4, t5, t6].drop i)) ∧ Nw W1 wr) (fun _ b _ => 6 - (intOf b).toNat)
  case atStart => exact ⟨0, 1024, by omega, rfl, rfl, by omega, by omega, rfl, Nw.refl _⟩
  case round =>
    obtain ⟨i, L, hi, rfl, rfl, hL0, hL1, hT, d, rfl⟩ := hrel
    rcases (by omega : i = 0 ∨ i = 1 ∨ i = 2 ∨ i = 3 ∨ i = 4 ∨ i = 5 ∨ i = 6) with hz | rfl | rfl | rfl | rfl | rfl | rfl
    · have hiI : (i : Int) = 0 := by omega
      have hT2 : twB 1024 [t1, t2, t3, t4, t5, t6] = if 0 ≤ t1 ∧ t1 ≤ L then twB (L - t1) [t2, t3, t4, t5, t6] else false := by have := hT.out; rw [hz] at this; rw [this]; exact twB_step
      have hz2 := Lib.hid hz
      clear hz
      have HT2 := Lib.hid hT2
      clear hT2 hT
      by_cases hb : 0 ≤ t1
      · have d1 : decide (t1 < 0) = false := by simp; omega
        by_cases hb2 : t1 ≤ L
        · have d2 : decide (L < t1) = false := by simp; omega
          go_wp2
          exact ⟨⟨1, L - t1, by omega, by go_num, rfl, by omega, by omega, (by rw [HT2.out, if_pos ⟨hb, hb2⟩]; rfl : twB 1024 [t1, t2, t3, t4, t5, t6] = _), ⟨_, rfl⟩⟩, by simp [intOf, hz2.out]⟩
        · have d2 : decide (L < t1) = true := by simp; omega
          go_wp2
          go_ret
          exact ⟨ret_int (by have hn : ¬ (0 ≤ t1 ∧ t1 ≤ L) := (by omega); unfold chkC cfgB; simp only; rw [HT2.out, if_neg hn]; simp), HN1.out.trans (nwa)⟩
      · have d1 : decide (t1 < 0) = true := by simp; omega
        go_wp2
        go_ret
        exact ⟨ret_int (by have hn : ¬ (0 ≤ t1 ∧ t1 ≤ L) := (by omega); unfold chkC cfgB; simp only; rw [HT2.out, if_neg hn]; simp), HN1.out.trans (nwa)⟩
    · have hT2 : twB 1024 [t1, t2, t3, t4, t5, t6] = if 0 ≤ t2 ∧ t2 ≤ L then twB (L - t2) [t3, t4, t5, t6] else false := by rw [hT.out]; exact twB_step
      have HT2 := Lib.hid hT2
      clear hT2 hT
      by_cases hb : 0 ≤ t2
      · have d1 : decide (t2 < 0) = false := by simp; omega
        by_cases hb2 : t2 ≤ L
        · have d2 : decide (L < t2) = false := by simp; omega
          go_wp2
          exact ⟨⟨2, L - t2, by omega, by go_num, rfl, by omega, by omega, (by rw [HT2.out, if_pos ⟨hb, hb2⟩]; rfl : twB 1024 [t1, t2, t3, t4, t5, t6] = _), ⟨_, rfl⟩⟩, by simp [intOf]⟩
        · have d2 : decide (L < t2) = true := by simp; omega
          go_wp2
          go_ret
          exact ⟨ret_int (by have hn : ¬ (0 ≤ t2 ∧ t2 ≤ L) := (by omega); unfold chkC cfgB; simp only; rw [HT2.out, if_neg hn]; simp), HN1.out.trans (nwa)⟩
      · have d1 : decide (t2 < 0) = true := by simp; omega
        go_wp2
        go_ret
        exact ⟨ret_int (by have hn : ¬ (0 ≤ t2 ∧ t2 ≤ L) := (by omega); unfold chkC cfgB; simp only; rw [HT2.out, if_neg hn]; simp), HN1.out.trans (nwa)⟩
    · have hT2 : twB 1024 [t1, t2, t3, t4, t5, t6] = if 0 ≤ t3 ∧ t3 ≤ L then twB (L - t3) [t4, t5, t6] else false := by rw [hT.out]; exact twB_step
      have HT2 := Lib.hid hT2
      clear hT2 hT
      by_cases hb : 0 ≤ t3
      · have d1 : decide (t3 < 0) = false := by simp; omega
        by_cases hb2 : t3 ≤ L
        · have d2 : decide (L < t3) = false := by simp; omega
          go_wp2
          exact ⟨⟨3, L - t3, by omega, by go_num, rfl, by omega, by omega, (by rw [HT2.out, if_pos ⟨hb, hb2⟩]; rfl : twB 1024 [t1, t2, t3, t4, t5, t6] = _), ⟨_, rfl⟩⟩, by simp [intOf]⟩
        · have d2 : decide (L < t3) = true := by simp; omega
          go_wp2
          go_ret
          exact ⟨ret_int (by have hn : ¬ (0 ≤ t3 ∧ t3 ≤ L) := (by omega); unfold chkC cfgB; simp only; rw [HT2.out, if_neg hn]; simp), HN1.out.trans (nwa)⟩
      · have d1 : decide (t3 < 0) = true := by simp; omega
        go_wp2
        go_ret
        exact ⟨ret_int (by have hn : ¬ (0 ≤ t3 ∧ t3 ≤ L) := (by omega); unfold chkC cfgB; simp only; rw [HT2.out, if_neg hn]; simp), HN1.out.trans (nwa)⟩
    · have hT2 : twB 1024 [t1, t2, t3, t4, t5, t6] = if 0 ≤ t4 ∧ t4 ≤ L then twB (L - t4) [t5, t6] else false := by rw [hT.out]; exact twB_step
      have HT2 := Lib.hid hT2
      clear hT2 hT
      by_cases hb : 0 ≤ t4
      · have d1 : decide (t4 < 0) = false := by simp; omega
        by_cases hb2 : t4 ≤ L
        · have d2 : decide (L < t4) = false := by simp; omega
          go_wp2
          exact ⟨⟨4, L - t4, by omega, by go_num, rfl, by omega, by omega, (by rw [HT2.out, if_pos ⟨hb, hb2⟩]; rfl : twB 1024 [t1, t2, t3, t4, t5, t6] = _), ⟨_, rfl⟩⟩, by simp [intOf]⟩
        · have d2 : decide (L < t4) = true := by simp; omega
          go_wp2
          go_ret
          exact ⟨ret_int (by have hn : ¬ (0 ≤ t4 ∧ t4 ≤ L) := (by omega); unfold chkC cfgB; simp only; rw [HT2.out, if_neg hn]; simp), HN1.out.trans (nwa)⟩
      · have d1 : decide (t4 < 0) = true := by simp; omega
        go_wp2
        go_ret
        exact ⟨ret_int (by have hn : ¬ (0 ≤ t4 ∧ t4 ≤ L) := (by omega); unfold chkC cfgB; simp only; rw [HT2.out, if_neg hn]; simp), HN1.out.trans (nwa)⟩
    · have hT2 : twB 1024 [t1, t2, t3, t4, t5, t6] = if 0 ≤ t5 ∧ t5 ≤ L then twB (L - t5) [t6] else false := by rw [hT.out]; exact twB_step
      have HT2 := Lib.hid hT2
      clear hT2 hT
      by_cases hb : 0 ≤ t5
      · have d1 : decide (t5 < 0) = false := by simp; omega
        by_cases hb2 : t5 ≤ L
        · have d2 : decide (L < t5) = false := by simp; omega
          go_wp2
          exact ⟨⟨5, L - t5, by omega, by go_num, rfl, by omega, by omega, (by rw [HT2.out, if_pos ⟨hb, hb2⟩]; rfl : twB 1024 [t1, t2, t3, t4, t5, t6] = _), ⟨_, rfl⟩⟩, by simp [intOf]⟩
        · have d2 : decide (L < t5) = true := by simp; omega
          go_wp2
          go_ret
          exact ⟨ret_int (by have hn : ¬ (0 ≤ t5 ∧ t5 ≤ L) := (by omega); unfold chkC cfgB; simp only; rw [HT2.out, if_neg hn]; simp), HN1.out.trans (nwa)⟩
      · have d1 : decide (t5 < 0) = true := by simp; omega
        go_wp2
        go_ret
        exact ⟨ret_int (by have hn : ¬ (0 ≤ t5 ∧ t5 ≤ L) := (by omega); unfold chkC cfgB; simp only; rw [HT2.out, if_neg hn]; simp), HN1.out.trans (nwa)⟩
    · have hT2 : twB 1024 [t1, t2, t3, t4, t5, t6] = if 0 ≤ t6 ∧ t6 ≤ L then twB (L - t6) [] else false := by rw [hT.out]; exact twB_step
      have HT2 := Lib.hid hT2
      clear hT2 hT
      by_cases hb : 0 ≤ t6
      · have d1 : decide (t6 < 0) = false := by simp; omega
        by_cases hb2 : t6 ≤ L
        · have d2 : decide (L < t6) = false := by simp; omega
          go_wp2
          exact ⟨⟨6, L - t6, by omega, by go_num, rfl, by omega, by omega, (by rw [HT2.out, if_pos ⟨hb, hb2⟩]; rfl : twB 1024 [t1, t2, t3, t4, t5, t6] = _), ⟨_, rfl⟩⟩, by simp [intOf]⟩
        · have d2 : decide (L < t6) = true := by simp; omega
          go_wp2
          go_ret
          exact ⟨ret_int (by have hn : ¬ (0 ≤ t6 ∧ t6 ≤ L) := (by omega); unfold chkC cfgB; simp only; rw [HT2.out, if_neg hn]; simp), HN1.out.trans (nwa)⟩
      · have d1 : decide (t6 < 0) = true := by simp; omega
        go_wp2
        go_ret
        exact ⟨ret_int (by have hn : ¬ (0 ≤ t6 ∧ t6 ≤ L) := (by omega); unfold chkC cfgB; simp only; rw [HT2.out, if_neg hn]; simp), HN1.out.trans (nwa)⟩
    · have hTT : twB 1024 [t1, t2, t3, t4, t5, t6] = true := hT.out
      have HTT := Lib.hid hTT
      clear hTT hT HT
      rcases Bool.eq_false_or_eq_true (wthB thr 1 64) with p1 | p1
      rotate_left
      · skip
        go_wp2_with (first | (go_at_call 98; refine (within_any _ _ _ _).mono ?_; rintro e w' ⟨rfl, dW, rfl⟩) | (go_at_call 99; refine (HD.out _ (HN1.out.trans (nwa))).mono ?_; rintro e w' ⟨rfl, dW, rfl⟩))
        go_ret
        exact ⟨ret_int (by unfold chkC cfgB; simp only; rw [HTT.out]; simp [p1]), HN1.out.trans (nwa)⟩
      rcases Bool.eq_false_or_eq_true (wthB sl 1 64) with p2 | p2
      rotate_left
      · skip
        go_wp2_with (first | (go_at_call 98; refine (within_any _ _ _ _).mono ?_; rintro e w' ⟨rfl, dW, rfl⟩) | (go_at_call 99; refine (HD.out _ (HN1.out.trans (nwa))).mono ?_; rintro e w' ⟨rfl, dW, rfl⟩))
        go_ret
        exact ⟨ret_int (by unfold chkC cfgB; simp only; rw [HTT.out]; simp [p1, p2]), HN1.out.trans (nwa)⟩
      rcases Bool.eq_false_or_eq_true (decide (1 ≤ eng)) with p3b | p3b
      rotate_left
      · have p3 : decide (eng < 1) = true := by simp at p3b ⊢; omega
        have p3c : ¬ 1 ≤ eng := by simpa using p3b
        go_wp2_with (first | (go_at_call 98; refine (within_any _ _ _ _).mono ?_; rintro e w' ⟨rfl, dW, rfl⟩) | (go_at_call 99; refine (HD.out _ (HN1.out.trans (nwa))).mono ?_; rintro e w' ⟨rfl, dW, rfl⟩))
        go_ret
        exact ⟨ret_int (by unfold chkC cfgB; simp only; rw [HTT.out]; simp [p1, p2, p3b]), HN1.out.trans (nwa)⟩
      have p3 : decide (eng < 1) = false := by simp at p3b ⊢; omega
      rcases Bool.eq_false_or_eq_true (decide (eng ≤ 3)) with p4b | p4b
      rotate_left
      · have p4 : decide (3 < eng) = true := by simp at p4b ⊢; omega
        have p4c : ¬ eng ≤ 3 := by simpa using p4b
        go_wp2_with (first | (go_at_call 98; refine (within_any _ _ _ _).mono ?_; rintro e w' ⟨rfl, dW, rfl⟩) | (go_at_call 99; refine (HD.out _ (HN1.out.trans (nwa))).mono ?_; rintro e w' ⟨rfl, dW, rfl⟩))
        go_ret
        exact ⟨ret_int (by unfold chkC cfgB; simp only; rw [HTT.out]; simp [p1, p2, p3b, p4b]), HN1.out.trans (nwa)⟩
      have p4 : decide (3 < eng) = false := by simp at p4b ⊢; omega
      rcases Bool.eq_false_or_eq_true q with p5 | p5
      rotate_left
      · subst p5
        go_wp2_with (first | (go_at_call 98; refine (within_any _ _ _ _).mono ?_; rintro e w' ⟨rfl, dW, rfl⟩) | (go_at_call 99; refine (HD.out _ (HN1.out.trans (nwa))).mono ?_; rintro e w' ⟨rfl, dW, rfl⟩))
        go_ret
        exact ⟨ret_int (by unfold chkC cfgB; simp only; rw [HTT.out]; simp [p1, p2, p3b, p4b, HQ.out]), HN1.out.trans (nwa)⟩
      subst p5
      rcases Bool.eq_false_or_eq_true (domB dk dn cuts) with p6 | p6
      rotate_left
      · have p6c : chkD dk dn cuts = 2 := domB_chk p6
        have H6 := Lib.hid p6
        clear p6
        go_wp2_with (first | (go_at_call 98; refine (within_any _ _ _ _).mono ?_; rintro e w' ⟨rfl, dW, rfl⟩) | (go_at_call 99; refine (HD.out _ (HN1.out.trans (nwa))).mono ?_; rintro e w' ⟨rfl, dW, rfl⟩))
        go_ret
        exact ⟨ret_int (by unfold chkC cfgB; simp only; rw [HTT.out]; simp [p1, p2, p3b, p4b, HQ.out, H6.out]), HN1.out.trans (nwa)⟩
      have p6c : chkD dk dn cuts = 0 := domB_chk p6
      have H6 := Lib.hid p6
      clear p6
      rcases Bool.eq_false_or_eq_true (wthB lk 1 16) with p7 | p7
      rotate_left
      · skip
        go_wp2_with (first | (go_at_call 98; refine (within_any _ _ _ _).mono ?_; rintro e w' ⟨rfl, dW, rfl⟩) | (go_at_call 99; refine (HD.out _ (HN1.out.trans (nwa))).mono ?_; rintro e w' ⟨rfl, dW, rfl⟩))
        go_ret
        exact ⟨ret_int (by unfold chkC cfgB; simp only; rw [HTT.out]; simp [p1, p2, p3b, p4b, HQ.out, H6.out, p7]), HN1.out.trans (nwa)⟩
      rcases Bool.eq_false_or_eq_true (wthB tr 1 255) with p8 | p8
      rotate_left
      · skip
        go_wp2_with (first | (go_at_call 98; refine (within_any _ _ _ _).mono ?_; rintro e w' ⟨rfl, dW, rfl⟩) | (go_at_call 99; refine (HD.out _ (HN1.out.trans (nwa))).mono ?_; rintro e w' ⟨rfl, dW, rfl⟩))
        go_ret
        exact ⟨ret_int (by unfold chkC cfgB; simp only; rw [HTT.out]; simp [p1, p2, p3b, p4b, HQ.out, H6.out, p7, p8]), HN1.out.trans (nwa)⟩
      rcases Bool.eq_false_or_eq_true (wthB ba 0 64) with p9 | p9
      rotate_left
      · skip
        go_wp2_with (first | (go_at_call 98; refine (within_any _ _ _ _).mono ?_; rintro e w' ⟨rfl, dW, rfl⟩) | (go_at_call 99; refine (HD.out _ (HN1.out.trans (nwa))).mono ?_; rintro e w' ⟨rfl, dW, rfl⟩))
        go_ret
        exact ⟨ret_int (by unfold chkC cfgB; simp only; rw [HTT.out]; simp [p1, p2, p3b, p4b, HQ.out, H6.out, p7, p8, p9]), HN1.out.trans (nwa)⟩
      go_wp2_with (first | (go_at_call 98; refine (within_any _ _ _ _).mono ?_; rintro e w' ⟨rfl, dW, rfl⟩) | (go_at_call 99; refine (HD.out _ (HN1.out.trans (nwa))).mono ?_; rintro e w' ⟨rfl, dW, rfl⟩))
      go_ret
      exact ⟨ret_int (by unfold chkC cfgB; simp only; rw [HTT.out]; simp [p1, p2, p3b, p4b, HQ.out, H6.out, p7, p8, p9]), HN1.out.trans (nwa)⟩
theorem layout_all (c : Cf) (cuts : List Nat) (w : World) (h : Rd w 1 c.cA cuts.length (nums cuts)) (hcn : c.cn = cuts.length) (hcr : 0 ≤ c.eng ∧ c.eng < 256) :
    Calls Tryz.prog 83 #[confV c] w fun e w' => e = .returned (.int .i64 (chkC c cuts)) ∧ Nw w w' := by
  by_cases he : c.eng = 3
  · exact layout_any3 c cuts w h hcn he hcr
  · exact layout_anyN c cuts w h hcn he hcr
end Go.Proofs.YtkikdpdainmlcaaGreat
namespace Go.Proofs.YtkikdpdainmlcaaGreat
open Go.RowKit Go.Xt
theorem wthB_iff {n a b : Int} : wthB n a b = true ↔ a ≤ n ∧ n ≤ b := by unfold wthB; simp
theorem cfgB_iff {c : Cf} {cuts : List Nat} : cfgB c cuts = true ↔ twB 1024 [c.t1, c.t2, c.t3, c.t4, c.t5, c.t6] = true ∧ (1 ≤ c.thr ∧ c.thr ≤ 64) ∧ (1 ≤ c.sl ∧ c.sl ≤ 64) ∧ 1 ≤ c.eng ∧ c.eng ≤ 3 ∧ bkB c.eng c.bk = true ∧ domB c.dk c.dn cuts = true ∧ (1 ≤ c.lk ∧ c.lk ≤ 16) ∧ (1 ≤ c.tr ∧ c.tr ≤ 255) ∧ 0 ≤ c.ba ∧ c.ba ≤ 64 := by
  unfold cfgB
  simp only [Bool.and_eq_true, wthB_iff, decide_eq_true_eq]
end Go.Proofs.YtkikdpdainmlcaaGreat
namespace Go.Proofs.YtkikdpdainmlcaaGreat
open Go.RowKit Go.Xt
theorem flat_mod {cs : List Value} {k : Nat} (hk : cs.length = k) : ∀ (n i : Nat), i < n * k → ((List.replicate n cs).flatten)[i]? = cs[i % k]?
  | 0, i, h => by omega
  | n + 1, i, h => by
    rw [List.replicate_succ, List.flatten_cons]
    by_cases hi : i < k
    · rw [List.getElem?_append_left (by omega), Nat.mod_eq_of_lt hi]
    · rw [List.getElem?_append_right (by omega), hk, flat_mod hk n (i - k) (by rw [Nat.add_mul] at h; omega), ← Nat.mod_eq_sub_mod (by omega)]
theorem flat_rep_len (cs : List Value) (n : Nat) : ((List.replicate n cs).flatten).length = n * cs.length := by
  induction n with
  | zero => simp
  | succ n ih => rw [List.replicate_succ, List.flatten_cons, List.length_append, ih, Nat.add_mul]; omega
theorem made_flat {cs : List Value} {k : Nat} (hk : cs.length = k) (h0 : 0 < k) (n : Nat) : (madeCells cs.toArray (n * k)).toList = (List.replicate n cs).flatten := by
  apply List.ext_getElem?
  intro i
  by_cases hi : i < n * k
  · rw [flat_mod hk n i hi]
    have hm : i % k < k := Nat.mod_lt _ h0
    simp [madeCells, hi, hk, hm]
  · rw [List.getElem?_eq_none (by simp [size_madeCells]; omega), List.getElem?_eq_none (by rw [flat_rep_len, hk]; omega)]
theorem tcells_rep (n : Nat) : (List.replicate n [Value.bool false, .bool false, .int .u64 0, .int .u64 0, .bool false]).flatten = tcells (List.replicate n Th0) := by
  induction n with
  | zero => rfl
  | succ n ih => rw [List.replicate_succ, List.flatten_cons, ih, List.replicate_succ]; rfl
theorem tmade (n : Nat) : (madeCells (Value.agg #[.bool false, .bool false, .int .u64 0, .int .u64 0, .bool false]).cells (n * 5)).toList = tcells (List.replicate n Th0) := by
  rw [← tcells_rep, ← made_flat (k := 5) rfl (by decide)]; rfl
def cellsOf (c : Cf) (t : TypeId) : Obj := .cells #[.int .i64 c.thr, .int .i64 c.sl, .int .u8 c.eng, .int .i64 c.bk, .int .u8 c.dk, .int .i64 c.dn, .slice c.cA c.cn c.cc, .int .i64 c.t1, .int .i64 c.t2, .int .i64 c.t3, .int .i64 c.t4, .int .i64 c.t5, .int .i64 c.t6, .int .i64 c.lk, .int .i64 c.tr, .int .i64 c.ba] t
set_option maxRecDepth 20000 in
set_option maxHeartbeats 8000000 in
theorem new_no (c : Cf) (cuts : List Nat) (w : World) (h : Rd w 1 c.cA cuts.length (nums cuts)) (hcn : c.cn = cuts.length) (hcr : 0 ≤ c.eng ∧ c.eng < 256) (hno : chkC c cuts = 2) :
    Calls Tryz.prog 73 #[confV c] w fun e w' => e = .returned (.tuple #[.pointer none, .int .i64 2]) ∧ Nw w w' := by
  have HL := Lib.hid (fun W (hw : Nw w W) => layout_all c cuts W (h.nw hw) hcn hcr)
  rw [hno] at HL
  clear h hcn hcr hno
  unfold confV at HL ⊢
  go_enter Tryz.func73, Tryz.ntmps73
  go_wp2_with fail
  refine (HL.out _ (nwa)).mono ?_
  rintro e w' ⟨rfl, dW, rfl⟩
  go_wp2
  go_ret2
  exact ⟨rfl, nwa⟩
def NewP (w : World) (sl : Int) (n : Nat) (e : Ending) (w' : World) : Prop := ∃ p : Pl, e = .returned (.tuple #[.pointer (some ⟨p.gm, 0, none⟩), .int .i64 0]) ∧ MAt w' p ⟨sl, [], List.replicate n Th0⟩ ∧ (∀ g ∈ p.foot, w.heap.size ≤ g) ∧ Nw w w'
set_option maxRecDepth 20000 in
set_option maxHeartbeats 8000000 in
theorem new_yes (c : Cf) (cuts : List Nat) (n : Nat) (w : World) (h : Rd w 1 c.cA cuts.length (nums cuts)) (hcn : c.cn = cuts.length) (hcr : 0 ≤ c.eng ∧ c.eng < 256) (hyes : chkC c cuts = 0) (hthr : c.thr = n) (hn : 1 ≤ n ∧ n ≤ 64) :
    Calls Tryz.prog 73 #[confV c] w (NewP w c.sl n) := by
  have HL := Lib.hid (fun W (hw : Nw w W) => layout_all c cuts W (h.nw hw) hcn hcr)
  rw [hyes] at HL
  have HNn := Lib.hid hn
  obtain ⟨thr, s, eng, bk, dk, dn, A, cn, cc, t1, t2, t3, t4, t5, t6, lk, tr, ba⟩ := c
  simp only at hthr
  subst hthr
  unfold confV at HL ⊢
  simp only at HL ⊢
  clear h hcn hcr hyes
  obtain ⟨cs, hcs⟩ : ∃ cs : Array Value, cs = #[.int .i64 (n : Int), .int .i64 s, .int .u8 eng, .int .i64 bk, .int .u8 dk, .int .i64 dn, .slice A cn cc, .int .i64 t1, .int .i64 t2, .int .i64 t3, .int .i64 t4, .int .i64 t5, .int .i64 t6, .int .i64 lk, .int .i64 tr, .int .i64 ba] := ⟨_, rfl⟩
  go_enter Tryz.func73, Tryz.ntmps73
  go_wp2_with fail
  refine (HL.out _ (nwa)).mono ?_
  rintro e w' ⟨rfl, dW, rfl⟩
  go_wp2_with fail
  refine (omapnew_any _).mono ?_
  rintro e w' ⟨rfl, rfl⟩
  go_upto_region 7 with (fail)
  simp only [← hcs]
  obtain ⟨gp, hgp⟩ : ∃ g, g = ((w.alloc (.cells cs 27)).ext none dW).heap.size := ⟨_, rfl⟩
  obtain ⟨W2, hW2⟩ : ∃ W2, W2 = ((w.alloc (.cells cs 27)).ext none dW).alloc (.cells #[.slice none 0 0] 154) := ⟨_, rfl⟩
  rw [← hgp, ← hW2]
  have hn2 : Nw w W2 := by rw [hW2]; exact nwa
  have c0 : W2.cell? ⟨w.heap.size, 0, none⟩ = some (.int .i64 n) := by rw [hW2, hcs]; simp [go_sem]
  have c1 : W2.cell? ⟨w.heap.size, 1, none⟩ = some (.int .i64 s) := by rw [hW2, hcs]; simp [go_sem]
  have cp : W2.cell? ⟨gp, 0, none⟩ = some (.slice none 0 0) := by rw [hW2, hgp]; simp [go_sem]
  have cz : W2.frozen? ⟨gp, 0, none⟩ = false := by rw [hW2, hgp]; simp [go_sem]
  have hb1 : w.heap.size < gp := by
    have h := le_size (w.alloc (.cells cs 27)) none dW
    rw [← hgp] at h
    simp at h; omega
  have hb2 : W2.heap.size = gp + 1 := by rw [hW2, hgp]; simp
  have HN2 := Lib.hid hn2
  have HCP := Lib.hid cp
  have HCZ := Lib.hid cz
  have HB1 := Lib.hid hb1
  have HB2 := Lib.hid hb2
  obtain ⟨i, hi1, hz0, hz1, hz2⟩ := info_parts thInfo
  obtain ⟨W3, hmk, hown, hgr⟩ := run_make_full W2.drew W2.heap.size 136 175 i (.agg #[.bool false, .bool false, .int .u64 0, .int .u64 0, .bool false]) 5 Tryz.underlying136 hi1 hz0 hz1 .i64 .i64 n (by rw [hz2]; omega) (by unfold maxLen; omega) (Nat.le_refl _)
  rw [tmade n] at hown
  have hd0 : W2.drew.heap.size = W2.heap.size := rfl
  rw [hd0] at hmk hown
  have hn3 : Nw W2 W3 := Nw.trans (Nw.drew (Nw.refl _)) (.of hgr)
  have e0 : W3.cell? ⟨w.heap.size, 0, none⟩ = some (.int .i64 n) := cell_nw c0 hn3
  have e1 : W3.cell? ⟨w.heap.size, 1, none⟩ = some (.int .i64 s) := cell_nw c1 hn3
  obtain ⟨gt, hgt⟩ : ∃ g, g = W2.heap.size := ⟨_, rfl⟩
  rw [← hgt] at hmk hown
  have HOW := Lib.hid hown
  have HN3 := Lib.hid hn3
  have HGT := Lib.hid hgt
  clear hW2 hgp hn2 cp cz hb1 hb2 hi1 hz0 hz1 hz2 hgr hown hn3 hgt hd0 hn hcs
  go_region
  go_wp2
  have hs2 := HN2.out.grown.size
  have hs3 := HN3.out.grown.size
  have hgt2 : gt < W3.heap.size := by
    rcases own_forms HOW.out with ⟨_, h0⟩ | ⟨g, cap, hv, _, hin, _, _⟩
    · have := HNn.out; omega
    · injection hv with hv; injection hv with hv; injection hv with hv; rw [hv]; exact hin.lt
  have hA : Nw W3 (W3.alloc (.cells #[.int .i64 s, .pointer (some ⟨gp, 0, none⟩), .slice (some ⟨gt, 0, none⟩) n n] 138)) := (Nw.refl _).alloc _
  have hz : (W3.alloc (.cells #[.int .i64 s, .pointer (some ⟨gp, 0, none⟩), .slice (some ⟨gt, 0, none⟩) n n] 138)).heap.size = W3.heap.size + 1 := by simp
  have hgp2 : gp < W2.heap.size := by have := HB2.out; omega
  have h1 := HB1.out
  have h2 := HB2.out
  have h3 := HGT.out
  refine bodyPost_ret (results_tmp2 rfl _ _ _) rfl ⟨⟨W3.heap.size, gt, gp, .slice none 0 0⟩, rfl, ⟨by simp [go_sem], by simp [go_sem], ⟨n, by simp [go_sem]⟩, fun o => by simp [go_sem], ?_, ⟨cell_nw HCP.out (HN3.out.trans hA), World.ownsRow_nil _ _ _ _, by simp [Value.ownBlock], (frozen_nw hgp2 (HN3.out.trans hA)).trans HCZ.out, List.Pairwise.nil⟩, by show W3.heap.size ≠ gt; omega, by show W3.heap.size ≠ gp; omega, by show gt ≠ gp; omega, by simp [Value.ownBlock], by simp [Value.ownBlock]⟩, ?_, (HN2.out.trans HN3.out).trans hA⟩
  · refine ⟨n, ?_⟩
    rw [List.length_replicate]
    exact own_le (own_nw HOW.out hA) (Nat.zero_le _)
  · intro g hg
    rcases Pl.mem.1 hg with h9 | h9 | h9 | h9
    · have h9 : g = W3.heap.size := h9; omega
    · have h9 : g = gt := h9; omega
    · have h9 : g = gp := h9; omega
    · cases h9
end Go.Proofs.YtkikdpdainmlcaaGreat
