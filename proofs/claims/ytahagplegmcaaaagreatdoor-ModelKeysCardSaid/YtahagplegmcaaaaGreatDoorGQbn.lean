import Derived.Test.YtahagplegmcaaaaGreatDoorGQb
set_option linter.unusedVariables false
set_option linter.unusedSimpArgs false
set_option linter.unnecessarySimpa false
namespace Go.Proofs.YtahagplegmcaaaaGreatDoor
open Go.RowKit Go.Xt
/-- client.Check of any operation. -/
theorem check_any (o : Ox) (hw : o.Wf) (w : World) : Calls Tryz.prog 48 #[opV o] w fun e w' => e = .returned (.int .i64 (chkO o)) ∧ Nw w w' := by
  obtain ⟨k, a, b, c, d, e, f⟩ := o
  have he := hw.by_
  simp only at he
  unfold opV
  simp only
  by_cases hk : 1 ≤ k ∧ k ≤ 15
  · rcases (by omega : k = 1 ∨ k = 2 ∨ k = 3 ∨ k = 4 ∨ k = 5 ∨ k = 6 ∨ k = 7 ∨ k = 8 ∨ k = 9 ∨ k = 10 ∨ k = 11 ∨ k = 12 ∨ k = 13 ∨ k = 14 ∨ k = 15) with rfl | rfl | rfl | rfl | rfl | rfl | rfl | rfl | rfl | rfl | rfl | rfl | rfl | rfl | rfl
    · have e0 : Ox.formed ⟨1, a, b, c, d, e, f⟩ = eqB 1 0 0 0 0 0 0 1 a b c d e f := by
        have hh : ∀ x : Int, decide ((0 : Int) = x) = decide (x = 0) := fun x => decide_eq_decide.2 ⟨Eq.symm, Eq.symm⟩
        simp [Ox.formed, eqB, uK, uH, uV, uO, uB, uD, hh, Bool.and_assoc]
      have e1 : (if eqB 1 0 0 0 0 0 0 1 a b c d e f = false then (2 : Int) else 0) = chkO ⟨1, a, b, c, d, e, f⟩ := by
        rw [chkO, e0]
        simp [uH]
      rw [← e1]
      exact ccheck_1 a b c d e f w
    · have e0 : Ox.formed ⟨2, a, b, c, d, e, f⟩ = eqB 2 0 0 0 0 0 0 2 a b c d e f := by
        have hh : ∀ x : Int, decide ((0 : Int) = x) = decide (x = 0) := fun x => decide_eq_decide.2 ⟨Eq.symm, Eq.symm⟩
        simp [Ox.formed, eqB, uK, uH, uV, uO, uB, uD, hh, Bool.and_assoc]
      have e1 : (if eqB 2 0 0 0 0 0 0 2 a b c d e f = false then (2 : Int) else 0) = chkO ⟨2, a, b, c, d, e, f⟩ := by
        rw [chkO, e0]
        simp [uH]
      rw [← e1]
      exact ccheck_2 a b c d e f w
    · have e0 : Ox.formed ⟨3, a, b, c, d, e, f⟩ = eqB 3 a 0 0 0 0 0 3 a b c d e f := by
        have hh : ∀ x : Int, decide ((0 : Int) = x) = decide (x = 0) := fun x => decide_eq_decide.2 ⟨Eq.symm, Eq.symm⟩
        simp [Ox.formed, eqB, uK, uH, uV, uO, uB, uD, hh, Bool.and_assoc]
      have e1 : (if eqB 3 a 0 0 0 0 0 3 a b c d e f = false then (2 : Int) else 0) = chkO ⟨3, a, b, c, d, e, f⟩ := by
        rw [chkO, e0]
        simp [uH]
      rw [← e1]
      exact ccheck_3 a b c d e f w
    · have e0 : Ox.formed ⟨4, a, b, c, d, e, f⟩ = eqB 4 a 0 c 0 0 f 4 a b c d e f := by
        have hh : ∀ x : Int, decide ((0 : Int) = x) = decide (x = 0) := fun x => decide_eq_decide.2 ⟨Eq.symm, Eq.symm⟩
        simp [Ox.formed, eqB, uK, uH, uV, uO, uB, uD, hh, Bool.and_assoc]
      have e1 : (if eqB 4 a 0 c 0 0 f 4 a b c d e f = false then (2 : Int) else 0) = chkO ⟨4, a, b, c, d, e, f⟩ := by
        rw [chkO, e0]
        simp [uH]
      rw [← e1]
      exact ccheck_4 a b c d e f w
    · have e0 : Ox.formed ⟨5, a, b, c, d, e, f⟩ = eqB 5 a 0 c 0 0 f 5 a b c d e f := by
        have hh : ∀ x : Int, decide ((0 : Int) = x) = decide (x = 0) := fun x => decide_eq_decide.2 ⟨Eq.symm, Eq.symm⟩
        simp [Ox.formed, eqB, uK, uH, uV, uO, uB, uD, hh, Bool.and_assoc]
      have e1 : (if eqB 5 a 0 c 0 0 f 5 a b c d e f = false then (2 : Int) else 0) = chkO ⟨5, a, b, c, d, e, f⟩ := by
        rw [chkO, e0]
        simp [uH]
      rw [← e1]
      exact ccheck_5 a b c d e f w
    · have e0 : Ox.formed ⟨6, a, b, c, d, e, f⟩ = eqB 6 a 0 0 0 0 0 6 a b c d e f := by
        have hh : ∀ x : Int, decide ((0 : Int) = x) = decide (x = 0) := fun x => decide_eq_decide.2 ⟨Eq.symm, Eq.symm⟩
        simp [Ox.formed, eqB, uK, uH, uV, uO, uB, uD, hh, Bool.and_assoc]
      have e1 : (if eqB 6 a 0 0 0 0 0 6 a b c d e f = false then (2 : Int) else 0) = chkO ⟨6, a, b, c, d, e, f⟩ := by
        rw [chkO, e0]
        simp [uH]
      rw [← e1]
      exact ccheck_6 a b c d e f w
    · have e0 : Ox.formed ⟨7, a, b, c, d, e, f⟩ = eqB 7 a 0 c d 0 0 7 a b c d e f := by
        have hh : ∀ x : Int, decide ((0 : Int) = x) = decide (x = 0) := fun x => decide_eq_decide.2 ⟨Eq.symm, Eq.symm⟩
        simp [Ox.formed, eqB, uK, uH, uV, uO, uB, uD, hh, Bool.and_assoc]
      have e1 : (if eqB 7 a 0 c d 0 0 7 a b c d e f = false then (2 : Int) else 0) = chkO ⟨7, a, b, c, d, e, f⟩ := by
        rw [chkO, e0]
        simp [uH]
      rw [← e1]
      exact ccheck_7 a b c d e f w
    · have e0 : Ox.formed ⟨8, a, b, c, d, e, f⟩ = eqB 8 a b 0 0 e f 8 a b c d e f := by
        have hh : ∀ x : Int, decide ((0 : Int) = x) = decide (x = 0) := fun x => decide_eq_decide.2 ⟨Eq.symm, Eq.symm⟩
        simp [Ox.formed, eqB, uK, uH, uV, uO, uB, uD, hh, Bool.and_assoc]
      have e1 : (if eqB 8 a b 0 0 e f 8 a b c d e f = false then (2 : Int) else if spE a b ≠ 0 ∨ e = 0 then 13 else if 18446744073709551615 - e < b then 12 else 0) = chkO ⟨8, a, b, c, d, e, f⟩ := by
        rw [chkO, e0]
        congr 1
        simp only [spE, uH]
        by_cases h1 : a ≤ b
        · have h2 : ¬ b < a := by omega
          simp [h1, h2]
        · have h2 : b < a := by omega
          simp [h1, h2]
      rw [← e1]
      exact ccheck_8 a b c d e f he w
    · have e0 : Ox.formed ⟨9, a, b, c, d, e, f⟩ = eqB 9 a b 0 0 0 0 9 a b c d e f := by
        have hh : ∀ x : Int, decide ((0 : Int) = x) = decide (x = 0) := fun x => decide_eq_decide.2 ⟨Eq.symm, Eq.symm⟩
        simp [Ox.formed, eqB, uK, uH, uV, uO, uB, uD, hh, Bool.and_assoc]
      have e1 : (if eqB 9 a b 0 0 0 0 9 a b c d e f = false then (2 : Int) else if spE a b ≠ 0 then 13 else 0) = chkO ⟨9, a, b, c, d, e, f⟩ := by
        rw [chkO, e0]
        congr 1
        simp only [spE, uH]
        by_cases h1 : a ≤ b
        · have h2 : ¬ b < a := by omega
          simp [h1, h2]
        · have h2 : b < a := by omega
          simp [h1, h2]
      rw [← e1]
      exact ccheck_9 a b c d e f w
    · have e0 : Ox.formed ⟨10, a, b, c, d, e, f⟩ = eqB 10 0 0 0 0 0 0 10 a b c d e f := by
        have hh : ∀ x : Int, decide ((0 : Int) = x) = decide (x = 0) := fun x => decide_eq_decide.2 ⟨Eq.symm, Eq.symm⟩
        simp [Ox.formed, eqB, uK, uH, uV, uO, uB, uD, hh, Bool.and_assoc]
      have e1 : (if eqB 10 0 0 0 0 0 0 10 a b c d e f = false then (2 : Int) else 0) = chkO ⟨10, a, b, c, d, e, f⟩ := by
        rw [chkO, e0]
        simp [uH]
      rw [← e1]
      exact ccheck_10 a b c d e f w
    · have e0 : Ox.formed ⟨11, a, b, c, d, e, f⟩ = eqB 11 a b 0 0 0 0 11 a b c d e f := by
        have hh : ∀ x : Int, decide ((0 : Int) = x) = decide (x = 0) := fun x => decide_eq_decide.2 ⟨Eq.symm, Eq.symm⟩
        simp [Ox.formed, eqB, uK, uH, uV, uO, uB, uD, hh, Bool.and_assoc]
      have e1 : (if eqB 11 a b 0 0 0 0 11 a b c d e f = false then (2 : Int) else if spE a b ≠ 0 then 13 else 0) = chkO ⟨11, a, b, c, d, e, f⟩ := by
        rw [chkO, e0]
        congr 1
        simp only [spE, uH]
        by_cases h1 : a ≤ b
        · have h2 : ¬ b < a := by omega
          simp [h1, h2]
        · have h2 : b < a := by omega
          simp [h1, h2]
      rw [← e1]
      exact ccheck_11 a b c d e f w
    · have e0 : Ox.formed ⟨12, a, b, c, d, e, f⟩ = eqB 12 0 0 0 0 0 0 12 a b c d e f := by
        have hh : ∀ x : Int, decide ((0 : Int) = x) = decide (x = 0) := fun x => decide_eq_decide.2 ⟨Eq.symm, Eq.symm⟩
        simp [Ox.formed, eqB, uK, uH, uV, uO, uB, uD, hh, Bool.and_assoc]
      have e1 : (if eqB 12 0 0 0 0 0 0 12 a b c d e f = false then (2 : Int) else 0) = chkO ⟨12, a, b, c, d, e, f⟩ := by
        rw [chkO, e0]
        simp [uH]
      rw [← e1]
      exact ccheck_12 a b c d e f w
    · have e0 : Ox.formed ⟨13, a, b, c, d, e, f⟩ = eqB 13 a 0 0 0 0 0 13 a b c d e f := by
        have hh : ∀ x : Int, decide ((0 : Int) = x) = decide (x = 0) := fun x => decide_eq_decide.2 ⟨Eq.symm, Eq.symm⟩
        simp [Ox.formed, eqB, uK, uH, uV, uO, uB, uD, hh, Bool.and_assoc]
      have e1 : (if eqB 13 a 0 0 0 0 0 13 a b c d e f = false then (2 : Int) else 0) = chkO ⟨13, a, b, c, d, e, f⟩ := by
        rw [chkO, e0]
        simp [uH]
      rw [← e1]
      exact ccheck_13 a b c d e f w
    · have e0 : Ox.formed ⟨14, a, b, c, d, e, f⟩ = eqB 14 0 0 0 0 0 0 14 a b c d e f := by
        have hh : ∀ x : Int, decide ((0 : Int) = x) = decide (x = 0) := fun x => decide_eq_decide.2 ⟨Eq.symm, Eq.symm⟩
        simp [Ox.formed, eqB, uK, uH, uV, uO, uB, uD, hh, Bool.and_assoc]
      have e1 : (if eqB 14 0 0 0 0 0 0 14 a b c d e f = false then (2 : Int) else 0) = chkO ⟨14, a, b, c, d, e, f⟩ := by
        rw [chkO, e0]
        simp [uH]
      rw [← e1]
      exact ccheck_14 a b c d e f w
    · have e0 : Ox.formed ⟨15, a, b, c, d, e, f⟩ = eqB 15 0 0 0 0 0 0 15 a b c d e f := by
        have hh : ∀ x : Int, decide ((0 : Int) = x) = decide (x = 0) := fun x => decide_eq_decide.2 ⟨Eq.symm, Eq.symm⟩
        simp [Ox.formed, eqB, uK, uH, uV, uO, uB, uD, hh, Bool.and_assoc]
      have e1 : (if eqB 15 0 0 0 0 0 0 15 a b c d e f = false then (2 : Int) else 0) = chkO ⟨15, a, b, c, d, e, f⟩ := by
        rw [chkO, e0]
        simp [uH]
      rw [← e1]
      exact ccheck_15 a b c d e f w
  · have e1 : chkO ⟨k, a, b, c, d, e, f⟩ = 2 := by
      unfold chkO Ox.formed
      simp only
      rw [if_pos]
      by_cases h1 : 1 ≤ k
      · have h2 : decide (k ≤ 15) = false := by simp; omega
        simp [h2]
      · simp [h1]
    rw [e1]; exact ccheck_out k a b c d e f (by omega) w
end Go.Proofs.YtahagplegmcaaaaGreatDoor
