import Derived.Test.YtkikdpdainmlcaaGreatGPm
set_option linter.unusedVariables false
set_option linter.unusedSimpArgs false
set_option linter.unnecessarySimpa false
namespace Go.Proofs.YtkikdpdainmlcaaGreat
open Go.RowKit Go.Xt
/-! client.Check at any operation. -/
structure Ox where
  k : Int
  key : Int
  hi : Int
  val : Int
  old : Int
  by_ : Int
  draw : Int
def opV (o : Ox) : Value := op7 o.k o.key o.hi o.val o.old o.by_ o.draw
def uK (k : Int) : Bool := decide (k = 3) || decide (k = 4) || decide (k = 5) || decide (k = 6) || decide (k = 7) || decide (k = 8) || decide (k = 9) || decide (k = 11) || decide (k = 13)
def uH (k : Int) : Bool := decide (k = 8) || decide (k = 9) || decide (k = 11)
def uV (k : Int) : Bool := decide (k = 4) || decide (k = 5) || decide (k = 7)
def uO (k : Int) : Bool := decide (k = 7)
def uB (k : Int) : Bool := decide (k = 8)
def uD (k : Int) : Bool := decide (k = 4) || decide (k = 5) || decide (k = 8)
def Ox.formed (o : Ox) : Bool := decide (1 ≤ o.k) && decide (o.k ≤ 15) && (uK o.k || decide (o.key = 0)) && (uH o.k || decide (o.hi = 0)) && (uV o.k || decide (o.val = 0)) && (uO o.k || decide (o.old = 0)) && (uB o.k || decide (o.by_ = 0)) && (uD o.k || decide (o.draw = 0))
def chkO (o : Ox) : Int :=
  if o.formed = false then 2
  else if uH o.k = true ∧ o.hi < o.key ∨ o.k = 8 ∧ o.by_ = 0 then 13
  else if o.k = 8 ∧ 18446744073709551615 - o.by_ < o.hi then 12
  else 0
structure Ox.Wf (o : Ox) : Prop where
  k : 0 ≤ o.k ∧ o.k < 256
  key : 0 ≤ o.key ∧ o.key < 18446744073709551616
  hi : 0 ≤ o.hi ∧ o.hi < 18446744073709551616
  val : 0 ≤ o.val ∧ o.val < 18446744073709551616
  old : 0 ≤ o.old ∧ o.old < 18446744073709551616
  by_ : 0 ≤ o.by_ ∧ o.by_ < 18446744073709551616
  draw : 0 ≤ o.draw ∧ o.draw < 18446744073709551616
def eqB (k a b c d e f k' a' b' c' d' e' f' : Int) : Bool := decide (k = k') && (decide (a = a') && (decide (b = b') && (decide (c = c') && (decide (d = d') && (decide (e = e') && decide (f = f'))))))
@[go_sem 20000] theorem eqOpB (k a b c d e f k' a' b' c' d' e' f' : Int) (w : World) : (Op.equalIn 10000 41 (op7 k a b c d e f) (op7 k' a' b' c' d' e' f')).run Tryz.prog w = .ok (eqB k a b c d e f k' a' b' c' d' e' f') w := eqOp k a b c d e f k' a' b' c' d' e' f' w
def spE (lo hi : Int) : Int := if lo ≤ hi then 0 else 13
theorem spcheck_any (lo hi : Int) (w : World) :
    Calls Tryz.prog 141 #[spV lo hi] w fun e w' => e = .returned (.int .i64 (spE lo hi)) ∧ Nw w w' := by
  unfold spV spE
  go_enter Tryz.func141, Tryz.ntmps141
  go_wp2
  all_goals (go_ret; exact ⟨by simp [*]; try omega, nwa⟩)
set_option maxRecDepth 20000 in
set_option maxHeartbeats 4000000 in
theorem ccheck_1 (a b c d e f : Int) (w : World) : Calls Tryz.prog 118 #[op7 1 a b c d e f] w fun r w' => r = .returned (.int .i64 (if eqB 1 0 0 0 0 0 0 1 a b c d e f = false then (2 : Int) else 0)) ∧ Nw w w' := by
  obtain ⟨B, hB⟩ : ∃ B, B = eqB 1 0 0 0 0 0 0 1 a b c d e f := ⟨_, rfl⟩
  obtain ⟨R, hR⟩ : ∃ R, R = (if eqB 1 0 0 0 0 0 0 1 a b c d e f = false then (2 : Int) else 0) := ⟨_, rfl⟩
  rw [← hR]
  rw [← hB] at hR
  have HR := Lib.hid hR
  have hB' := hB.symm
  clear hR hB
  go_enter Tryz.func118, Tryz.ntmps118
  go_wp2
  all_goals (go_ret; refine ⟨?_, nwa⟩; have := HR.out; simp_all)
set_option maxRecDepth 20000 in
set_option maxHeartbeats 4000000 in
theorem ccheck_2 (a b c d e f : Int) (w : World) : Calls Tryz.prog 118 #[op7 2 a b c d e f] w fun r w' => r = .returned (.int .i64 (if eqB 2 0 0 0 0 0 0 2 a b c d e f = false then (2 : Int) else 0)) ∧ Nw w w' := by
  obtain ⟨B, hB⟩ : ∃ B, B = eqB 2 0 0 0 0 0 0 2 a b c d e f := ⟨_, rfl⟩
  obtain ⟨R, hR⟩ : ∃ R, R = (if eqB 2 0 0 0 0 0 0 2 a b c d e f = false then (2 : Int) else 0) := ⟨_, rfl⟩
  rw [← hR]
  rw [← hB] at hR
  have HR := Lib.hid hR
  have hB' := hB.symm
  clear hR hB
  go_enter Tryz.func118, Tryz.ntmps118
  go_wp2
  all_goals (go_ret; refine ⟨?_, nwa⟩; have := HR.out; simp_all)
set_option maxRecDepth 20000 in
set_option maxHeartbeats 4000000 in
theorem ccheck_3 (a b c d e f : Int) (w : World) : Calls Tryz.prog 118 #[op7 3 a b c d e f] w fun r w' => r = .returned (.int .i64 (if eqB 3 a 0 0 0 0 0 3 a b c d e f = false then (2 : Int) else 0)) ∧ Nw w w' := by
  obtain ⟨B, hB⟩ : ∃ B, B = eqB 3 a 0 0 0 0 0 3 a b c d e f := ⟨_, rfl⟩
  obtain ⟨R, hR⟩ : ∃ R, R = (if eqB 3 a 0 0 0 0 0 3 a b c d e f = false then (2 : Int) else 0) := ⟨_, rfl⟩
  rw [← hR]
  rw [← hB] at hR
  have HR := Lib.hid hR
  have hB' := hB.symm
  clear hR hB
  go_enter Tryz.func118, Tryz.ntmps118
  go_wp2
  all_goals (go_ret; refine ⟨?_, nwa⟩; have := HR.out; simp_all)
set_option maxRecDepth 20000 in
set_option maxHeartbeats 4000000 in
theorem ccheck_4 (a b c d e f : Int) (w : World) : Calls Tryz.prog 118 #[op7 4 a b c d e f] w fun r w' => r = .returned (.int .i64 (if eqB 4 a 0 c 0 0 f 4 a b c d e f = false then (2 : Int) else 0)) ∧ Nw w w' := by
  obtain ⟨B, hB⟩ : ∃ B, B = eqB 4 a 0 c 0 0 f 4 a b c d e f := ⟨_, rfl⟩
  obtain ⟨R, hR⟩ : ∃ R, R = (if eqB 4 a 0 c 0 0 f 4 a b c d e f = false then (2 : Int) else 0) := ⟨_, rfl⟩
  rw [← hR]
  rw [← hB] at hR
  have HR := Lib.hid hR
  have hB' := hB.symm
  clear hR hB
  go_enter Tryz.func118, Tryz.ntmps118
  go_upto_region 9 with (fail)
  go_region
  go_wp2
  all_goals (go_ret; refine ⟨?_, nwa⟩; have := HR.out; simp_all)
set_option maxRecDepth 20000 in
set_option maxHeartbeats 4000000 in
theorem ccheck_5 (a b c d e f : Int) (w : World) : Calls Tryz.prog 118 #[op7 5 a b c d e f] w fun r w' => r = .returned (.int .i64 (if eqB 5 a 0 c 0 0 f 5 a b c d e f = false then (2 : Int) else 0)) ∧ Nw w w' := by
  obtain ⟨B, hB⟩ : ∃ B, B = eqB 5 a 0 c 0 0 f 5 a b c d e f := ⟨_, rfl⟩
  obtain ⟨R, hR⟩ : ∃ R, R = (if eqB 5 a 0 c 0 0 f 5 a b c d e f = false then (2 : Int) else 0) := ⟨_, rfl⟩
  rw [← hR]
  rw [← hB] at hR
  have HR := Lib.hid hR
  have hB' := hB.symm
  clear hR hB
  go_enter Tryz.func118, Tryz.ntmps118
  go_upto_region 9 with (fail)
  go_region
  go_wp2
  all_goals (go_ret; refine ⟨?_, nwa⟩; have := HR.out; simp_all)
set_option maxRecDepth 20000 in
set_option maxHeartbeats 4000000 in
theorem ccheck_6 (a b c d e f : Int) (w : World) : Calls Tryz.prog 118 #[op7 6 a b c d e f] w fun r w' => r = .returned (.int .i64 (if eqB 6 a 0 0 0 0 0 6 a b c d e f = false then (2 : Int) else 0)) ∧ Nw w w' := by
  obtain ⟨B, hB⟩ : ∃ B, B = eqB 6 a 0 0 0 0 0 6 a b c d e f := ⟨_, rfl⟩
  obtain ⟨R, hR⟩ : ∃ R, R = (if eqB 6 a 0 0 0 0 0 6 a b c d e f = false then (2 : Int) else 0) := ⟨_, rfl⟩
  rw [← hR]
  rw [← hB] at hR
  have HR := Lib.hid hR
  have hB' := hB.symm
  clear hR hB
  go_enter Tryz.func118, Tryz.ntmps118
  go_wp2
  all_goals (go_ret; refine ⟨?_, nwa⟩; have := HR.out; simp_all)
set_option maxRecDepth 20000 in
set_option maxHeartbeats 4000000 in
theorem ccheck_7 (a b c d e f : Int) (w : World) : Calls Tryz.prog 118 #[op7 7 a b c d e f] w fun r w' => r = .returned (.int .i64 (if eqB 7 a 0 c d 0 0 7 a b c d e f = false then (2 : Int) else 0)) ∧ Nw w w' := by
  obtain ⟨B, hB⟩ : ∃ B, B = eqB 7 a 0 c d 0 0 7 a b c d e f := ⟨_, rfl⟩
  obtain ⟨R, hR⟩ : ∃ R, R = (if eqB 7 a 0 c d 0 0 7 a b c d e f = false then (2 : Int) else 0) := ⟨_, rfl⟩
  rw [← hR]
  rw [← hB] at hR
  have HR := Lib.hid hR
  have hB' := hB.symm
  clear hR hB
  go_enter Tryz.func118, Tryz.ntmps118
  go_upto_region 11 with (fail)
  go_region
  go_wp2
  all_goals (go_ret; refine ⟨?_, nwa⟩; have := HR.out; simp_all)
set_option maxRecDepth 20000 in
set_option maxHeartbeats 4000000 in
theorem ccheck_8 (a b c d e f : Int) (he : 0 ≤ e ∧ e < 18446744073709551616) (w : World) : Calls Tryz.prog 118 #[op7 8 a b c d e f] w fun r w' => r = .returned (.int .i64 (if eqB 8 a b 0 0 e f 8 a b c d e f = false then (2 : Int) else if spE a b ≠ 0 ∨ e = 0 then 13 else if 18446744073709551615 - e < b then 12 else 0)) ∧ Nw w w' := by
  have HC := Lib.hid (fun W => spcheck_any a b W)
  unfold spV at HC
  obtain ⟨z, hz⟩ : ∃ z, z = spE a b := ⟨_, rfl⟩
  obtain ⟨B, hB⟩ : ∃ B, B = eqB 8 a b 0 0 e f 8 a b c d e f := ⟨_, rfl⟩
  obtain ⟨R, hR⟩ : ∃ R, R = (if eqB 8 a b 0 0 e f 8 a b c d e f = false then (2 : Int) else if spE a b ≠ 0 ∨ e = 0 then 13 else if 18446744073709551615 - e < b then 12 else 0) := ⟨_, rfl⟩
  rw [← hR]
  rw [← hB, ← hz] at hR
  have HR := Lib.hid hR
  have hB' := hB.symm
  rw [← hz] at HC
  have q3 : IntKind.u64.wrap (18446744073709551615 - e) = 18446744073709551615 - e := by rw [IntKind.wrap_u64]; omega
  clear hR hB hz he
  go_enter Tryz.func118, Tryz.ntmps118
  go_upto_region 13 with (fail)
  go_region
  go_wp2_with (go_at_call 141; refine (HC.out _).mono ?_; rintro e w' ⟨rfl, dW, rfl⟩)
  all_goals (go_ret; refine ⟨?_, nwa⟩; have := HR.out; simp_all)
set_option maxRecDepth 20000 in
set_option maxHeartbeats 4000000 in
theorem ccheck_9 (a b c d e f : Int) (w : World) : Calls Tryz.prog 118 #[op7 9 a b c d e f] w fun r w' => r = .returned (.int .i64 (if eqB 9 a b 0 0 0 0 9 a b c d e f = false then (2 : Int) else if spE a b ≠ 0 then 13 else 0)) ∧ Nw w w' := by
  have HC := Lib.hid (fun W => spcheck_any a b W)
  unfold spV at HC
  obtain ⟨z, hz⟩ : ∃ z, z = spE a b := ⟨_, rfl⟩
  obtain ⟨B, hB⟩ : ∃ B, B = eqB 9 a b 0 0 0 0 9 a b c d e f := ⟨_, rfl⟩
  obtain ⟨R, hR⟩ : ∃ R, R = (if eqB 9 a b 0 0 0 0 9 a b c d e f = false then (2 : Int) else if spE a b ≠ 0 then 13 else 0) := ⟨_, rfl⟩
  rw [← hR]
  rw [← hB, ← hz] at hR
  have HR := Lib.hid hR
  have hB' := hB.symm
  rw [← hz] at HC
  clear hR hB hz
  go_enter Tryz.func118, Tryz.ntmps118
  go_upto_region 16 with (fail)
  go_region
  go_wp2_with (go_at_call 141; refine (HC.out _).mono ?_; rintro e w' ⟨rfl, dW, rfl⟩)
  all_goals (go_ret; refine ⟨?_, nwa⟩; have := HR.out; simp_all)
set_option maxRecDepth 20000 in
set_option maxHeartbeats 4000000 in
theorem ccheck_10 (a b c d e f : Int) (w : World) : Calls Tryz.prog 118 #[op7 10 a b c d e f] w fun r w' => r = .returned (.int .i64 (if eqB 10 0 0 0 0 0 0 10 a b c d e f = false then (2 : Int) else 0)) ∧ Nw w w' := by
  obtain ⟨B, hB⟩ : ∃ B, B = eqB 10 0 0 0 0 0 0 10 a b c d e f := ⟨_, rfl⟩
  obtain ⟨R, hR⟩ : ∃ R, R = (if eqB 10 0 0 0 0 0 0 10 a b c d e f = false then (2 : Int) else 0) := ⟨_, rfl⟩
  rw [← hR]
  rw [← hB] at hR
  have HR := Lib.hid hR
  have hB' := hB.symm
  clear hR hB
  go_enter Tryz.func118, Tryz.ntmps118
  go_wp2
  all_goals (go_ret; refine ⟨?_, nwa⟩; have := HR.out; simp_all)
set_option maxRecDepth 20000 in
set_option maxHeartbeats 4000000 in
theorem ccheck_11 (a b c d e f : Int) (w : World) : Calls Tryz.prog 118 #[op7 11 a b c d e f] w fun r w' => r = .returned (.int .i64 (if eqB 11 a b 0 0 0 0 11 a b c d e f = false then (2 : Int) else if spE a b ≠ 0 then 13 else 0)) ∧ Nw w w' := by
  have HC := Lib.hid (fun W => spcheck_any a b W)
  unfold spV at HC
  obtain ⟨z, hz⟩ : ∃ z, z = spE a b := ⟨_, rfl⟩
  obtain ⟨B, hB⟩ : ∃ B, B = eqB 11 a b 0 0 0 0 11 a b c d e f := ⟨_, rfl⟩
  obtain ⟨R, hR⟩ : ∃ R, R = (if eqB 11 a b 0 0 0 0 11 a b c d e f = false then (2 : Int) else if spE a b ≠ 0 then 13 else 0) := ⟨_, rfl⟩
  rw [← hR]
  rw [← hB, ← hz] at hR
  have HR := Lib.hid hR
  have hB' := hB.symm
  rw [← hz] at HC
  clear hR hB hz
  go_enter Tryz.func118, Tryz.ntmps118
  go_upto_region 16 with (fail)
  go_region
  go_wp2_with (go_at_call 141; refine (HC.out _).mono ?_; rintro e w' ⟨rfl, dW, rfl⟩)
  all_goals (go_ret; refine ⟨?_, nwa⟩; have := HR.out; simp_all)
set_option maxRecDepth 20000 in
set_option maxHeartbeats 4000000 in
theorem ccheck_12 (a b c d e f : Int) (w : World) : Calls Tryz.prog 118 #[op7 12 a b c d e f] w fun r w' => r = .returned (.int .i64 (if eqB 12 0 0 0 0 0 0 12 a b c d e f = false then (2 : Int) else 0)) ∧ Nw w w' := by
  obtain ⟨B, hB⟩ : ∃ B, B = eqB 12 0 0 0 0 0 0 12 a b c d e f := ⟨_, rfl⟩
  obtain ⟨R, hR⟩ : ∃ R, R = (if eqB 12 0 0 0 0 0 0 12 a b c d e f = false then (2 : Int) else 0) := ⟨_, rfl⟩
  rw [← hR]
  rw [← hB] at hR
  have HR := Lib.hid hR
  have hB' := hB.symm
  clear hR hB
  go_enter Tryz.func118, Tryz.ntmps118
  go_wp2
  all_goals (go_ret; refine ⟨?_, nwa⟩; have := HR.out; simp_all)
set_option maxRecDepth 20000 in
set_option maxHeartbeats 4000000 in
theorem ccheck_13 (a b c d e f : Int) (w : World) : Calls Tryz.prog 118 #[op7 13 a b c d e f] w fun r w' => r = .returned (.int .i64 (if eqB 13 a 0 0 0 0 0 13 a b c d e f = false then (2 : Int) else 0)) ∧ Nw w w' := by
  obtain ⟨B, hB⟩ : ∃ B, B = eqB 13 a 0 0 0 0 0 13 a b c d e f := ⟨_, rfl⟩
  obtain ⟨R, hR⟩ : ∃ R, R = (if eqB 13 a 0 0 0 0 0 13 a b c d e f = false then (2 : Int) else 0) := ⟨_, rfl⟩
  rw [← hR]
  rw [← hB] at hR
  have HR := Lib.hid hR
  have hB' := hB.symm
  clear hR hB
  go_enter Tryz.func118, Tryz.ntmps118
  go_wp2
  all_goals (go_ret; refine ⟨?_, nwa⟩; have := HR.out; simp_all)
set_option maxRecDepth 20000 in
set_option maxHeartbeats 4000000 in
theorem ccheck_14 (a b c d e f : Int) (w : World) : Calls Tryz.prog 118 #[op7 14 a b c d e f] w fun r w' => r = .returned (.int .i64 (if eqB 14 0 0 0 0 0 0 14 a b c d e f = false then (2 : Int) else 0)) ∧ Nw w w' := by
  obtain ⟨B, hB⟩ : ∃ B, B = eqB 14 0 0 0 0 0 0 14 a b c d e f := ⟨_, rfl⟩
  obtain ⟨R, hR⟩ : ∃ R, R = (if eqB 14 0 0 0 0 0 0 14 a b c d e f = false then (2 : Int) else 0) := ⟨_, rfl⟩
  rw [← hR]
  rw [← hB] at hR
  have HR := Lib.hid hR
  have hB' := hB.symm
  clear hR hB
  go_enter Tryz.func118, Tryz.ntmps118
  go_wp2
  all_goals (go_ret; refine ⟨?_, nwa⟩; have := HR.out; simp_all)
set_option maxRecDepth 20000 in
set_option maxHeartbeats 4000000 in
theorem ccheck_15 (a b c d e f : Int) (w : World) : Calls Tryz.prog 118 #[op7 15 a b c d e f] w fun r w' => r = .returned (.int .i64 (if eqB 15 0 0 0 0 0 0 15 a b c d e f = false then (2 : Int) else 0)) ∧ Nw w w' := by
  obtain ⟨B, hB⟩ : ∃ B, B = eqB 15 0 0 0 0 0 0 15 a b c d e f := ⟨_, rfl⟩
  obtain ⟨R, hR⟩ : ∃ R, R = (if eqB 15 0 0 0 0 0 0 15 a b c d e f = false then (2 : Int) else 0) := ⟨_, rfl⟩
  rw [← hR]
  rw [← hB] at hR
  have HR := Lib.hid hR
  have hB' := hB.symm
  clear hR hB
  go_enter Tryz.func118, Tryz.ntmps118
  go_wp2
  all_goals (go_ret; refine ⟨?_, nwa⟩; have := HR.out; simp_all)
set_option maxRecDepth 20000 in
set_option maxHeartbeats 4000000 in
theorem ccheck_out (k a b c d e f : Int) (h : k < 1 ∨ 15 < k) (w : World) : Calls Tryz.prog 118 #[op7 k a b c d e f] w fun e w' => e = .returned (.int .i64 2) ∧ Nw w w' := by
  have e3 : (k == 3) = false := by simp; omega
  have n3 : ¬ k = 3 := by omega
  have e4 : (k == 4) = false := by simp; omega
  have n4 : ¬ k = 4 := by omega
  have e5 : (k == 5) = false := by simp; omega
  have n5 : ¬ k = 5 := by omega
  have e6 : (k == 6) = false := by simp; omega
  have n6 : ¬ k = 6 := by omega
  have e7 : (k == 7) = false := by simp; omega
  have n7 : ¬ k = 7 := by omega
  have e8 : (k == 8) = false := by simp; omega
  have n8 : ¬ k = 8 := by omega
  have e9 : (k == 9) = false := by simp; omega
  have n9 : ¬ k = 9 := by omega
  have e11 : (k == 11) = false := by simp; omega
  have n11 : ¬ k = 11 := by omega
  have e13 : (k == 13) = false := by simp; omega
  have n13 : ¬ k = 13 := by omega
  rcases h with h | h
  · have d0 : decide (k < 1) = true := by simp; omega
    go_enter Tryz.func118, Tryz.ntmps118
    go_wp2
    go_ret
    exact ⟨rfl, nwa⟩
  · have d0 : decide (k < 1) = false := by simp; omega
    have d1 : decide (15 < k) = true := by simp; omega
    go_enter Tryz.func118, Tryz.ntmps118
    go_wp2
    go_ret
    exact ⟨rfl, nwa⟩
end Go.Proofs.YtkikdpdainmlcaaGreat
namespace Go.Proofs.YtkikdpdainmlcaaGreat
open Go.RowKit Go.Xt
theorem check_any (o : Ox) (hw : o.Wf) (w : World) : Calls Tryz.prog 118 #[opV o] w fun e w' => e = .returned (.int .i64 (chkO o)) ∧ Nw w w' := by
  obtain ⟨k, a, b, c, d, e, f⟩ := o
  have he := hw.by_
  simp only at he
  unfold opV
  simp only
  by_cases hk : 1 ≤ k ∧ k ≤ 15
  · rcases (by omega : k = 1 ∨ k = 2 ∨ k = 3 ∨ k = 4 ∨ k = 5 ∨ k = 6 ∨ k = 7 ∨ k = 8 ∨ k = 9 ∨ k = 10 ∨ k = 11 ∨ k = 12 ∨ k = 13 ∨ k = 14 ∨ k = 15) with rfl | rfl | rfl | rfl | rfl | rfl | rfl | rfl | rfl | rfl | rfl | rfl | rfl | rfl | rfl
    · have e0 : Ox.formed ⟨1, a, b, c, d, e, f⟩ = eqB 1 0 0 0 0 0 0 1 a b c d e f := by
        have hh : ∀ x : Int, decide ((0 : Int) = x) = decide (x = 0) := fun x => decide_eq_decide.2 ⟨Eq.symm, Eq.symm⟩
        simp [Ox.formed, eqB, uK, uH, uV, uO, uB, uD, hh, Bool.and_assoc]
      have e1 : (if eqB 1 0 0 0 0 0 0 1 a b c d e f = false then (2 : Int) else 0) = chkO ⟨1, a, b, c, d, e, f⟩ := by
        rw [chkO, e0]
        simp [uH]
      rw [← e1]
      exact ccheck_1 a b c d e f w
    · have e0 : Ox.formed ⟨2, a, b, c, d, e, f⟩ = eqB 2 0 0 0 0 0 0 2 a b c d e f := by
        have hh : ∀ x : Int, decide ((0 : Int) = x) = decide (x = 0) := fun x => decide_eq_decide.2 ⟨Eq.symm, Eq.symm⟩
        simp [Ox.formed, eqB, uK, uH, uV, uO, uB, uD, hh, Bool.and_assoc]
      have e1 : (if eqB 2 0 0 0 0 0 0 2 a b c d e f = false then (2 : Int) else 0) = chkO ⟨2, a, b, c, d, e, f⟩ := by
        rw [chkO, e0]
        simp [uH]
      rw [← e1]
      exact ccheck_2 a b c d e f w
    · have e0 : Ox.formed ⟨3, a, b, c, d, e, f⟩ = eqB 3 a 0 0 0 0 0 3 a b c d e f := by
        have hh : ∀ x : Int, decide ((0 : Int) = x) = decide (x = 0) := fun x => decide_eq_decide.2 ⟨Eq.symm, Eq.symm⟩
        simp [Ox.formed, eqB, uK, uH, uV, uO, uB, uD, hh, Bool.and_assoc]
      have e1 : (if eqB 3 a 0 0 0 0 0 3 a b c d e f = false then (2 : Int) else 0) = chkO ⟨3, a, b, c, d, e, f⟩ := by
        rw [chkO, e0]
        simp [uH]
      rw [← e1]
      exact ccheck_3 a b c d e f w
    · have e0 : Ox.formed ⟨4, a, b, c, d, e, f⟩ = eqB 4 a 0 c 0 0 f 4 a b c d e f := by
        have hh : ∀ x : Int, decide ((0 : Int) = x) = decide (x = 0) := fun x => decide_eq_decide.2 ⟨Eq.symm, Eq.symm⟩
        simp [Ox.formed, eqB, uK, uH, uV, uO, uB, uD, hh, Bool.and_assoc]
      have e1 : (if eqB 4 a 0 c 0 0 f 4 a b c d e f = false then (2 : Int) else 0) = chkO ⟨4, a, b, c, d, e, f⟩ := by
        rw [chkO, e0]
        simp [uH]
      rw [← e1]
      exact ccheck_4 a b c d e f w
    · have e0 : Ox.formed ⟨5, a, b, c, d, e, f⟩ = eqB 5 a 0 c 0 0 f 5 a b c d e f := by
        have hh : ∀ x : Int, decide ((0 : Int) = x) = decide (x = 0) := fun x => decide_eq_decide.2 ⟨Eq.symm, Eq.symm⟩
        simp [Ox.formed, eqB, uK, uH, uV, uO, uB, uD, hh, Bool.and_assoc]
      have e1 : (if eqB 5 a 0 c 0 0 f 5 a b c d e f = false then (2 : Int) else 0) = chkO ⟨5, a, b, c, d, e, f⟩ := by
        rw [chkO, e0]
        simp [uH]
      rw [← e1]
      exact ccheck_5 a b c d e f w
    · have e0 : Ox.formed ⟨6, a, b, c, d, e, f⟩ = eqB 6 a 0 0 0 0 0 6 a b c d e f := by
        have hh : ∀ x : Int, decide ((0 : Int) = x) = decide (x = 0) := fun x => decide_eq_decide.2 ⟨Eq.symm, Eq.symm⟩
        simp [Ox.formed, eqB, uK, uH, uV, uO, uB, uD, hh, Bool.and_assoc]
      have e1 : (if eqB 6 a 0 0 0 0 0 6 a b c d e f = false then (2 : Int) else 0) = chkO ⟨6, a, b, c, d, e, f⟩ := by
        rw [chkO, e0]
        simp [uH]
      rw [← e1]
      exact ccheck_6 a b c d e f w
    · have e0 : Ox.formed ⟨7, a, b, c, d, e, f⟩ = eqB 7 a 0 c d 0 0 7 a b c d e f := by
        have hh : ∀ x : Int, decide ((0 : Int) = x) = decide (x = 0) := fun x => decide_eq_decide.2 ⟨Eq.symm, Eq.symm⟩
        simp [Ox.formed, eqB, uK, uH, uV, uO, uB, uD, hh, Bool.and_assoc]
      have e1 : (if eqB 7 a 0 c d 0 0 7 a b c d e f = false then (2 : Int) else 0) = chkO ⟨7, a, b, c, d, e, f⟩ := by
        rw [chkO, e0]
        simp [uH]
      rw [← e1]
      exact ccheck_7 a b c d e f w
    · have e0 : Ox.formed ⟨8, a, b, c, d, e, f⟩ = eqB 8 a b 0 0 e f 8 a b c d e f := by
        have hh : ∀ x : Int, decide ((0 : Int) = x) = decide (x = 0) := fun x => decide_eq_decide.2 ⟨Eq.symm, Eq.symm⟩
        simp [Ox.formed, eqB, uK, uH, uV, uO, uB, uD, hh, Bool.and_assoc]
      have e1 : (if eqB 8 a b 0 0 e f 8 a b c d e f = false then (2 : Int) else if spE a b ≠ 0 ∨ e = 0 then 13 else if 18446744073709551615 - e < b then 12 else 0) = chkO ⟨8, a, b, c, d, e, f⟩ := by
        rw [chkO, e0]
        congr 1
        simp only [spE, uH]
        by_cases h1 : a ≤ b
        · have h2 : ¬ b < a := by omega
          simp [h1, h2]
        · have h2 : b < a := by omega
          simp [h1, h2]
      rw [← e1]
      exact ccheck_8 a b c d e f he w
    · have e0 : Ox.formed ⟨9, a, b, c, d, e, f⟩ = eqB 9 a b 0 0 0 0 9 a b c d e f := by
        have hh : ∀ x : Int, decide ((0 : Int) = x) = decide (x = 0) := fun x => decide_eq_decide.2 ⟨Eq.symm, Eq.symm⟩
        simp [Ox.formed, eqB, uK, uH, uV, uO, uB, uD, hh, Bool.and_assoc]
      have e1 : (if eqB 9 a b 0 0 0 0 9 a b c d e f = false then (2 : Int) else if spE a b ≠ 0 then 13 else 0) = chkO ⟨9, a, b, c, d, e, f⟩ := by
        rw [chkO, e0]
        congr 1
        simp only [spE, uH]
        by_cases h1 : a ≤ b
        · have h2 : ¬ b < a := by omega
          simp [h1, h2]
        · have h2 : b < a := by omega
          simp [h1, h2]
      rw [← e1]
      exact ccheck_9 a b c d e f w
    · have e0 : Ox.formed ⟨10, a, b, c, d, e, f⟩ = eqB 10 0 0 0 0 0 0 10 a b c d e f := by
        have hh : ∀ x : Int, decide ((0 : Int) = x) = decide (x = 0) := fun x => decide_eq_decide.2 ⟨Eq.symm, Eq.symm⟩
        simp [Ox.formed, eqB, uK, uH, uV, uO, uB, uD, hh, Bool.and_assoc]
      have e1 : (if eqB 10 0 0 0 0 0 0 10 a b c d e f = false then (2 : Int) else 0) = chkO ⟨10, a, b, c, d, e, f⟩ := by
        rw [chkO, e0]
        simp [uH]
      rw [← e1]
      exact ccheck_10 a b c d e f w
    · have e0 : Ox.formed ⟨11, a, b, c, d, e, f⟩ = eqB 11 a b 0 0 0 0 11 a b c d e f := by
        have hh : ∀ x : Int, decide ((0 : Int) = x) = decide (x = 0) := fun x => decide_eq_decide.2 ⟨Eq.symm, Eq.symm⟩
        simp [Ox.formed, eqB, uK, uH, uV, uO, uB, uD, hh, Bool.and_assoc]
      have e1 : (if eqB 11 a b 0 0 0 0 11 a b c d e f = false then (2 : Int) else if spE a b ≠ 0 then 13 else 0) = chkO ⟨11, a, b, c, d, e, f⟩ := by
        rw [chkO, e0]
        congr 1
        simp only [spE, uH]
        by_cases h1 : a ≤ b
        · have h2 : ¬ b < a := by omega
          simp [h1, h2]
        · have h2 : b < a := by omega
          simp [h1, h2]
      rw [← e1]
      exact ccheck_11 a b c d e f w
    · have e0 : Ox.formed ⟨12, a, b, c, d, e, f⟩ = eqB 12 0 0 0 0 0 0 12 a b c d e f := by
        have hh : ∀ x : Int, decide ((0 : Int) = x) = decide (x = 0) := fun x => decide_eq_decide.2 ⟨Eq.symm, Eq.symm⟩
        simp [Ox.formed, eqB, uK, uH, uV, uO, uB, uD, hh, Bool.and_assoc]
      have e1 : (if eqB 12 0 0 0 0 0 0 12 a b c d e f = false then (2 : Int) else 0) = chkO ⟨12, a, b, c, d, e, f⟩ := by
        rw [chkO, e0]
        simp [uH]
      rw [← e1]
      exact ccheck_12 a b c d e f w
    · have e0 : Ox.formed ⟨13, a, b, c, d, e, f⟩ = eqB 13 a 0 0 0 0 0 13 a b c d e f := by
        have hh : ∀ x : Int, decide ((0 : Int) = x) = decide (x = 0) := fun x => decide_eq_decide.2 ⟨Eq.symm, Eq.symm⟩
        simp [Ox.formed, eqB, uK, uH, uV, uO, uB, uD, hh, Bool.and_assoc]
      have e1 : (if eqB 13 a 0 0 0 0 0 13 a b c d e f = false then (2 : Int) else 0) = chkO ⟨13, a, b, c, d, e, f⟩ := by
        rw [chkO, e0]
        simp [uH]
      rw [← e1]
      exact ccheck_13 a b c d e f w
    · have e0 : Ox.formed ⟨14, a, b, c, d, e, f⟩ = eqB 14 0 0 0 0 0 0 14 a b c d e f := by
        have hh : ∀ x : Int, decide ((0 : Int) = x) = decide (x = 0) := fun x => decide_eq_decide.2 ⟨Eq.symm, Eq.symm⟩
        simp [Ox.formed, eqB, uK, uH, uV, uO, uB, uD, hh, Bool.and_assoc]
      have e1 : (if eqB 14 0 0 0 0 0 0 14 a b c d e f = false then (2 : Int) else 0) = chkO ⟨14, a, b, c, d, e, f⟩ := by
        rw [chkO, e0]
        simp [uH]
      rw [← e1]
      exact ccheck_14 a b c d e f w
    · have e0 : Ox.formed ⟨15, a, b, c, d, e, f⟩ = eqB 15 0 0 0 0 0 0 15 a b c d e f := by
        have hh : ∀ x : Int, decide ((0 : Int) = x) = decide (x = 0) := fun x => decide_eq_decide.2 ⟨Eq.symm, Eq.symm⟩
        simp [Ox.formed, eqB, uK, uH, uV, uO, uB, uD, hh, Bool.and_assoc]
      have e1 : (if eqB 15 0 0 0 0 0 0 15 a b c d e f = false then (2 : Int) else 0) = chkO ⟨15, a, b, c, d, e, f⟩ := by
        rw [chkO, e0]
        simp [uH]
      rw [← e1]
      exact ccheck_15 a b c d e f w
  · have e1 : chkO ⟨k, a, b, c, d, e, f⟩ = 2 := by
      unfold chkO Ox.formed
      simp only
      rw [if_pos]
      by_cases h1 : 1 ≤ k
      · have h2 : decide (k ≤ 15) = false := by simp; omega
        simp [h2]
      · simp [h1]
    rw [e1]; exact ccheck_out k a b c d e f (by omega) w
end Go.Proofs.YtkikdpdainmlcaaGreat
namespace Go.Proofs.YtkikdpdainmlcaaGreat
open Go.RowKit Go.Xt
/-! refusal at any operation. -/
def refE (x : Th) (o : Ox) : Int :=
  if o.k = 1 then (if x.se = true then 8 else 0)
  else if x.se = false then 10
  else if (o.k = 2 ∨ o.k = 11) ∧ x.op = true then 8
  else if (o.k = 12 ∨ o.k = 13 ∨ o.k = 14) ∧ x.op = false then 8
  else if o.k = 13 ∧ (x.mo = false ∨ o.key < x.lo) then 13
  else if o.k = 12 ∧ x.mo = false then 14
  else 0
def refM (s : Md) (t : Int) (o : Ox) : Int := if t < 0 ∨ (s.th.length : Int) ≤ t then 2 else if chkO o ≠ 0 then chkO o else match s.th[t.toNat]? with
  | some x => refE x o
  | none => 2
set_option maxRecDepth 20000 in
set_option maxHeartbeats 4000000 in
theorem refu_out (w : World) (p : Pl) (s : Md) (h : MAt w p s) (t : Int) (o : Ox) (ht : t < 0 ∨ (s.th.length : Int) ≤ t) :
    Calls Tryz.prog 102 #[.pointer (some ⟨p.gm, 0, none⟩), .int .i64 t, opV o] w fun e w' => e = .returned (.int .i64 2) ∧ Nw w w' := by
  obtain ⟨ct, m2⟩ := h.m2
  haveI : In p.gm w := ⟨h.im⟩
  obtain ⟨n, hn⟩ : ∃ n, n = s.th.length := ⟨_, rfl⟩
  rw [← hn] at m2 ht
  obtain ⟨gm, hgm⟩ : ∃ g, g = p.gm := ⟨_, rfl⟩
  rw [← hgm] at m2 ⊢
  haveI : In gm w := ⟨hgm ▸ h.im⟩
  unfold opV
  clear h hn hgm
  by_cases h0 : t < 0
  · have d0 : decide (t < 0) = true := by simp; omega
    go_enter Tryz.func102, Tryz.ntmps102
    go_wp2
    go_ret
    exact ⟨rfl, nwa⟩
  · have d0 : decide (t < 0) = false := by simp; omega
    have d1 : decide ((n : Int) ≤ t) = true := by simp; omega
    go_enter Tryz.func102, Tryz.ntmps102
    go_wp2
    go_ret
    exact ⟨rfl, nwa⟩
set_option maxRecDepth 20000 in
set_option maxHeartbeats 4000000 in
theorem refu_chk (w : World) (p : Pl) (s : Md) (h : MAt w p s) (t : Nat) (x : Th) (ht : s.th[t]? = some x) (o : Ox) (hw : o.Wf) (hc : chkO o ≠ 0) :
    Calls Tryz.prog 102 #[.pointer (some ⟨p.gm, 0, none⟩), .int .i64 t, opV o] w fun e w' => e = .returned (.int .i64 (chkO o)) ∧ Nw w w' := by
  have HC := Lib.hid (fun W => check_any o hw W)
  obtain ⟨z, hz⟩ : ∃ z, z = chkO o := ⟨_, rfl⟩
  rw [← hz] at HC hc ⊢
  have z0 : (z == 0) = false := by simp; omega
  unfold opV at HC ⊢
  obtain ⟨p0, _⟩ := List.getElem?_eq_some_iff.1 ht
  obtain ⟨c0, c1, c2, c3, c4⟩ := h.th.cells ht
  obtain ⟨ct, m2⟩ := h.m2
  have im := h.im
  have it := h.it
  obtain ⟨gm, hgm⟩ : ∃ g, g = p.gm := ⟨_, rfl⟩
  obtain ⟨gt, hgt⟩ : ∃ g, g = p.gt := ⟨_, rfl⟩
  obtain ⟨n, hn⟩ : ∃ n, n = s.th.length := ⟨_, rfl⟩
  rw [← hgm, ← hgt, ← hn] at m2
  rw [← hgt] at c0 c1 c2 c3 c4 it
  rw [← hgm] at im
  rw [← hgm]
  rw [← hn] at p0
  haveI : In gm w := ⟨im⟩
  haveI : In gt w := ⟨it⟩
  have t0 : (0 : Int) ≤ (t : Int) := by omega
  have t1 : (t : Int) < (n : Int) := by omega
  have d0 : decide ((t : Int) < 0) = false := by rw [decide_eq_false_iff_not]; omega
  have d1 : decide ((n : Int) ≤ (t : Int)) = false := by rw [decide_eq_false_iff_not]; omega
  clear h ht hn hz hgm hgt im it hc
  go_enter Tryz.func102, Tryz.ntmps102
  go_wp2_with (go_at_call 118; refine (HC.out _).mono ?_; rintro e w' ⟨rfl, dW, rfl⟩)
  go_ret
  exact ⟨rfl, nwa⟩
set_option maxRecDepth 20000 in
set_option maxHeartbeats 4000000 in
theorem refu_1_0 (w : World) (p : Pl) (s : Md) (h : MAt w p s) (t : Nat) (op mo : Bool) (lo hi : Int) (ht : s.th[t]? = some ⟨op, mo, lo, hi, true⟩) (a b c d e f : Int) (HC : Hid (∀ W, Calls Tryz.prog 118 #[op7 1 a b c d e f] W fun e w' => e = .returned (.int .i64 0) ∧ Nw W w')) :
    Calls Tryz.prog 102 #[.pointer (some ⟨p.gm, 0, none⟩), .int .i64 t, op7 1 a b c d e f] w fun e w' => e = .returned (.int .i64 8) ∧ Nw w w' := by
  obtain ⟨p0, _⟩ := List.getElem?_eq_some_iff.1 ht
  obtain ⟨c0, c1, c2, c3, c4⟩ := h.th.cells ht
  obtain ⟨ct, m2⟩ := h.m2
  have im := h.im
  have it := h.it
  obtain ⟨gm, hgm⟩ : ∃ g, g = p.gm := ⟨_, rfl⟩
  obtain ⟨gt, hgt⟩ : ∃ g, g = p.gt := ⟨_, rfl⟩
  obtain ⟨n, hn⟩ : ∃ n, n = s.th.length := ⟨_, rfl⟩
  rw [← hgm, ← hgt, ← hn] at m2
  rw [← hgt] at c0 c1 c2 c3 c4 it
  rw [← hgm] at im
  rw [← hgm]
  rw [← hn] at p0
  haveI : In gm w := ⟨im⟩
  haveI : In gt w := ⟨it⟩
  have t0 : (0 : Int) ≤ (t : Int) := by omega
  have t1 : (t : Int) < (n : Int) := by omega
  have d0 : decide ((t : Int) < 0) = false := by rw [decide_eq_false_iff_not]; omega
  have d1 : decide ((n : Int) ≤ (t : Int)) = false := by rw [decide_eq_false_iff_not]; omega
  clear h ht hn hgm hgt im it
  go_enter Tryz.func102, Tryz.ntmps102
  go_wp2_with (go_at_call 118; refine (HC.out _).mono ?_; rintro e w' ⟨rfl, dW, rfl⟩)
  go_ret
  exact ⟨rfl, nwa⟩
set_option maxRecDepth 20000 in
set_option maxHeartbeats 4000000 in
theorem refu_1_1 (w : World) (p : Pl) (s : Md) (h : MAt w p s) (t : Nat) (op mo : Bool) (lo hi : Int) (ht : s.th[t]? = some ⟨op, mo, lo, hi, false⟩) (a b c d e f : Int) (HC : Hid (∀ W, Calls Tryz.prog 118 #[op7 1 a b c d e f] W fun e w' => e = .returned (.int .i64 0) ∧ Nw W w')) :
    Calls Tryz.prog 102 #[.pointer (some ⟨p.gm, 0, none⟩), .int .i64 t, op7 1 a b c d e f] w fun e w' => e = .returned (.int .i64 0) ∧ Nw w w' := by
  obtain ⟨p0, _⟩ := List.getElem?_eq_some_iff.1 ht
  obtain ⟨c0, c1, c2, c3, c4⟩ := h.th.cells ht
  obtain ⟨ct, m2⟩ := h.m2
  have im := h.im
  have it := h.it
  obtain ⟨gm, hgm⟩ : ∃ g, g = p.gm := ⟨_, rfl⟩
  obtain ⟨gt, hgt⟩ : ∃ g, g = p.gt := ⟨_, rfl⟩
  obtain ⟨n, hn⟩ : ∃ n, n = s.th.length := ⟨_, rfl⟩
  rw [← hgm, ← hgt, ← hn] at m2
  rw [← hgt] at c0 c1 c2 c3 c4 it
  rw [← hgm] at im
  rw [← hgm]
  rw [← hn] at p0
  haveI : In gm w := ⟨im⟩
  haveI : In gt w := ⟨it⟩
  have t0 : (0 : Int) ≤ (t : Int) := by omega
  have t1 : (t : Int) < (n : Int) := by omega
  have d0 : decide ((t : Int) < 0) = false := by rw [decide_eq_false_iff_not]; omega
  have d1 : decide ((n : Int) ≤ (t : Int)) = false := by rw [decide_eq_false_iff_not]; omega
  clear h ht hn hgm hgt im it
  go_enter Tryz.func102, Tryz.ntmps102
  go_wp2_with (go_at_call 118; refine (HC.out _).mono ?_; rintro e w' ⟨rfl, dW, rfl⟩)
  (refine wp_region_nw (by kernel_rfl) (by kernel_rfl) ?_; (repeat (go_big_quiet_step (fail))); refine wpQuiet_nil ?_; intro _ hreg; obtain ⟨dW, rfl⟩ : Nw _ _ := hreg)
  go_wp2
  go_ret
  exact ⟨rfl, nwa⟩
set_option maxRecDepth 20000 in
set_option maxHeartbeats 4000000 in
theorem refu_2_0 (w : World) (p : Pl) (s : Md) (h : MAt w p s) (t : Nat) (op mo : Bool) (lo hi : Int) (ht : s.th[t]? = some ⟨op, mo, lo, hi, false⟩) (a b c d e f : Int) (HC : Hid (∀ W, Calls Tryz.prog 118 #[op7 2 a b c d e f] W fun e w' => e = .returned (.int .i64 0) ∧ Nw W w')) :
    Calls Tryz.prog 102 #[.pointer (some ⟨p.gm, 0, none⟩), .int .i64 t, op7 2 a b c d e f] w fun e w' => e = .returned (.int .i64 10) ∧ Nw w w' := by
  obtain ⟨p0, _⟩ := List.getElem?_eq_some_iff.1 ht
  obtain ⟨c0, c1, c2, c3, c4⟩ := h.th.cells ht
  obtain ⟨ct, m2⟩ := h.m2
  have im := h.im
  have it := h.it
  obtain ⟨gm, hgm⟩ : ∃ g, g = p.gm := ⟨_, rfl⟩
  obtain ⟨gt, hgt⟩ : ∃ g, g = p.gt := ⟨_, rfl⟩
  obtain ⟨n, hn⟩ : ∃ n, n = s.th.length := ⟨_, rfl⟩
  rw [← hgm, ← hgt, ← hn] at m2
  rw [← hgt] at c0 c1 c2 c3 c4 it
  rw [← hgm] at im
  rw [← hgm]
  rw [← hn] at p0
  haveI : In gm w := ⟨im⟩
  haveI : In gt w := ⟨it⟩
  have t0 : (0 : Int) ≤ (t : Int) := by omega
  have t1 : (t : Int) < (n : Int) := by omega
  have d0 : decide ((t : Int) < 0) = false := by rw [decide_eq_false_iff_not]; omega
  have d1 : decide ((n : Int) ≤ (t : Int)) = false := by rw [decide_eq_false_iff_not]; omega
  clear h ht hn hgm hgt im it
  go_enter Tryz.func102, Tryz.ntmps102
  go_wp2_with (go_at_call 118; refine (HC.out _).mono ?_; rintro e w' ⟨rfl, dW, rfl⟩)
  go_ret
  exact ⟨rfl, nwa⟩
set_option maxRecDepth 20000 in
set_option maxHeartbeats 4000000 in
theorem refu_2_1 (w : World) (p : Pl) (s : Md) (h : MAt w p s) (t : Nat) (mo : Bool) (lo hi : Int) (ht : s.th[t]? = some ⟨true, mo, lo, hi, true⟩) (a b c d e f : Int) (HC : Hid (∀ W, Calls Tryz.prog 118 #[op7 2 a b c d e f] W fun e w' => e = .returned (.int .i64 0) ∧ Nw W w')) :
    Calls Tryz.prog 102 #[.pointer (some ⟨p.gm, 0, none⟩), .int .i64 t, op7 2 a b c d e f] w fun e w' => e = .returned (.int .i64 8) ∧ Nw w w' := by
  obtain ⟨p0, _⟩ := List.getElem?_eq_some_iff.1 ht
  obtain ⟨c0, c1, c2, c3, c4⟩ := h.th.cells ht
  obtain ⟨ct, m2⟩ := h.m2
  have im := h.im
  have it := h.it
  obtain ⟨gm, hgm⟩ : ∃ g, g = p.gm := ⟨_, rfl⟩
  obtain ⟨gt, hgt⟩ : ∃ g, g = p.gt := ⟨_, rfl⟩
  obtain ⟨n, hn⟩ : ∃ n, n = s.th.length := ⟨_, rfl⟩
  rw [← hgm, ← hgt, ← hn] at m2
  rw [← hgt] at c0 c1 c2 c3 c4 it
  rw [← hgm] at im
  rw [← hgm]
  rw [← hn] at p0
  haveI : In gm w := ⟨im⟩
  haveI : In gt w := ⟨it⟩
  have t0 : (0 : Int) ≤ (t : Int) := by omega
  have t1 : (t : Int) < (n : Int) := by omega
  have d0 : decide ((t : Int) < 0) = false := by rw [decide_eq_false_iff_not]; omega
  have d1 : decide ((n : Int) ≤ (t : Int)) = false := by rw [decide_eq_false_iff_not]; omega
  clear h ht hn hgm hgt im it
  go_enter Tryz.func102, Tryz.ntmps102
  go_wp2_with (go_at_call 118; refine (HC.out _).mono ?_; rintro e w' ⟨rfl, dW, rfl⟩)
  go_ret
  exact ⟨rfl, nwa⟩
set_option maxRecDepth 20000 in
set_option maxHeartbeats 4000000 in
theorem refu_2_2 (w : World) (p : Pl) (s : Md) (h : MAt w p s) (t : Nat) (mo : Bool) (lo hi : Int) (ht : s.th[t]? = some ⟨false, mo, lo, hi, true⟩) (a b c d e f : Int) (HC : Hid (∀ W, Calls Tryz.prog 118 #[op7 2 a b c d e f] W fun e w' => e = .returned (.int .i64 0) ∧ Nw W w')) :
    Calls Tryz.prog 102 #[.pointer (some ⟨p.gm, 0, none⟩), .int .i64 t, op7 2 a b c d e f] w fun e w' => e = .returned (.int .i64 0) ∧ Nw w w' := by
  obtain ⟨p0, _⟩ := List.getElem?_eq_some_iff.1 ht
  obtain ⟨c0, c1, c2, c3, c4⟩ := h.th.cells ht
  obtain ⟨ct, m2⟩ := h.m2
  have im := h.im
  have it := h.it
  obtain ⟨gm, hgm⟩ : ∃ g, g = p.gm := ⟨_, rfl⟩
  obtain ⟨gt, hgt⟩ : ∃ g, g = p.gt := ⟨_, rfl⟩
  obtain ⟨n, hn⟩ : ∃ n, n = s.th.length := ⟨_, rfl⟩
  rw [← hgm, ← hgt, ← hn] at m2
  rw [← hgt] at c0 c1 c2 c3 c4 it
  rw [← hgm] at im
  rw [← hgm]
  rw [← hn] at p0
  haveI : In gm w := ⟨im⟩
  haveI : In gt w := ⟨it⟩
  have t0 : (0 : Int) ≤ (t : Int) := by omega
  have t1 : (t : Int) < (n : Int) := by omega
  have d0 : decide ((t : Int) < 0) = false := by rw [decide_eq_false_iff_not]; omega
  have d1 : decide ((n : Int) ≤ (t : Int)) = false := by rw [decide_eq_false_iff_not]; omega
  clear h ht hn hgm hgt im it
  go_enter Tryz.func102, Tryz.ntmps102
  go_wp2_with (go_at_call 118; refine (HC.out _).mono ?_; rintro e w' ⟨rfl, dW, rfl⟩)
  (refine wp_region_nw (by kernel_rfl) (by kernel_rfl) ?_; (repeat (go_big_quiet_step (fail))); refine wpQuiet_nil ?_; intro _ hreg; obtain ⟨dW, rfl⟩ : Nw _ _ := hreg)
  go_wp2
  go_ret
  exact ⟨rfl, nwa⟩
set_option maxRecDepth 20000 in
set_option maxHeartbeats 4000000 in
theorem refu_3_0 (w : World) (p : Pl) (s : Md) (h : MAt w p s) (t : Nat) (op mo : Bool) (lo hi : Int) (ht : s.th[t]? = some ⟨op, mo, lo, hi, false⟩) (a b c d e f : Int) (HC : Hid (∀ W, Calls Tryz.prog 118 #[op7 3 a b c d e f] W fun e w' => e = .returned (.int .i64 0) ∧ Nw W w')) :
    Calls Tryz.prog 102 #[.pointer (some ⟨p.gm, 0, none⟩), .int .i64 t, op7 3 a b c d e f] w fun e w' => e = .returned (.int .i64 10) ∧ Nw w w' := by
  obtain ⟨p0, _⟩ := List.getElem?_eq_some_iff.1 ht
  obtain ⟨c0, c1, c2, c3, c4⟩ := h.th.cells ht
  obtain ⟨ct, m2⟩ := h.m2
  have im := h.im
  have it := h.it
  obtain ⟨gm, hgm⟩ : ∃ g, g = p.gm := ⟨_, rfl⟩
  obtain ⟨gt, hgt⟩ : ∃ g, g = p.gt := ⟨_, rfl⟩
  obtain ⟨n, hn⟩ : ∃ n, n = s.th.length := ⟨_, rfl⟩
  rw [← hgm, ← hgt, ← hn] at m2
  rw [← hgt] at c0 c1 c2 c3 c4 it
  rw [← hgm] at im
  rw [← hgm]
  rw [← hn] at p0
  haveI : In gm w := ⟨im⟩
  haveI : In gt w := ⟨it⟩
  have t0 : (0 : Int) ≤ (t : Int) := by omega
  have t1 : (t : Int) < (n : Int) := by omega
  have d0 : decide ((t : Int) < 0) = false := by rw [decide_eq_false_iff_not]; omega
  have d1 : decide ((n : Int) ≤ (t : Int)) = false := by rw [decide_eq_false_iff_not]; omega
  clear h ht hn hgm hgt im it
  go_enter Tryz.func102, Tryz.ntmps102
  go_wp2_with (go_at_call 118; refine (HC.out _).mono ?_; rintro e w' ⟨rfl, dW, rfl⟩)
  go_ret
  exact ⟨rfl, nwa⟩
set_option maxRecDepth 20000 in
set_option maxHeartbeats 4000000 in
theorem refu_3_1 (w : World) (p : Pl) (s : Md) (h : MAt w p s) (t : Nat) (op mo : Bool) (lo hi : Int) (ht : s.th[t]? = some ⟨op, mo, lo, hi, true⟩) (a b c d e f : Int) (HC : Hid (∀ W, Calls Tryz.prog 118 #[op7 3 a b c d e f] W fun e w' => e = .returned (.int .i64 0) ∧ Nw W w')) :
    Calls Tryz.prog 102 #[.pointer (some ⟨p.gm, 0, none⟩), .int .i64 t, op7 3 a b c d e f] w fun e w' => e = .returned (.int .i64 0) ∧ Nw w w' := by
  obtain ⟨p0, _⟩ := List.getElem?_eq_some_iff.1 ht
  obtain ⟨c0, c1, c2, c3, c4⟩ := h.th.cells ht
  obtain ⟨ct, m2⟩ := h.m2
  have im := h.im
  have it := h.it
  obtain ⟨gm, hgm⟩ : ∃ g, g = p.gm := ⟨_, rfl⟩
  obtain ⟨gt, hgt⟩ : ∃ g, g = p.gt := ⟨_, rfl⟩
  obtain ⟨n, hn⟩ : ∃ n, n = s.th.length := ⟨_, rfl⟩
  rw [← hgm, ← hgt, ← hn] at m2
  rw [← hgt] at c0 c1 c2 c3 c4 it
  rw [← hgm] at im
  rw [← hgm]
  rw [← hn] at p0
  haveI : In gm w := ⟨im⟩
  haveI : In gt w := ⟨it⟩
  have t0 : (0 : Int) ≤ (t : Int) := by omega
  have t1 : (t : Int) < (n : Int) := by omega
  have d0 : decide ((t : Int) < 0) = false := by rw [decide_eq_false_iff_not]; omega
  have d1 : decide ((n : Int) ≤ (t : Int)) = false := by rw [decide_eq_false_iff_not]; omega
  clear h ht hn hgm hgt im it
  go_enter Tryz.func102, Tryz.ntmps102
  go_wp2_with (go_at_call 118; refine (HC.out _).mono ?_; rintro e w' ⟨rfl, dW, rfl⟩)
  (refine wp_region_nw (by kernel_rfl) (by kernel_rfl) ?_; (repeat (go_big_quiet_step (fail))); refine wpQuiet_nil ?_; intro _ hreg; obtain ⟨dW, rfl⟩ : Nw _ _ := hreg)
  go_wp2
  go_ret
  exact ⟨rfl, nwa⟩
set_option maxRecDepth 20000 in
set_option maxHeartbeats 4000000 in
theorem refu_4_0 (w : World) (p : Pl) (s : Md) (h : MAt w p s) (t : Nat) (op mo : Bool) (lo hi : Int) (ht : s.th[t]? = some ⟨op, mo, lo, hi, false⟩) (a b c d e f : Int) (HC : Hid (∀ W, Calls Tryz.prog 118 #[op7 4 a b c d e f] W fun e w' => e = .returned (.int .i64 0) ∧ Nw W w')) :
    Calls Tryz.prog 102 #[.pointer (some ⟨p.gm, 0, none⟩), .int .i64 t, op7 4 a b c d e f] w fun e w' => e = .returned (.int .i64 10) ∧ Nw w w' := by
  obtain ⟨p0, _⟩ := List.getElem?_eq_some_iff.1 ht
  obtain ⟨c0, c1, c2, c3, c4⟩ := h.th.cells ht
  obtain ⟨ct, m2⟩ := h.m2
  have im := h.im
  have it := h.it
  obtain ⟨gm, hgm⟩ : ∃ g, g = p.gm := ⟨_, rfl⟩
  obtain ⟨gt, hgt⟩ : ∃ g, g = p.gt := ⟨_, rfl⟩
  obtain ⟨n, hn⟩ : ∃ n, n = s.th.length := ⟨_, rfl⟩
  rw [← hgm, ← hgt, ← hn] at m2
  rw [← hgt] at c0 c1 c2 c3 c4 it
  rw [← hgm] at im
  rw [← hgm]
  rw [← hn] at p0
  haveI : In gm w := ⟨im⟩
  haveI : In gt w := ⟨it⟩
  have t0 : (0 : Int) ≤ (t : Int) := by omega
  have t1 : (t : Int) < (n : Int) := by omega
  have d0 : decide ((t : Int) < 0) = false := by rw [decide_eq_false_iff_not]; omega
  have d1 : decide ((n : Int) ≤ (t : Int)) = false := by rw [decide_eq_false_iff_not]; omega
  clear h ht hn hgm hgt im it
  go_enter Tryz.func102, Tryz.ntmps102
  go_wp2_with (go_at_call 118; refine (HC.out _).mono ?_; rintro e w' ⟨rfl, dW, rfl⟩)
  go_ret
  exact ⟨rfl, nwa⟩
set_option maxRecDepth 20000 in
set_option maxHeartbeats 4000000 in
theorem refu_4_1 (w : World) (p : Pl) (s : Md) (h : MAt w p s) (t : Nat) (op mo : Bool) (lo hi : Int) (ht : s.th[t]? = some ⟨op, mo, lo, hi, true⟩) (a b c d e f : Int) (HC : Hid (∀ W, Calls Tryz.prog 118 #[op7 4 a b c d e f] W fun e w' => e = .returned (.int .i64 0) ∧ Nw W w')) :
    Calls Tryz.prog 102 #[.pointer (some ⟨p.gm, 0, none⟩), .int .i64 t, op7 4 a b c d e f] w fun e w' => e = .returned (.int .i64 0) ∧ Nw w w' := by
  obtain ⟨p0, _⟩ := List.getElem?_eq_some_iff.1 ht
  obtain ⟨c0, c1, c2, c3, c4⟩ := h.th.cells ht
  obtain ⟨ct, m2⟩ := h.m2
  have im := h.im
  have it := h.it
  obtain ⟨gm, hgm⟩ : ∃ g, g = p.gm := ⟨_, rfl⟩
  obtain ⟨gt, hgt⟩ : ∃ g, g = p.gt := ⟨_, rfl⟩
  obtain ⟨n, hn⟩ : ∃ n, n = s.th.length := ⟨_, rfl⟩
  rw [← hgm, ← hgt, ← hn] at m2
  rw [← hgt] at c0 c1 c2 c3 c4 it
  rw [← hgm] at im
  rw [← hgm]
  rw [← hn] at p0
  haveI : In gm w := ⟨im⟩
  haveI : In gt w := ⟨it⟩
  have t0 : (0 : Int) ≤ (t : Int) := by omega
  have t1 : (t : Int) < (n : Int) := by omega
  have d0 : decide ((t : Int) < 0) = false := by rw [decide_eq_false_iff_not]; omega
  have d1 : decide ((n : Int) ≤ (t : Int)) = false := by rw [decide_eq_false_iff_not]; omega
  clear h ht hn hgm hgt im it
  go_enter Tryz.func102, Tryz.ntmps102
  go_wp2_with (go_at_call 118; refine (HC.out _).mono ?_; rintro e w' ⟨rfl, dW, rfl⟩)
  (refine wp_region_nw (by kernel_rfl) (by kernel_rfl) ?_; (repeat (go_big_quiet_step (fail))); refine wpQuiet_nil ?_; intro _ hreg; obtain ⟨dW, rfl⟩ : Nw _ _ := hreg)
  go_wp2
  go_ret
  exact ⟨rfl, nwa⟩
set_option maxRecDepth 20000 in
set_option maxHeartbeats 4000000 in
theorem refu_5_0 (w : World) (p : Pl) (s : Md) (h : MAt w p s) (t : Nat) (op mo : Bool) (lo hi : Int) (ht : s.th[t]? = some ⟨op, mo, lo, hi, false⟩) (a b c d e f : Int) (HC : Hid (∀ W, Calls Tryz.prog 118 #[op7 5 a b c d e f] W fun e w' => e = .returned (.int .i64 0) ∧ Nw W w')) :
    Calls Tryz.prog 102 #[.pointer (some ⟨p.gm, 0, none⟩), .int .i64 t, op7 5 a b c d e f] w fun e w' => e = .returned (.int .i64 10) ∧ Nw w w' := by
  obtain ⟨p0, _⟩ := List.getElem?_eq_some_iff.1 ht
  obtain ⟨c0, c1, c2, c3, c4⟩ := h.th.cells ht
  obtain ⟨ct, m2⟩ := h.m2
  have im := h.im
  have it := h.it
  obtain ⟨gm, hgm⟩ : ∃ g, g = p.gm := ⟨_, rfl⟩
  obtain ⟨gt, hgt⟩ : ∃ g, g = p.gt := ⟨_, rfl⟩
  obtain ⟨n, hn⟩ : ∃ n, n = s.th.length := ⟨_, rfl⟩
  rw [← hgm, ← hgt, ← hn] at m2
  rw [← hgt] at c0 c1 c2 c3 c4 it
  rw [← hgm] at im
  rw [← hgm]
  rw [← hn] at p0
  haveI : In gm w := ⟨im⟩
  haveI : In gt w := ⟨it⟩
  have t0 : (0 : Int) ≤ (t : Int) := by omega
  have t1 : (t : Int) < (n : Int) := by omega
  have d0 : decide ((t : Int) < 0) = false := by rw [decide_eq_false_iff_not]; omega
  have d1 : decide ((n : Int) ≤ (t : Int)) = false := by rw [decide_eq_false_iff_not]; omega
  clear h ht hn hgm hgt im it
  go_enter Tryz.func102, Tryz.ntmps102
  go_wp2_with (go_at_call 118; refine (HC.out _).mono ?_; rintro e w' ⟨rfl, dW, rfl⟩)
  go_ret
  exact ⟨rfl, nwa⟩
set_option maxRecDepth 20000 in
set_option maxHeartbeats 4000000 in
theorem refu_5_1 (w : World) (p : Pl) (s : Md) (h : MAt w p s) (t : Nat) (op mo : Bool) (lo hi : Int) (ht : s.th[t]? = some ⟨op, mo, lo, hi, true⟩) (a b c d e f : Int) (HC : Hid (∀ W, Calls Tryz.prog 118 #[op7 5 a b c d e f] W fun e w' => e = .returned (.int .i64 0) ∧ Nw W w')) :
    Calls Tryz.prog 102 #[.pointer (some ⟨p.gm, 0, none⟩), .int .i64 t, op7 5 a b c d e f] w fun e w' => e = .returned (.int .i64 0) ∧ Nw w w' := by
  obtain ⟨p0, _⟩ := List.getElem?_eq_some_iff.1 ht
  obtain ⟨c0, c1, c2, c3, c4⟩ := h.th.cells ht
  obtain ⟨ct, m2⟩ := h.m2
  have im := h.im
  have it := h.it
  obtain ⟨gm, hgm⟩ : ∃ g, g = p.gm := ⟨_, rfl⟩
  obtain ⟨gt, hgt⟩ : ∃ g, g = p.gt := ⟨_, rfl⟩
  obtain ⟨n, hn⟩ : ∃ n, n = s.th.length := ⟨_, rfl⟩
  rw [← hgm, ← hgt, ← hn] at m2
  rw [← hgt] at c0 c1 c2 c3 c4 it
  rw [← hgm] at im
  rw [← hgm]
  rw [← hn] at p0
  haveI : In gm w := ⟨im⟩
  haveI : In gt w := ⟨it⟩
  have t0 : (0 : Int) ≤ (t : Int) := by omega
  have t1 : (t : Int) < (n : Int) := by omega
  have d0 : decide ((t : Int) < 0) = false := by rw [decide_eq_false_iff_not]; omega
  have d1 : decide ((n : Int) ≤ (t : Int)) = false := by rw [decide_eq_false_iff_not]; omega
  clear h ht hn hgm hgt im it
  go_enter Tryz.func102, Tryz.ntmps102
  go_wp2_with (go_at_call 118; refine (HC.out _).mono ?_; rintro e w' ⟨rfl, dW, rfl⟩)
  (refine wp_region_nw (by kernel_rfl) (by kernel_rfl) ?_; (repeat (go_big_quiet_step (fail))); refine wpQuiet_nil ?_; intro _ hreg; obtain ⟨dW, rfl⟩ : Nw _ _ := hreg)
  go_wp2
  go_ret
  exact ⟨rfl, nwa⟩
set_option maxRecDepth 20000 in
set_option maxHeartbeats 4000000 in
theorem refu_6_0 (w : World) (p : Pl) (s : Md) (h : MAt w p s) (t : Nat) (op mo : Bool) (lo hi : Int) (ht : s.th[t]? = some ⟨op, mo, lo, hi, false⟩) (a b c d e f : Int) (HC : Hid (∀ W, Calls Tryz.prog 118 #[op7 6 a b c d e f] W fun e w' => e = .returned (.int .i64 0) ∧ Nw W w')) :
    Calls Tryz.prog 102 #[.pointer (some ⟨p.gm, 0, none⟩), .int .i64 t, op7 6 a b c d e f] w fun e w' => e = .returned (.int .i64 10) ∧ Nw w w' := by
  obtain ⟨p0, _⟩ := List.getElem?_eq_some_iff.1 ht
  obtain ⟨c0, c1, c2, c3, c4⟩ := h.th.cells ht
  obtain ⟨ct, m2⟩ := h.m2
  have im := h.im
  have it := h.it
  obtain ⟨gm, hgm⟩ : ∃ g, g = p.gm := ⟨_, rfl⟩
  obtain ⟨gt, hgt⟩ : ∃ g, g = p.gt := ⟨_, rfl⟩
  obtain ⟨n, hn⟩ : ∃ n, n = s.th.length := ⟨_, rfl⟩
  rw [← hgm, ← hgt, ← hn] at m2
  rw [← hgt] at c0 c1 c2 c3 c4 it
  rw [← hgm] at im
  rw [← hgm]
  rw [← hn] at p0
  haveI : In gm w := ⟨im⟩
  haveI : In gt w := ⟨it⟩
  have t0 : (0 : Int) ≤ (t : Int) := by omega
  have t1 : (t : Int) < (n : Int) := by omega
  have d0 : decide ((t : Int) < 0) = false := by rw [decide_eq_false_iff_not]; omega
  have d1 : decide ((n : Int) ≤ (t : Int)) = false := by rw [decide_eq_false_iff_not]; omega
  clear h ht hn hgm hgt im it
  go_enter Tryz.func102, Tryz.ntmps102
  go_wp2_with (go_at_call 118; refine (HC.out _).mono ?_; rintro e w' ⟨rfl, dW, rfl⟩)
  go_ret
  exact ⟨rfl, nwa⟩
set_option maxRecDepth 20000 in
set_option maxHeartbeats 4000000 in
theorem refu_6_1 (w : World) (p : Pl) (s : Md) (h : MAt w p s) (t : Nat) (op mo : Bool) (lo hi : Int) (ht : s.th[t]? = some ⟨op, mo, lo, hi, true⟩) (a b c d e f : Int) (HC : Hid (∀ W, Calls Tryz.prog 118 #[op7 6 a b c d e f] W fun e w' => e = .returned (.int .i64 0) ∧ Nw W w')) :
    Calls Tryz.prog 102 #[.pointer (some ⟨p.gm, 0, none⟩), .int .i64 t, op7 6 a b c d e f] w fun e w' => e = .returned (.int .i64 0) ∧ Nw w w' := by
  obtain ⟨p0, _⟩ := List.getElem?_eq_some_iff.1 ht
  obtain ⟨c0, c1, c2, c3, c4⟩ := h.th.cells ht
  obtain ⟨ct, m2⟩ := h.m2
  have im := h.im
  have it := h.it
  obtain ⟨gm, hgm⟩ : ∃ g, g = p.gm := ⟨_, rfl⟩
  obtain ⟨gt, hgt⟩ : ∃ g, g = p.gt := ⟨_, rfl⟩
  obtain ⟨n, hn⟩ : ∃ n, n = s.th.length := ⟨_, rfl⟩
  rw [← hgm, ← hgt, ← hn] at m2
  rw [← hgt] at c0 c1 c2 c3 c4 it
  rw [← hgm] at im
  rw [← hgm]
  rw [← hn] at p0
  haveI : In gm w := ⟨im⟩
  haveI : In gt w := ⟨it⟩
  have t0 : (0 : Int) ≤ (t : Int) := by omega
  have t1 : (t : Int) < (n : Int) := by omega
  have d0 : decide ((t : Int) < 0) = false := by rw [decide_eq_false_iff_not]; omega
  have d1 : decide ((n : Int) ≤ (t : Int)) = false := by rw [decide_eq_false_iff_not]; omega
  clear h ht hn hgm hgt im it
  go_enter Tryz.func102, Tryz.ntmps102
  go_wp2_with (go_at_call 118; refine (HC.out _).mono ?_; rintro e w' ⟨rfl, dW, rfl⟩)
  (refine wp_region_nw (by kernel_rfl) (by kernel_rfl) ?_; (repeat (go_big_quiet_step (fail))); refine wpQuiet_nil ?_; intro _ hreg; obtain ⟨dW, rfl⟩ : Nw _ _ := hreg)
  go_wp2
  go_ret
  exact ⟨rfl, nwa⟩
set_option maxRecDepth 20000 in
set_option maxHeartbeats 4000000 in
theorem refu_7_0 (w : World) (p : Pl) (s : Md) (h : MAt w p s) (t : Nat) (op mo : Bool) (lo hi : Int) (ht : s.th[t]? = some ⟨op, mo, lo, hi, false⟩) (a b c d e f : Int) (HC : Hid (∀ W, Calls Tryz.prog 118 #[op7 7 a b c d e f] W fun e w' => e = .returned (.int .i64 0) ∧ Nw W w')) :
    Calls Tryz.prog 102 #[.pointer (some ⟨p.gm, 0, none⟩), .int .i64 t, op7 7 a b c d e f] w fun e w' => e = .returned (.int .i64 10) ∧ Nw w w' := by
  obtain ⟨p0, _⟩ := List.getElem?_eq_some_iff.1 ht
  obtain ⟨c0, c1, c2, c3, c4⟩ := h.th.cells ht
  obtain ⟨ct, m2⟩ := h.m2
  have im := h.im
  have it := h.it
  obtain ⟨gm, hgm⟩ : ∃ g, g = p.gm := ⟨_, rfl⟩
  obtain ⟨gt, hgt⟩ : ∃ g, g = p.gt := ⟨_, rfl⟩
  obtain ⟨n, hn⟩ : ∃ n, n = s.th.length := ⟨_, rfl⟩
  rw [← hgm, ← hgt, ← hn] at m2
  rw [← hgt] at c0 c1 c2 c3 c4 it
  rw [← hgm] at im
  rw [← hgm]
  rw [← hn] at p0
  haveI : In gm w := ⟨im⟩
  haveI : In gt w := ⟨it⟩
  have t0 : (0 : Int) ≤ (t : Int) := by omega
  have t1 : (t : Int) < (n : Int) := by omega
  have d0 : decide ((t : Int) < 0) = false := by rw [decide_eq_false_iff_not]; omega
  have d1 : decide ((n : Int) ≤ (t : Int)) = false := by rw [decide_eq_false_iff_not]; omega
  clear h ht hn hgm hgt im it
  go_enter Tryz.func102, Tryz.ntmps102
  go_wp2_with (go_at_call 118; refine (HC.out _).mono ?_; rintro e w' ⟨rfl, dW, rfl⟩)
  go_ret
  exact ⟨rfl, nwa⟩
set_option maxRecDepth 20000 in
set_option maxHeartbeats 4000000 in
theorem refu_7_1 (w : World) (p : Pl) (s : Md) (h : MAt w p s) (t : Nat) (op mo : Bool) (lo hi : Int) (ht : s.th[t]? = some ⟨op, mo, lo, hi, true⟩) (a b c d e f : Int) (HC : Hid (∀ W, Calls Tryz.prog 118 #[op7 7 a b c d e f] W fun e w' => e = .returned (.int .i64 0) ∧ Nw W w')) :
    Calls Tryz.prog 102 #[.pointer (some ⟨p.gm, 0, none⟩), .int .i64 t, op7 7 a b c d e f] w fun e w' => e = .returned (.int .i64 0) ∧ Nw w w' := by
  obtain ⟨p0, _⟩ := List.getElem?_eq_some_iff.1 ht
  obtain ⟨c0, c1, c2, c3, c4⟩ := h.th.cells ht
  obtain ⟨ct, m2⟩ := h.m2
  have im := h.im
  have it := h.it
  obtain ⟨gm, hgm⟩ : ∃ g, g = p.gm := ⟨_, rfl⟩
  obtain ⟨gt, hgt⟩ : ∃ g, g = p.gt := ⟨_, rfl⟩
  obtain ⟨n, hn⟩ : ∃ n, n = s.th.length := ⟨_, rfl⟩
  rw [← hgm, ← hgt, ← hn] at m2
  rw [← hgt] at c0 c1 c2 c3 c4 it
  rw [← hgm] at im
  rw [← hgm]
  rw [← hn] at p0
  haveI : In gm w := ⟨im⟩
  haveI : In gt w := ⟨it⟩
  have t0 : (0 : Int) ≤ (t : Int) := by omega
  have t1 : (t : Int) < (n : Int) := by omega
  have d0 : decide ((t : Int) < 0) = false := by rw [decide_eq_false_iff_not]; omega
  have d1 : decide ((n : Int) ≤ (t : Int)) = false := by rw [decide_eq_false_iff_not]; omega
  clear h ht hn hgm hgt im it
  go_enter Tryz.func102, Tryz.ntmps102
  go_wp2_with (go_at_call 118; refine (HC.out _).mono ?_; rintro e w' ⟨rfl, dW, rfl⟩)
  (refine wp_region_nw (by kernel_rfl) (by kernel_rfl) ?_; (repeat (go_big_quiet_step (fail))); refine wpQuiet_nil ?_; intro _ hreg; obtain ⟨dW, rfl⟩ : Nw _ _ := hreg)
  go_wp2
  go_ret
  exact ⟨rfl, nwa⟩
set_option maxRecDepth 20000 in
set_option maxHeartbeats 4000000 in
theorem refu_8_0 (w : World) (p : Pl) (s : Md) (h : MAt w p s) (t : Nat) (op mo : Bool) (lo hi : Int) (ht : s.th[t]? = some ⟨op, mo, lo, hi, false⟩) (a b c d e f : Int) (HC : Hid (∀ W, Calls Tryz.prog 118 #[op7 8 a b c d e f] W fun e w' => e = .returned (.int .i64 0) ∧ Nw W w')) :
    Calls Tryz.prog 102 #[.pointer (some ⟨p.gm, 0, none⟩), .int .i64 t, op7 8 a b c d e f] w fun e w' => e = .returned (.int .i64 10) ∧ Nw w w' := by
  obtain ⟨p0, _⟩ := List.getElem?_eq_some_iff.1 ht
  obtain ⟨c0, c1, c2, c3, c4⟩ := h.th.cells ht
  obtain ⟨ct, m2⟩ := h.m2
  have im := h.im
  have it := h.it
  obtain ⟨gm, hgm⟩ : ∃ g, g = p.gm := ⟨_, rfl⟩
  obtain ⟨gt, hgt⟩ : ∃ g, g = p.gt := ⟨_, rfl⟩
  obtain ⟨n, hn⟩ : ∃ n, n = s.th.length := ⟨_, rfl⟩
  rw [← hgm, ← hgt, ← hn] at m2
  rw [← hgt] at c0 c1 c2 c3 c4 it
  rw [← hgm] at im
  rw [← hgm]
  rw [← hn] at p0
  haveI : In gm w := ⟨im⟩
  haveI : In gt w := ⟨it⟩
  have t0 : (0 : Int) ≤ (t : Int) := by omega
  have t1 : (t : Int) < (n : Int) := by omega
  have d0 : decide ((t : Int) < 0) = false := by rw [decide_eq_false_iff_not]; omega
  have d1 : decide ((n : Int) ≤ (t : Int)) = false := by rw [decide_eq_false_iff_not]; omega
  clear h ht hn hgm hgt im it
  go_enter Tryz.func102, Tryz.ntmps102
  go_wp2_with (go_at_call 118; refine (HC.out _).mono ?_; rintro e w' ⟨rfl, dW, rfl⟩)
  go_ret
  exact ⟨rfl, nwa⟩
set_option maxRecDepth 20000 in
set_option maxHeartbeats 4000000 in
theorem refu_8_1 (w : World) (p : Pl) (s : Md) (h : MAt w p s) (t : Nat) (op mo : Bool) (lo hi : Int) (ht : s.th[t]? = some ⟨op, mo, lo, hi, true⟩) (a b c d e f : Int) (HC : Hid (∀ W, Calls Tryz.prog 118 #[op7 8 a b c d e f] W fun e w' => e = .returned (.int .i64 0) ∧ Nw W w')) :
    Calls Tryz.prog 102 #[.pointer (some ⟨p.gm, 0, none⟩), .int .i64 t, op7 8 a b c d e f] w fun e w' => e = .returned (.int .i64 0) ∧ Nw w w' := by
  obtain ⟨p0, _⟩ := List.getElem?_eq_some_iff.1 ht
  obtain ⟨c0, c1, c2, c3, c4⟩ := h.th.cells ht
  obtain ⟨ct, m2⟩ := h.m2
  have im := h.im
  have it := h.it
  obtain ⟨gm, hgm⟩ : ∃ g, g = p.gm := ⟨_, rfl⟩
  obtain ⟨gt, hgt⟩ : ∃ g, g = p.gt := ⟨_, rfl⟩
  obtain ⟨n, hn⟩ : ∃ n, n = s.th.length := ⟨_, rfl⟩
  rw [← hgm, ← hgt, ← hn] at m2
  rw [← hgt] at c0 c1 c2 c3 c4 it
  rw [← hgm] at im
  rw [← hgm]
  rw [← hn] at p0
  haveI : In gm w := ⟨im⟩
  haveI : In gt w := ⟨it⟩
  have t0 : (0 : Int) ≤ (t : Int) := by omega
  have t1 : (t : Int) < (n : Int) := by omega
  have d0 : decide ((t : Int) < 0) = false := by rw [decide_eq_false_iff_not]; omega
  have d1 : decide ((n : Int) ≤ (t : Int)) = false := by rw [decide_eq_false_iff_not]; omega
  clear h ht hn hgm hgt im it
  go_enter Tryz.func102, Tryz.ntmps102
  go_wp2_with (go_at_call 118; refine (HC.out _).mono ?_; rintro e w' ⟨rfl, dW, rfl⟩)
  (refine wp_region_nw (by kernel_rfl) (by kernel_rfl) ?_; (repeat (go_big_quiet_step (fail))); refine wpQuiet_nil ?_; intro _ hreg; obtain ⟨dW, rfl⟩ : Nw _ _ := hreg)
  go_wp2
  go_ret
  exact ⟨rfl, nwa⟩
set_option maxRecDepth 20000 in
set_option maxHeartbeats 4000000 in
theorem refu_9_0 (w : World) (p : Pl) (s : Md) (h : MAt w p s) (t : Nat) (op mo : Bool) (lo hi : Int) (ht : s.th[t]? = some ⟨op, mo, lo, hi, false⟩) (a b c d e f : Int) (HC : Hid (∀ W, Calls Tryz.prog 118 #[op7 9 a b c d e f] W fun e w' => e = .returned (.int .i64 0) ∧ Nw W w')) :
    Calls Tryz.prog 102 #[.pointer (some ⟨p.gm, 0, none⟩), .int .i64 t, op7 9 a b c d e f] w fun e w' => e = .returned (.int .i64 10) ∧ Nw w w' := by
  obtain ⟨p0, _⟩ := List.getElem?_eq_some_iff.1 ht
  obtain ⟨c0, c1, c2, c3, c4⟩ := h.th.cells ht
  obtain ⟨ct, m2⟩ := h.m2
  have im := h.im
  have it := h.it
  obtain ⟨gm, hgm⟩ : ∃ g, g = p.gm := ⟨_, rfl⟩
  obtain ⟨gt, hgt⟩ : ∃ g, g = p.gt := ⟨_, rfl⟩
  obtain ⟨n, hn⟩ : ∃ n, n = s.th.length := ⟨_, rfl⟩
  rw [← hgm, ← hgt, ← hn] at m2
  rw [← hgt] at c0 c1 c2 c3 c4 it
  rw [← hgm] at im
  rw [← hgm]
  rw [← hn] at p0
  haveI : In gm w := ⟨im⟩
  haveI : In gt w := ⟨it⟩
  have t0 : (0 : Int) ≤ (t : Int) := by omega
  have t1 : (t : Int) < (n : Int) := by omega
  have d0 : decide ((t : Int) < 0) = false := by rw [decide_eq_false_iff_not]; omega
  have d1 : decide ((n : Int) ≤ (t : Int)) = false := by rw [decide_eq_false_iff_not]; omega
  clear h ht hn hgm hgt im it
  go_enter Tryz.func102, Tryz.ntmps102
  go_wp2_with (go_at_call 118; refine (HC.out _).mono ?_; rintro e w' ⟨rfl, dW, rfl⟩)
  go_ret
  exact ⟨rfl, nwa⟩
set_option maxRecDepth 20000 in
set_option maxHeartbeats 4000000 in
theorem refu_9_1 (w : World) (p : Pl) (s : Md) (h : MAt w p s) (t : Nat) (op mo : Bool) (lo hi : Int) (ht : s.th[t]? = some ⟨op, mo, lo, hi, true⟩) (a b c d e f : Int) (HC : Hid (∀ W, Calls Tryz.prog 118 #[op7 9 a b c d e f] W fun e w' => e = .returned (.int .i64 0) ∧ Nw W w')) :
    Calls Tryz.prog 102 #[.pointer (some ⟨p.gm, 0, none⟩), .int .i64 t, op7 9 a b c d e f] w fun e w' => e = .returned (.int .i64 0) ∧ Nw w w' := by
  obtain ⟨p0, _⟩ := List.getElem?_eq_some_iff.1 ht
  obtain ⟨c0, c1, c2, c3, c4⟩ := h.th.cells ht
  obtain ⟨ct, m2⟩ := h.m2
  have im := h.im
  have it := h.it
  obtain ⟨gm, hgm⟩ : ∃ g, g = p.gm := ⟨_, rfl⟩
  obtain ⟨gt, hgt⟩ : ∃ g, g = p.gt := ⟨_, rfl⟩
  obtain ⟨n, hn⟩ : ∃ n, n = s.th.length := ⟨_, rfl⟩
  rw [← hgm, ← hgt, ← hn] at m2
  rw [← hgt] at c0 c1 c2 c3 c4 it
  rw [← hgm] at im
  rw [← hgm]
  rw [← hn] at p0
  haveI : In gm w := ⟨im⟩
  haveI : In gt w := ⟨it⟩
  have t0 : (0 : Int) ≤ (t : Int) := by omega
  have t1 : (t : Int) < (n : Int) := by omega
  have d0 : decide ((t : Int) < 0) = false := by rw [decide_eq_false_iff_not]; omega
  have d1 : decide ((n : Int) ≤ (t : Int)) = false := by rw [decide_eq_false_iff_not]; omega
  clear h ht hn hgm hgt im it
  go_enter Tryz.func102, Tryz.ntmps102
  go_wp2_with (go_at_call 118; refine (HC.out _).mono ?_; rintro e w' ⟨rfl, dW, rfl⟩)
  (refine wp_region_nw (by kernel_rfl) (by kernel_rfl) ?_; (repeat (go_big_quiet_step (fail))); refine wpQuiet_nil ?_; intro _ hreg; obtain ⟨dW, rfl⟩ : Nw _ _ := hreg)
  go_wp2
  go_ret
  exact ⟨rfl, nwa⟩
set_option maxRecDepth 20000 in
set_option maxHeartbeats 4000000 in
theorem refu_10_0 (w : World) (p : Pl) (s : Md) (h : MAt w p s) (t : Nat) (op mo : Bool) (lo hi : Int) (ht : s.th[t]? = some ⟨op, mo, lo, hi, false⟩) (a b c d e f : Int) (HC : Hid (∀ W, Calls Tryz.prog 118 #[op7 10 a b c d e f] W fun e w' => e = .returned (.int .i64 0) ∧ Nw W w')) :
    Calls Tryz.prog 102 #[.pointer (some ⟨p.gm, 0, none⟩), .int .i64 t, op7 10 a b c d e f] w fun e w' => e = .returned (.int .i64 10) ∧ Nw w w' := by
  obtain ⟨p0, _⟩ := List.getElem?_eq_some_iff.1 ht
  obtain ⟨c0, c1, c2, c3, c4⟩ := h.th.cells ht
  obtain ⟨ct, m2⟩ := h.m2
  have im := h.im
  have it := h.it
  obtain ⟨gm, hgm⟩ : ∃ g, g = p.gm := ⟨_, rfl⟩
  obtain ⟨gt, hgt⟩ : ∃ g, g = p.gt := ⟨_, rfl⟩
  obtain ⟨n, hn⟩ : ∃ n, n = s.th.length := ⟨_, rfl⟩
  rw [← hgm, ← hgt, ← hn] at m2
  rw [← hgt] at c0 c1 c2 c3 c4 it
  rw [← hgm] at im
  rw [← hgm]
  rw [← hn] at p0
  haveI : In gm w := ⟨im⟩
  haveI : In gt w := ⟨it⟩
  have t0 : (0 : Int) ≤ (t : Int) := by omega
  have t1 : (t : Int) < (n : Int) := by omega
  have d0 : decide ((t : Int) < 0) = false := by rw [decide_eq_false_iff_not]; omega
  have d1 : decide ((n : Int) ≤ (t : Int)) = false := by rw [decide_eq_false_iff_not]; omega
  clear h ht hn hgm hgt im it
  go_enter Tryz.func102, Tryz.ntmps102
  go_wp2_with (go_at_call 118; refine (HC.out _).mono ?_; rintro e w' ⟨rfl, dW, rfl⟩)
  go_ret
  exact ⟨rfl, nwa⟩
set_option maxRecDepth 20000 in
set_option maxHeartbeats 4000000 in
theorem refu_10_1 (w : World) (p : Pl) (s : Md) (h : MAt w p s) (t : Nat) (op mo : Bool) (lo hi : Int) (ht : s.th[t]? = some ⟨op, mo, lo, hi, true⟩) (a b c d e f : Int) (HC : Hid (∀ W, Calls Tryz.prog 118 #[op7 10 a b c d e f] W fun e w' => e = .returned (.int .i64 0) ∧ Nw W w')) :
    Calls Tryz.prog 102 #[.pointer (some ⟨p.gm, 0, none⟩), .int .i64 t, op7 10 a b c d e f] w fun e w' => e = .returned (.int .i64 0) ∧ Nw w w' := by
  obtain ⟨p0, _⟩ := List.getElem?_eq_some_iff.1 ht
  obtain ⟨c0, c1, c2, c3, c4⟩ := h.th.cells ht
  obtain ⟨ct, m2⟩ := h.m2
  have im := h.im
  have it := h.it
  obtain ⟨gm, hgm⟩ : ∃ g, g = p.gm := ⟨_, rfl⟩
  obtain ⟨gt, hgt⟩ : ∃ g, g = p.gt := ⟨_, rfl⟩
  obtain ⟨n, hn⟩ : ∃ n, n = s.th.length := ⟨_, rfl⟩
  rw [← hgm, ← hgt, ← hn] at m2
  rw [← hgt] at c0 c1 c2 c3 c4 it
  rw [← hgm] at im
  rw [← hgm]
  rw [← hn] at p0
  haveI : In gm w := ⟨im⟩
  haveI : In gt w := ⟨it⟩
  have t0 : (0 : Int) ≤ (t : Int) := by omega
  have t1 : (t : Int) < (n : Int) := by omega
  have d0 : decide ((t : Int) < 0) = false := by rw [decide_eq_false_iff_not]; omega
  have d1 : decide ((n : Int) ≤ (t : Int)) = false := by rw [decide_eq_false_iff_not]; omega
  clear h ht hn hgm hgt im it
  go_enter Tryz.func102, Tryz.ntmps102
  go_wp2_with (go_at_call 118; refine (HC.out _).mono ?_; rintro e w' ⟨rfl, dW, rfl⟩)
  (refine wp_region_nw (by kernel_rfl) (by kernel_rfl) ?_; (repeat (go_big_quiet_step (fail))); refine wpQuiet_nil ?_; intro _ hreg; obtain ⟨dW, rfl⟩ : Nw _ _ := hreg)
  go_wp2
  go_ret
  exact ⟨rfl, nwa⟩
set_option maxRecDepth 20000 in
set_option maxHeartbeats 4000000 in
theorem refu_11_0 (w : World) (p : Pl) (s : Md) (h : MAt w p s) (t : Nat) (op mo : Bool) (lo hi : Int) (ht : s.th[t]? = some ⟨op, mo, lo, hi, false⟩) (a b c d e f : Int) (HC : Hid (∀ W, Calls Tryz.prog 118 #[op7 11 a b c d e f] W fun e w' => e = .returned (.int .i64 0) ∧ Nw W w')) :
    Calls Tryz.prog 102 #[.pointer (some ⟨p.gm, 0, none⟩), .int .i64 t, op7 11 a b c d e f] w fun e w' => e = .returned (.int .i64 10) ∧ Nw w w' := by
  obtain ⟨p0, _⟩ := List.getElem?_eq_some_iff.1 ht
  obtain ⟨c0, c1, c2, c3, c4⟩ := h.th.cells ht
  obtain ⟨ct, m2⟩ := h.m2
  have im := h.im
  have it := h.it
  obtain ⟨gm, hgm⟩ : ∃ g, g = p.gm := ⟨_, rfl⟩
  obtain ⟨gt, hgt⟩ : ∃ g, g = p.gt := ⟨_, rfl⟩
  obtain ⟨n, hn⟩ : ∃ n, n = s.th.length := ⟨_, rfl⟩
  rw [← hgm, ← hgt, ← hn] at m2
  rw [← hgt] at c0 c1 c2 c3 c4 it
  rw [← hgm] at im
  rw [← hgm]
  rw [← hn] at p0
  haveI : In gm w := ⟨im⟩
  haveI : In gt w := ⟨it⟩
  have t0 : (0 : Int) ≤ (t : Int) := by omega
  have t1 : (t : Int) < (n : Int) := by omega
  have d0 : decide ((t : Int) < 0) = false := by rw [decide_eq_false_iff_not]; omega
  have d1 : decide ((n : Int) ≤ (t : Int)) = false := by rw [decide_eq_false_iff_not]; omega
  clear h ht hn hgm hgt im it
  go_enter Tryz.func102, Tryz.ntmps102
  go_wp2_with (go_at_call 118; refine (HC.out _).mono ?_; rintro e w' ⟨rfl, dW, rfl⟩)
  go_ret
  exact ⟨rfl, nwa⟩
set_option maxRecDepth 20000 in
set_option maxHeartbeats 4000000 in
theorem refu_11_1 (w : World) (p : Pl) (s : Md) (h : MAt w p s) (t : Nat) (mo : Bool) (lo hi : Int) (ht : s.th[t]? = some ⟨true, mo, lo, hi, true⟩) (a b c d e f : Int) (HC : Hid (∀ W, Calls Tryz.prog 118 #[op7 11 a b c d e f] W fun e w' => e = .returned (.int .i64 0) ∧ Nw W w')) :
    Calls Tryz.prog 102 #[.pointer (some ⟨p.gm, 0, none⟩), .int .i64 t, op7 11 a b c d e f] w fun e w' => e = .returned (.int .i64 8) ∧ Nw w w' := by
  obtain ⟨p0, _⟩ := List.getElem?_eq_some_iff.1 ht
  obtain ⟨c0, c1, c2, c3, c4⟩ := h.th.cells ht
  obtain ⟨ct, m2⟩ := h.m2
  have im := h.im
  have it := h.it
  obtain ⟨gm, hgm⟩ : ∃ g, g = p.gm := ⟨_, rfl⟩
  obtain ⟨gt, hgt⟩ : ∃ g, g = p.gt := ⟨_, rfl⟩
  obtain ⟨n, hn⟩ : ∃ n, n = s.th.length := ⟨_, rfl⟩
  rw [← hgm, ← hgt, ← hn] at m2
  rw [← hgt] at c0 c1 c2 c3 c4 it
  rw [← hgm] at im
  rw [← hgm]
  rw [← hn] at p0
  haveI : In gm w := ⟨im⟩
  haveI : In gt w := ⟨it⟩
  have t0 : (0 : Int) ≤ (t : Int) := by omega
  have t1 : (t : Int) < (n : Int) := by omega
  have d0 : decide ((t : Int) < 0) = false := by rw [decide_eq_false_iff_not]; omega
  have d1 : decide ((n : Int) ≤ (t : Int)) = false := by rw [decide_eq_false_iff_not]; omega
  clear h ht hn hgm hgt im it
  go_enter Tryz.func102, Tryz.ntmps102
  go_wp2_with (go_at_call 118; refine (HC.out _).mono ?_; rintro e w' ⟨rfl, dW, rfl⟩)
  go_ret
  exact ⟨rfl, nwa⟩
set_option maxRecDepth 20000 in
set_option maxHeartbeats 4000000 in
theorem refu_11_2 (w : World) (p : Pl) (s : Md) (h : MAt w p s) (t : Nat) (mo : Bool) (lo hi : Int) (ht : s.th[t]? = some ⟨false, mo, lo, hi, true⟩) (a b c d e f : Int) (HC : Hid (∀ W, Calls Tryz.prog 118 #[op7 11 a b c d e f] W fun e w' => e = .returned (.int .i64 0) ∧ Nw W w')) :
    Calls Tryz.prog 102 #[.pointer (some ⟨p.gm, 0, none⟩), .int .i64 t, op7 11 a b c d e f] w fun e w' => e = .returned (.int .i64 0) ∧ Nw w w' := by
  obtain ⟨p0, _⟩ := List.getElem?_eq_some_iff.1 ht
  obtain ⟨c0, c1, c2, c3, c4⟩ := h.th.cells ht
  obtain ⟨ct, m2⟩ := h.m2
  have im := h.im
  have it := h.it
  obtain ⟨gm, hgm⟩ : ∃ g, g = p.gm := ⟨_, rfl⟩
  obtain ⟨gt, hgt⟩ : ∃ g, g = p.gt := ⟨_, rfl⟩
  obtain ⟨n, hn⟩ : ∃ n, n = s.th.length := ⟨_, rfl⟩
  rw [← hgm, ← hgt, ← hn] at m2
  rw [← hgt] at c0 c1 c2 c3 c4 it
  rw [← hgm] at im
  rw [← hgm]
  rw [← hn] at p0
  haveI : In gm w := ⟨im⟩
  haveI : In gt w := ⟨it⟩
  have t0 : (0 : Int) ≤ (t : Int) := by omega
  have t1 : (t : Int) < (n : Int) := by omega
  have d0 : decide ((t : Int) < 0) = false := by rw [decide_eq_false_iff_not]; omega
  have d1 : decide ((n : Int) ≤ (t : Int)) = false := by rw [decide_eq_false_iff_not]; omega
  clear h ht hn hgm hgt im it
  go_enter Tryz.func102, Tryz.ntmps102
  go_wp2_with (go_at_call 118; refine (HC.out _).mono ?_; rintro e w' ⟨rfl, dW, rfl⟩)
  (refine wp_region_nw (by kernel_rfl) (by kernel_rfl) ?_; (repeat (go_big_quiet_step (fail))); refine wpQuiet_nil ?_; intro _ hreg; obtain ⟨dW, rfl⟩ : Nw _ _ := hreg)
  go_wp2
  go_ret
  exact ⟨rfl, nwa⟩
set_option maxRecDepth 20000 in
set_option maxHeartbeats 4000000 in
theorem refu_12_0 (w : World) (p : Pl) (s : Md) (h : MAt w p s) (t : Nat) (op mo : Bool) (lo hi : Int) (ht : s.th[t]? = some ⟨op, mo, lo, hi, false⟩) (a b c d e f : Int) (HC : Hid (∀ W, Calls Tryz.prog 118 #[op7 12 a b c d e f] W fun e w' => e = .returned (.int .i64 0) ∧ Nw W w')) :
    Calls Tryz.prog 102 #[.pointer (some ⟨p.gm, 0, none⟩), .int .i64 t, op7 12 a b c d e f] w fun e w' => e = .returned (.int .i64 10) ∧ Nw w w' := by
  obtain ⟨p0, _⟩ := List.getElem?_eq_some_iff.1 ht
  obtain ⟨c0, c1, c2, c3, c4⟩ := h.th.cells ht
  obtain ⟨ct, m2⟩ := h.m2
  have im := h.im
  have it := h.it
  obtain ⟨gm, hgm⟩ : ∃ g, g = p.gm := ⟨_, rfl⟩
  obtain ⟨gt, hgt⟩ : ∃ g, g = p.gt := ⟨_, rfl⟩
  obtain ⟨n, hn⟩ : ∃ n, n = s.th.length := ⟨_, rfl⟩
  rw [← hgm, ← hgt, ← hn] at m2
  rw [← hgt] at c0 c1 c2 c3 c4 it
  rw [← hgm] at im
  rw [← hgm]
  rw [← hn] at p0
  haveI : In gm w := ⟨im⟩
  haveI : In gt w := ⟨it⟩
  have t0 : (0 : Int) ≤ (t : Int) := by omega
  have t1 : (t : Int) < (n : Int) := by omega
  have d0 : decide ((t : Int) < 0) = false := by rw [decide_eq_false_iff_not]; omega
  have d1 : decide ((n : Int) ≤ (t : Int)) = false := by rw [decide_eq_false_iff_not]; omega
  clear h ht hn hgm hgt im it
  go_enter Tryz.func102, Tryz.ntmps102
  go_wp2_with (go_at_call 118; refine (HC.out _).mono ?_; rintro e w' ⟨rfl, dW, rfl⟩)
  go_ret
  exact ⟨rfl, nwa⟩
set_option maxRecDepth 20000 in
set_option maxHeartbeats 4000000 in
theorem refu_12_1 (w : World) (p : Pl) (s : Md) (h : MAt w p s) (t : Nat) (mo : Bool) (lo hi : Int) (ht : s.th[t]? = some ⟨false, mo, lo, hi, true⟩) (a b c d e f : Int) (HC : Hid (∀ W, Calls Tryz.prog 118 #[op7 12 a b c d e f] W fun e w' => e = .returned (.int .i64 0) ∧ Nw W w')) :
    Calls Tryz.prog 102 #[.pointer (some ⟨p.gm, 0, none⟩), .int .i64 t, op7 12 a b c d e f] w fun e w' => e = .returned (.int .i64 8) ∧ Nw w w' := by
  obtain ⟨p0, _⟩ := List.getElem?_eq_some_iff.1 ht
  obtain ⟨c0, c1, c2, c3, c4⟩ := h.th.cells ht
  obtain ⟨ct, m2⟩ := h.m2
  have im := h.im
  have it := h.it
  obtain ⟨gm, hgm⟩ : ∃ g, g = p.gm := ⟨_, rfl⟩
  obtain ⟨gt, hgt⟩ : ∃ g, g = p.gt := ⟨_, rfl⟩
  obtain ⟨n, hn⟩ : ∃ n, n = s.th.length := ⟨_, rfl⟩
  rw [← hgm, ← hgt, ← hn] at m2
  rw [← hgt] at c0 c1 c2 c3 c4 it
  rw [← hgm] at im
  rw [← hgm]
  rw [← hn] at p0
  haveI : In gm w := ⟨im⟩
  haveI : In gt w := ⟨it⟩
  have t0 : (0 : Int) ≤ (t : Int) := by omega
  have t1 : (t : Int) < (n : Int) := by omega
  have d0 : decide ((t : Int) < 0) = false := by rw [decide_eq_false_iff_not]; omega
  have d1 : decide ((n : Int) ≤ (t : Int)) = false := by rw [decide_eq_false_iff_not]; omega
  clear h ht hn hgm hgt im it
  go_enter Tryz.func102, Tryz.ntmps102
  go_wp2_with (go_at_call 118; refine (HC.out _).mono ?_; rintro e w' ⟨rfl, dW, rfl⟩)
  go_ret
  exact ⟨rfl, nwa⟩
set_option maxRecDepth 20000 in
set_option maxHeartbeats 4000000 in
theorem refu_12_2 (w : World) (p : Pl) (s : Md) (h : MAt w p s) (t : Nat) (lo hi : Int) (ht : s.th[t]? = some ⟨true, false, lo, hi, true⟩) (a b c d e f : Int) (HC : Hid (∀ W, Calls Tryz.prog 118 #[op7 12 a b c d e f] W fun e w' => e = .returned (.int .i64 0) ∧ Nw W w')) :
    Calls Tryz.prog 102 #[.pointer (some ⟨p.gm, 0, none⟩), .int .i64 t, op7 12 a b c d e f] w fun e w' => e = .returned (.int .i64 14) ∧ Nw w w' := by
  obtain ⟨p0, _⟩ := List.getElem?_eq_some_iff.1 ht
  obtain ⟨c0, c1, c2, c3, c4⟩ := h.th.cells ht
  obtain ⟨ct, m2⟩ := h.m2
  have im := h.im
  have it := h.it
  obtain ⟨gm, hgm⟩ : ∃ g, g = p.gm := ⟨_, rfl⟩
  obtain ⟨gt, hgt⟩ : ∃ g, g = p.gt := ⟨_, rfl⟩
  obtain ⟨n, hn⟩ : ∃ n, n = s.th.length := ⟨_, rfl⟩
  rw [← hgm, ← hgt, ← hn] at m2
  rw [← hgt] at c0 c1 c2 c3 c4 it
  rw [← hgm] at im
  rw [← hgm]
  rw [← hn] at p0
  haveI : In gm w := ⟨im⟩
  haveI : In gt w := ⟨it⟩
  have t0 : (0 : Int) ≤ (t : Int) := by omega
  have t1 : (t : Int) < (n : Int) := by omega
  have d0 : decide ((t : Int) < 0) = false := by rw [decide_eq_false_iff_not]; omega
  have d1 : decide ((n : Int) ≤ (t : Int)) = false := by rw [decide_eq_false_iff_not]; omega
  clear h ht hn hgm hgt im it
  go_enter Tryz.func102, Tryz.ntmps102
  go_wp2_with (go_at_call 118; refine (HC.out _).mono ?_; rintro e w' ⟨rfl, dW, rfl⟩)
  (refine wp_region_nw (by kernel_rfl) (by kernel_rfl) ?_; (repeat (go_big_quiet_step (fail))); refine wpQuiet_nil ?_; intro _ hreg; obtain ⟨dW, rfl⟩ : Nw _ _ := hreg)
  go_wp2
  go_ret
  exact ⟨rfl, nwa⟩
set_option maxRecDepth 20000 in
set_option maxHeartbeats 4000000 in
theorem refu_12_3 (w : World) (p : Pl) (s : Md) (h : MAt w p s) (t : Nat) (lo hi : Int) (ht : s.th[t]? = some ⟨true, true, lo, hi, true⟩) (a b c d e f : Int) (HC : Hid (∀ W, Calls Tryz.prog 118 #[op7 12 a b c d e f] W fun e w' => e = .returned (.int .i64 0) ∧ Nw W w')) :
    Calls Tryz.prog 102 #[.pointer (some ⟨p.gm, 0, none⟩), .int .i64 t, op7 12 a b c d e f] w fun e w' => e = .returned (.int .i64 0) ∧ Nw w w' := by
  obtain ⟨p0, _⟩ := List.getElem?_eq_some_iff.1 ht
  obtain ⟨c0, c1, c2, c3, c4⟩ := h.th.cells ht
  obtain ⟨ct, m2⟩ := h.m2
  have im := h.im
  have it := h.it
  obtain ⟨gm, hgm⟩ : ∃ g, g = p.gm := ⟨_, rfl⟩
  obtain ⟨gt, hgt⟩ : ∃ g, g = p.gt := ⟨_, rfl⟩
  obtain ⟨n, hn⟩ : ∃ n, n = s.th.length := ⟨_, rfl⟩
  rw [← hgm, ← hgt, ← hn] at m2
  rw [← hgt] at c0 c1 c2 c3 c4 it
  rw [← hgm] at im
  rw [← hgm]
  rw [← hn] at p0
  haveI : In gm w := ⟨im⟩
  haveI : In gt w := ⟨it⟩
  have t0 : (0 : Int) ≤ (t : Int) := by omega
  have t1 : (t : Int) < (n : Int) := by omega
  have d0 : decide ((t : Int) < 0) = false := by rw [decide_eq_false_iff_not]; omega
  have d1 : decide ((n : Int) ≤ (t : Int)) = false := by rw [decide_eq_false_iff_not]; omega
  clear h ht hn hgm hgt im it
  go_enter Tryz.func102, Tryz.ntmps102
  go_wp2_with (go_at_call 118; refine (HC.out _).mono ?_; rintro e w' ⟨rfl, dW, rfl⟩)
  (refine wp_region_nw (by kernel_rfl) (by kernel_rfl) ?_; (repeat (go_big_quiet_step (fail))); refine wpQuiet_nil ?_; intro _ hreg; obtain ⟨dW, rfl⟩ : Nw _ _ := hreg)
  go_wp2
  go_ret
  exact ⟨rfl, nwa⟩
set_option maxRecDepth 20000 in
set_option maxHeartbeats 4000000 in
theorem refu_13_0 (w : World) (p : Pl) (s : Md) (h : MAt w p s) (t : Nat) (op mo : Bool) (lo hi : Int) (ht : s.th[t]? = some ⟨op, mo, lo, hi, false⟩) (a b c d e f : Int) (HC : Hid (∀ W, Calls Tryz.prog 118 #[op7 13 a b c d e f] W fun e w' => e = .returned (.int .i64 0) ∧ Nw W w')) :
    Calls Tryz.prog 102 #[.pointer (some ⟨p.gm, 0, none⟩), .int .i64 t, op7 13 a b c d e f] w fun e w' => e = .returned (.int .i64 10) ∧ Nw w w' := by
  obtain ⟨p0, _⟩ := List.getElem?_eq_some_iff.1 ht
  obtain ⟨c0, c1, c2, c3, c4⟩ := h.th.cells ht
  obtain ⟨ct, m2⟩ := h.m2
  have im := h.im
  have it := h.it
  obtain ⟨gm, hgm⟩ : ∃ g, g = p.gm := ⟨_, rfl⟩
  obtain ⟨gt, hgt⟩ : ∃ g, g = p.gt := ⟨_, rfl⟩
  obtain ⟨n, hn⟩ : ∃ n, n = s.th.length := ⟨_, rfl⟩
  rw [← hgm, ← hgt, ← hn] at m2
  rw [← hgt] at c0 c1 c2 c3 c4 it
  rw [← hgm] at im
  rw [← hgm]
  rw [← hn] at p0
  haveI : In gm w := ⟨im⟩
  haveI : In gt w := ⟨it⟩
  have t0 : (0 : Int) ≤ (t : Int) := by omega
  have t1 : (t : Int) < (n : Int) := by omega
  have d0 : decide ((t : Int) < 0) = false := by rw [decide_eq_false_iff_not]; omega
  have d1 : decide ((n : Int) ≤ (t : Int)) = false := by rw [decide_eq_false_iff_not]; omega
  clear h ht hn hgm hgt im it
  go_enter Tryz.func102, Tryz.ntmps102
  go_wp2_with (go_at_call 118; refine (HC.out _).mono ?_; rintro e w' ⟨rfl, dW, rfl⟩)
  go_ret
  exact ⟨rfl, nwa⟩
set_option maxRecDepth 20000 in
set_option maxHeartbeats 4000000 in
theorem refu_13_1 (w : World) (p : Pl) (s : Md) (h : MAt w p s) (t : Nat) (mo : Bool) (lo hi : Int) (ht : s.th[t]? = some ⟨false, mo, lo, hi, true⟩) (a b c d e f : Int) (HC : Hid (∀ W, Calls Tryz.prog 118 #[op7 13 a b c d e f] W fun e w' => e = .returned (.int .i64 0) ∧ Nw W w')) :
    Calls Tryz.prog 102 #[.pointer (some ⟨p.gm, 0, none⟩), .int .i64 t, op7 13 a b c d e f] w fun e w' => e = .returned (.int .i64 8) ∧ Nw w w' := by
  obtain ⟨p0, _⟩ := List.getElem?_eq_some_iff.1 ht
  obtain ⟨c0, c1, c2, c3, c4⟩ := h.th.cells ht
  obtain ⟨ct, m2⟩ := h.m2
  have im := h.im
  have it := h.it
  obtain ⟨gm, hgm⟩ : ∃ g, g = p.gm := ⟨_, rfl⟩
  obtain ⟨gt, hgt⟩ : ∃ g, g = p.gt := ⟨_, rfl⟩
  obtain ⟨n, hn⟩ : ∃ n, n = s.th.length := ⟨_, rfl⟩
  rw [← hgm, ← hgt, ← hn] at m2
  rw [← hgt] at c0 c1 c2 c3 c4 it
  rw [← hgm] at im
  rw [← hgm]
  rw [← hn] at p0
  haveI : In gm w := ⟨im⟩
  haveI : In gt w := ⟨it⟩
  have t0 : (0 : Int) ≤ (t : Int) := by omega
  have t1 : (t : Int) < (n : Int) := by omega
  have d0 : decide ((t : Int) < 0) = false := by rw [decide_eq_false_iff_not]; omega
  have d1 : decide ((n : Int) ≤ (t : Int)) = false := by rw [decide_eq_false_iff_not]; omega
  clear h ht hn hgm hgt im it
  go_enter Tryz.func102, Tryz.ntmps102
  go_wp2_with (go_at_call 118; refine (HC.out _).mono ?_; rintro e w' ⟨rfl, dW, rfl⟩)
  go_ret
  exact ⟨rfl, nwa⟩
set_option maxRecDepth 20000 in
set_option maxHeartbeats 4000000 in
theorem refu_13_2 (w : World) (p : Pl) (s : Md) (h : MAt w p s) (t : Nat) (lo hi : Int) (ht : s.th[t]? = some ⟨true, false, lo, hi, true⟩) (a b c d e f : Int) (HC : Hid (∀ W, Calls Tryz.prog 118 #[op7 13 a b c d e f] W fun e w' => e = .returned (.int .i64 0) ∧ Nw W w')) :
    Calls Tryz.prog 102 #[.pointer (some ⟨p.gm, 0, none⟩), .int .i64 t, op7 13 a b c d e f] w fun e w' => e = .returned (.int .i64 13) ∧ Nw w w' := by
  obtain ⟨p0, _⟩ := List.getElem?_eq_some_iff.1 ht
  obtain ⟨c0, c1, c2, c3, c4⟩ := h.th.cells ht
  obtain ⟨ct, m2⟩ := h.m2
  have im := h.im
  have it := h.it
  obtain ⟨gm, hgm⟩ : ∃ g, g = p.gm := ⟨_, rfl⟩
  obtain ⟨gt, hgt⟩ : ∃ g, g = p.gt := ⟨_, rfl⟩
  obtain ⟨n, hn⟩ : ∃ n, n = s.th.length := ⟨_, rfl⟩
  rw [← hgm, ← hgt, ← hn] at m2
  rw [← hgt] at c0 c1 c2 c3 c4 it
  rw [← hgm] at im
  rw [← hgm]
  rw [← hn] at p0
  haveI : In gm w := ⟨im⟩
  haveI : In gt w := ⟨it⟩
  have t0 : (0 : Int) ≤ (t : Int) := by omega
  have t1 : (t : Int) < (n : Int) := by omega
  have d0 : decide ((t : Int) < 0) = false := by rw [decide_eq_false_iff_not]; omega
  have d1 : decide ((n : Int) ≤ (t : Int)) = false := by rw [decide_eq_false_iff_not]; omega
  clear h ht hn hgm hgt im it
  go_enter Tryz.func102, Tryz.ntmps102
  go_wp2_with (go_at_call 118; refine (HC.out _).mono ?_; rintro e w' ⟨rfl, dW, rfl⟩)
  (refine wp_region_nw (by kernel_rfl) (by kernel_rfl) ?_; (repeat (go_big_quiet_step (fail))); refine wpQuiet_nil ?_; intro _ hreg; obtain ⟨dW, rfl⟩ : Nw _ _ := hreg)
  go_wp2
  go_ret
  exact ⟨rfl, nwa⟩
set_option maxRecDepth 20000 in
set_option maxHeartbeats 4000000 in
theorem refu_13_3 (w : World) (p : Pl) (s : Md) (h : MAt w p s) (t : Nat) (lo hi : Int) (ht : s.th[t]? = some ⟨true, true, lo, hi, true⟩) (a b c d e f : Int) (hl : a < lo) (HC : Hid (∀ W, Calls Tryz.prog 118 #[op7 13 a b c d e f] W fun e w' => e = .returned (.int .i64 0) ∧ Nw W w')) :
    Calls Tryz.prog 102 #[.pointer (some ⟨p.gm, 0, none⟩), .int .i64 t, op7 13 a b c d e f] w fun e w' => e = .returned (.int .i64 13) ∧ Nw w w' := by
  obtain ⟨p0, _⟩ := List.getElem?_eq_some_iff.1 ht
  obtain ⟨c0, c1, c2, c3, c4⟩ := h.th.cells ht
  obtain ⟨ct, m2⟩ := h.m2
  have im := h.im
  have it := h.it
  obtain ⟨gm, hgm⟩ : ∃ g, g = p.gm := ⟨_, rfl⟩
  obtain ⟨gt, hgt⟩ : ∃ g, g = p.gt := ⟨_, rfl⟩
  obtain ⟨n, hn⟩ : ∃ n, n = s.th.length := ⟨_, rfl⟩
  rw [← hgm, ← hgt, ← hn] at m2
  rw [← hgt] at c0 c1 c2 c3 c4 it
  rw [← hgm] at im
  rw [← hgm]
  rw [← hn] at p0
  haveI : In gm w := ⟨im⟩
  haveI : In gt w := ⟨it⟩
  have t0 : (0 : Int) ≤ (t : Int) := by omega
  have t1 : (t : Int) < (n : Int) := by omega
  have d0 : decide ((t : Int) < 0) = false := by rw [decide_eq_false_iff_not]; omega
  have d1 : decide ((n : Int) ≤ (t : Int)) = false := by rw [decide_eq_false_iff_not]; omega
  have dl : decide (a < lo) = true := by simp; omega
  clear h ht hn hgm hgt im it hl
  go_enter Tryz.func102, Tryz.ntmps102
  go_wp2_with (go_at_call 118; refine (HC.out _).mono ?_; rintro e w' ⟨rfl, dW, rfl⟩)
  (refine wp_region_nw (by kernel_rfl) (by kernel_rfl) ?_; (repeat (go_big_quiet_step (fail))); refine wpQuiet_nil ?_; intro _ hreg; obtain ⟨dW, rfl⟩ : Nw _ _ := hreg)
  go_wp2
  go_ret
  exact ⟨rfl, nwa⟩
set_option maxRecDepth 20000 in
set_option maxHeartbeats 4000000 in
theorem refu_13_4 (w : World) (p : Pl) (s : Md) (h : MAt w p s) (t : Nat) (lo hi : Int) (ht : s.th[t]? = some ⟨true, true, lo, hi, true⟩) (a b c d e f : Int) (hl : ¬ a < lo) (HC : Hid (∀ W, Calls Tryz.prog 118 #[op7 13 a b c d e f] W fun e w' => e = .returned (.int .i64 0) ∧ Nw W w')) :
    Calls Tryz.prog 102 #[.pointer (some ⟨p.gm, 0, none⟩), .int .i64 t, op7 13 a b c d e f] w fun e w' => e = .returned (.int .i64 0) ∧ Nw w w' := by
  obtain ⟨p0, _⟩ := List.getElem?_eq_some_iff.1 ht
  obtain ⟨c0, c1, c2, c3, c4⟩ := h.th.cells ht
  obtain ⟨ct, m2⟩ := h.m2
  have im := h.im
  have it := h.it
  obtain ⟨gm, hgm⟩ : ∃ g, g = p.gm := ⟨_, rfl⟩
  obtain ⟨gt, hgt⟩ : ∃ g, g = p.gt := ⟨_, rfl⟩
  obtain ⟨n, hn⟩ : ∃ n, n = s.th.length := ⟨_, rfl⟩
  rw [← hgm, ← hgt, ← hn] at m2
  rw [← hgt] at c0 c1 c2 c3 c4 it
  rw [← hgm] at im
  rw [← hgm]
  rw [← hn] at p0
  haveI : In gm w := ⟨im⟩
  haveI : In gt w := ⟨it⟩
  have t0 : (0 : Int) ≤ (t : Int) := by omega
  have t1 : (t : Int) < (n : Int) := by omega
  have d0 : decide ((t : Int) < 0) = false := by rw [decide_eq_false_iff_not]; omega
  have d1 : decide ((n : Int) ≤ (t : Int)) = false := by rw [decide_eq_false_iff_not]; omega
  have dl : decide (a < lo) = false := by simp; omega
  clear h ht hn hgm hgt im it hl
  go_enter Tryz.func102, Tryz.ntmps102
  go_wp2_with (go_at_call 118; refine (HC.out _).mono ?_; rintro e w' ⟨rfl, dW, rfl⟩)
  (refine wp_region_nw (by kernel_rfl) (by kernel_rfl) ?_; (repeat (go_big_quiet_step (fail))); refine wpQuiet_nil ?_; intro _ hreg; obtain ⟨dW, rfl⟩ : Nw _ _ := hreg)
  go_wp2
  go_ret
  exact ⟨rfl, nwa⟩
set_option maxRecDepth 20000 in
set_option maxHeartbeats 4000000 in
theorem refu_14_0 (w : World) (p : Pl) (s : Md) (h : MAt w p s) (t : Nat) (op mo : Bool) (lo hi : Int) (ht : s.th[t]? = some ⟨op, mo, lo, hi, false⟩) (a b c d e f : Int) (HC : Hid (∀ W, Calls Tryz.prog 118 #[op7 14 a b c d e f] W fun e w' => e = .returned (.int .i64 0) ∧ Nw W w')) :
    Calls Tryz.prog 102 #[.pointer (some ⟨p.gm, 0, none⟩), .int .i64 t, op7 14 a b c d e f] w fun e w' => e = .returned (.int .i64 10) ∧ Nw w w' := by
  obtain ⟨p0, _⟩ := List.getElem?_eq_some_iff.1 ht
  obtain ⟨c0, c1, c2, c3, c4⟩ := h.th.cells ht
  obtain ⟨ct, m2⟩ := h.m2
  have im := h.im
  have it := h.it
  obtain ⟨gm, hgm⟩ : ∃ g, g = p.gm := ⟨_, rfl⟩
  obtain ⟨gt, hgt⟩ : ∃ g, g = p.gt := ⟨_, rfl⟩
  obtain ⟨n, hn⟩ : ∃ n, n = s.th.length := ⟨_, rfl⟩
  rw [← hgm, ← hgt, ← hn] at m2
  rw [← hgt] at c0 c1 c2 c3 c4 it
  rw [← hgm] at im
  rw [← hgm]
  rw [← hn] at p0
  haveI : In gm w := ⟨im⟩
  haveI : In gt w := ⟨it⟩
  have t0 : (0 : Int) ≤ (t : Int) := by omega
  have t1 : (t : Int) < (n : Int) := by omega
  have d0 : decide ((t : Int) < 0) = false := by rw [decide_eq_false_iff_not]; omega
  have d1 : decide ((n : Int) ≤ (t : Int)) = false := by rw [decide_eq_false_iff_not]; omega
  clear h ht hn hgm hgt im it
  go_enter Tryz.func102, Tryz.ntmps102
  go_wp2_with (go_at_call 118; refine (HC.out _).mono ?_; rintro e w' ⟨rfl, dW, rfl⟩)
  go_ret
  exact ⟨rfl, nwa⟩
set_option maxRecDepth 20000 in
set_option maxHeartbeats 4000000 in
theorem refu_14_1 (w : World) (p : Pl) (s : Md) (h : MAt w p s) (t : Nat) (mo : Bool) (lo hi : Int) (ht : s.th[t]? = some ⟨false, mo, lo, hi, true⟩) (a b c d e f : Int) (HC : Hid (∀ W, Calls Tryz.prog 118 #[op7 14 a b c d e f] W fun e w' => e = .returned (.int .i64 0) ∧ Nw W w')) :
    Calls Tryz.prog 102 #[.pointer (some ⟨p.gm, 0, none⟩), .int .i64 t, op7 14 a b c d e f] w fun e w' => e = .returned (.int .i64 8) ∧ Nw w w' := by
  obtain ⟨p0, _⟩ := List.getElem?_eq_some_iff.1 ht
  obtain ⟨c0, c1, c2, c3, c4⟩ := h.th.cells ht
  obtain ⟨ct, m2⟩ := h.m2
  have im := h.im
  have it := h.it
  obtain ⟨gm, hgm⟩ : ∃ g, g = p.gm := ⟨_, rfl⟩
  obtain ⟨gt, hgt⟩ : ∃ g, g = p.gt := ⟨_, rfl⟩
  obtain ⟨n, hn⟩ : ∃ n, n = s.th.length := ⟨_, rfl⟩
  rw [← hgm, ← hgt, ← hn] at m2
  rw [← hgt] at c0 c1 c2 c3 c4 it
  rw [← hgm] at im
  rw [← hgm]
  rw [← hn] at p0
  haveI : In gm w := ⟨im⟩
  haveI : In gt w := ⟨it⟩
  have t0 : (0 : Int) ≤ (t : Int) := by omega
  have t1 : (t : Int) < (n : Int) := by omega
  have d0 : decide ((t : Int) < 0) = false := by rw [decide_eq_false_iff_not]; omega
  have d1 : decide ((n : Int) ≤ (t : Int)) = false := by rw [decide_eq_false_iff_not]; omega
  clear h ht hn hgm hgt im it
  go_enter Tryz.func102, Tryz.ntmps102
  go_wp2_with (go_at_call 118; refine (HC.out _).mono ?_; rintro e w' ⟨rfl, dW, rfl⟩)
  go_ret
  exact ⟨rfl, nwa⟩
set_option maxRecDepth 20000 in
set_option maxHeartbeats 4000000 in
theorem refu_14_2 (w : World) (p : Pl) (s : Md) (h : MAt w p s) (t : Nat) (mo : Bool) (lo hi : Int) (ht : s.th[t]? = some ⟨true, mo, lo, hi, true⟩) (a b c d e f : Int) (HC : Hid (∀ W, Calls Tryz.prog 118 #[op7 14 a b c d e f] W fun e w' => e = .returned (.int .i64 0) ∧ Nw W w')) :
    Calls Tryz.prog 102 #[.pointer (some ⟨p.gm, 0, none⟩), .int .i64 t, op7 14 a b c d e f] w fun e w' => e = .returned (.int .i64 0) ∧ Nw w w' := by
  obtain ⟨p0, _⟩ := List.getElem?_eq_some_iff.1 ht
  obtain ⟨c0, c1, c2, c3, c4⟩ := h.th.cells ht
  obtain ⟨ct, m2⟩ := h.m2
  have im := h.im
  have it := h.it
  obtain ⟨gm, hgm⟩ : ∃ g, g = p.gm := ⟨_, rfl⟩
  obtain ⟨gt, hgt⟩ : ∃ g, g = p.gt := ⟨_, rfl⟩
  obtain ⟨n, hn⟩ : ∃ n, n = s.th.length := ⟨_, rfl⟩
  rw [← hgm, ← hgt, ← hn] at m2
  rw [← hgt] at c0 c1 c2 c3 c4 it
  rw [← hgm] at im
  rw [← hgm]
  rw [← hn] at p0
  haveI : In gm w := ⟨im⟩
  haveI : In gt w := ⟨it⟩
  have t0 : (0 : Int) ≤ (t : Int) := by omega
  have t1 : (t : Int) < (n : Int) := by omega
  have d0 : decide ((t : Int) < 0) = false := by rw [decide_eq_false_iff_not]; omega
  have d1 : decide ((n : Int) ≤ (t : Int)) = false := by rw [decide_eq_false_iff_not]; omega
  clear h ht hn hgm hgt im it
  go_enter Tryz.func102, Tryz.ntmps102
  go_wp2_with (go_at_call 118; refine (HC.out _).mono ?_; rintro e w' ⟨rfl, dW, rfl⟩)
  (refine wp_region_nw (by kernel_rfl) (by kernel_rfl) ?_; (repeat (go_big_quiet_step (fail))); refine wpQuiet_nil ?_; intro _ hreg; obtain ⟨dW, rfl⟩ : Nw _ _ := hreg)
  go_wp2
  go_ret
  exact ⟨rfl, nwa⟩
set_option maxRecDepth 20000 in
set_option maxHeartbeats 4000000 in
theorem refu_15_0 (w : World) (p : Pl) (s : Md) (h : MAt w p s) (t : Nat) (op mo : Bool) (lo hi : Int) (ht : s.th[t]? = some ⟨op, mo, lo, hi, false⟩) (a b c d e f : Int) (HC : Hid (∀ W, Calls Tryz.prog 118 #[op7 15 a b c d e f] W fun e w' => e = .returned (.int .i64 0) ∧ Nw W w')) :
    Calls Tryz.prog 102 #[.pointer (some ⟨p.gm, 0, none⟩), .int .i64 t, op7 15 a b c d e f] w fun e w' => e = .returned (.int .i64 10) ∧ Nw w w' := by
  obtain ⟨p0, _⟩ := List.getElem?_eq_some_iff.1 ht
  obtain ⟨c0, c1, c2, c3, c4⟩ := h.th.cells ht
  obtain ⟨ct, m2⟩ := h.m2
  have im := h.im
  have it := h.it
  obtain ⟨gm, hgm⟩ : ∃ g, g = p.gm := ⟨_, rfl⟩
  obtain ⟨gt, hgt⟩ : ∃ g, g = p.gt := ⟨_, rfl⟩
  obtain ⟨n, hn⟩ : ∃ n, n = s.th.length := ⟨_, rfl⟩
  rw [← hgm, ← hgt, ← hn] at m2
  rw [← hgt] at c0 c1 c2 c3 c4 it
  rw [← hgm] at im
  rw [← hgm]
  rw [← hn] at p0
  haveI : In gm w := ⟨im⟩
  haveI : In gt w := ⟨it⟩
  have t0 : (0 : Int) ≤ (t : Int) := by omega
  have t1 : (t : Int) < (n : Int) := by omega
  have d0 : decide ((t : Int) < 0) = false := by rw [decide_eq_false_iff_not]; omega
  have d1 : decide ((n : Int) ≤ (t : Int)) = false := by rw [decide_eq_false_iff_not]; omega
  clear h ht hn hgm hgt im it
  go_enter Tryz.func102, Tryz.ntmps102
  go_wp2_with (go_at_call 118; refine (HC.out _).mono ?_; rintro e w' ⟨rfl, dW, rfl⟩)
  go_ret
  exact ⟨rfl, nwa⟩
set_option maxRecDepth 20000 in
set_option maxHeartbeats 4000000 in
theorem refu_15_1 (w : World) (p : Pl) (s : Md) (h : MAt w p s) (t : Nat) (op mo : Bool) (lo hi : Int) (ht : s.th[t]? = some ⟨op, mo, lo, hi, true⟩) (a b c d e f : Int) (HC : Hid (∀ W, Calls Tryz.prog 118 #[op7 15 a b c d e f] W fun e w' => e = .returned (.int .i64 0) ∧ Nw W w')) :
    Calls Tryz.prog 102 #[.pointer (some ⟨p.gm, 0, none⟩), .int .i64 t, op7 15 a b c d e f] w fun e w' => e = .returned (.int .i64 0) ∧ Nw w w' := by
  obtain ⟨p0, _⟩ := List.getElem?_eq_some_iff.1 ht
  obtain ⟨c0, c1, c2, c3, c4⟩ := h.th.cells ht
  obtain ⟨ct, m2⟩ := h.m2
  have im := h.im
  have it := h.it
  obtain ⟨gm, hgm⟩ : ∃ g, g = p.gm := ⟨_, rfl⟩
  obtain ⟨gt, hgt⟩ : ∃ g, g = p.gt := ⟨_, rfl⟩
  obtain ⟨n, hn⟩ : ∃ n, n = s.th.length := ⟨_, rfl⟩
  rw [← hgm, ← hgt, ← hn] at m2
  rw [← hgt] at c0 c1 c2 c3 c4 it
  rw [← hgm] at im
  rw [← hgm]
  rw [← hn] at p0
  haveI : In gm w := ⟨im⟩
  haveI : In gt w := ⟨it⟩
  have t0 : (0 : Int) ≤ (t : Int) := by omega
  have t1 : (t : Int) < (n : Int) := by omega
  have d0 : decide ((t : Int) < 0) = false := by rw [decide_eq_false_iff_not]; omega
  have d1 : decide ((n : Int) ≤ (t : Int)) = false := by rw [decide_eq_false_iff_not]; omega
  clear h ht hn hgm hgt im it
  go_enter Tryz.func102, Tryz.ntmps102
  go_wp2_with (go_at_call 118; refine (HC.out _).mono ?_; rintro e w' ⟨rfl, dW, rfl⟩)
  (refine wp_region_nw (by kernel_rfl) (by kernel_rfl) ?_; (repeat (go_big_quiet_step (fail))); refine wpQuiet_nil ?_; intro _ hreg; obtain ⟨dW, rfl⟩ : Nw _ _ := hreg)
  go_wp2
  go_ret
  exact ⟨rfl, nwa⟩
theorem refusal_any (w : World) (p : Pl) (s : Md) (h : MAt w p s) (t : Int) (o : Ox) (hw : o.Wf) :
    Calls Tryz.prog 102 #[.pointer (some ⟨p.gm, 0, none⟩), .int .i64 t, opV o] w fun e w' => e = .returned (.int .i64 (refM s t o)) ∧ Nw w w' := by
  by_cases h0 : t < 0 ∨ (s.th.length : Int) ≤ t
  · have e1 : refM s t o = 2 := by unfold refM; rw [if_pos h0]
    rw [e1]; exact refu_out w p s h t o h0
  obtain ⟨t, rfl⟩ : ∃ n : Nat, t = n := ⟨t.toNat, by omega⟩
  obtain ⟨x, hx⟩ : ∃ x, s.th[t]? = some x := ⟨_, List.getElem?_eq_getElem (by omega)⟩
  by_cases hc : chkO o ≠ 0
  · have e1 : refM s t o = chkO o := by unfold refM; rw [if_neg h0, if_pos hc]
    rw [e1]; exact refu_chk w p s h t x hx o hw hc
  · have e1 : refM s t o = refE x o := by
      unfold refM; rw [if_neg h0, if_neg hc]
      have : ((t : Int)).toNat = t := rfl
      rw [this, hx]
    have hc : chkO o = 0 := by omega
    have HC := Lib.hid (fun W => check_any o hw W)
    rw [hc] at HC
    rw [e1]
    have hk : 1 ≤ o.k ∧ o.k ≤ 15 := by
      have hf : o.formed = true := by
        cases hf : o.formed with
        | true => rfl
        | false => unfold chkO at hc; rw [if_pos hf] at hc; cases hc
      unfold Ox.formed at hf
      simp only [Bool.and_eq_true, decide_eq_true_eq] at hf
      exact ⟨hf.1.1.1.1.1.1.1, hf.1.1.1.1.1.1.2⟩
    clear hw hc e1 h0
    obtain ⟨k, a, b, c, d, e, f⟩ := o
    obtain ⟨op, mo, lo, hi, se⟩ := x
    unfold opV at HC ⊢
    simp only at HC hk ⊢
    rcases (by omega : k = 1 ∨ k = 2 ∨ k = 3 ∨ k = 4 ∨ k = 5 ∨ k = 6 ∨ k = 7 ∨ k = 8 ∨ k = 9 ∨ k = 10 ∨ k = 11 ∨ k = 12 ∨ k = 13 ∨ k = 14 ∨ k = 15) with rfl | rfl | rfl | rfl | rfl | rfl | rfl | rfl | rfl | rfl | rfl | rfl | rfl | rfl | rfl
    · cases se with
      | true =>
        exact refu_1_0 w p s h t op mo lo hi hx a b c d e f HC
      | false =>
        exact refu_1_1 w p s h t op mo lo hi hx a b c d e f HC
    · cases se with
      | false =>
        exact refu_2_0 w p s h t op mo lo hi hx a b c d e f HC
      | true =>
        cases op with
        | true =>
          exact refu_2_1 w p s h t mo lo hi hx a b c d e f HC
        | false =>
          exact refu_2_2 w p s h t mo lo hi hx a b c d e f HC
    · cases se with
      | false =>
        exact refu_3_0 w p s h t op mo lo hi hx a b c d e f HC
      | true =>
        exact refu_3_1 w p s h t op mo lo hi hx a b c d e f HC
    · cases se with
      | false =>
        exact refu_4_0 w p s h t op mo lo hi hx a b c d e f HC
      | true =>
        exact refu_4_1 w p s h t op mo lo hi hx a b c d e f HC
    · cases se with
      | false =>
        exact refu_5_0 w p s h t op mo lo hi hx a b c d e f HC
      | true =>
        exact refu_5_1 w p s h t op mo lo hi hx a b c d e f HC
    · cases se with
      | false =>
        exact refu_6_0 w p s h t op mo lo hi hx a b c d e f HC
      | true =>
        exact refu_6_1 w p s h t op mo lo hi hx a b c d e f HC
    · cases se with
      | false =>
        exact refu_7_0 w p s h t op mo lo hi hx a b c d e f HC
      | true =>
        exact refu_7_1 w p s h t op mo lo hi hx a b c d e f HC
    · cases se with
      | false =>
        exact refu_8_0 w p s h t op mo lo hi hx a b c d e f HC
      | true =>
        exact refu_8_1 w p s h t op mo lo hi hx a b c d e f HC
    · cases se with
      | false =>
        exact refu_9_0 w p s h t op mo lo hi hx a b c d e f HC
      | true =>
        exact refu_9_1 w p s h t op mo lo hi hx a b c d e f HC
    · cases se with
      | false =>
        exact refu_10_0 w p s h t op mo lo hi hx a b c d e f HC
      | true =>
        exact refu_10_1 w p s h t op mo lo hi hx a b c d e f HC
    · cases se with
      | false =>
        exact refu_11_0 w p s h t op mo lo hi hx a b c d e f HC
      | true =>
        cases op with
        | true =>
          exact refu_11_1 w p s h t mo lo hi hx a b c d e f HC
        | false =>
          exact refu_11_2 w p s h t mo lo hi hx a b c d e f HC
    · cases se with
      | false =>
        exact refu_12_0 w p s h t op mo lo hi hx a b c d e f HC
      | true =>
        cases op with
        | false =>
          exact refu_12_1 w p s h t mo lo hi hx a b c d e f HC
        | true =>
          cases mo with
          | false =>
            exact refu_12_2 w p s h t lo hi hx a b c d e f HC
          | true =>
            exact refu_12_3 w p s h t lo hi hx a b c d e f HC
    · cases se with
      | false =>
        exact refu_13_0 w p s h t op mo lo hi hx a b c d e f HC
      | true =>
        cases op with
        | false =>
          exact refu_13_1 w p s h t mo lo hi hx a b c d e f HC
        | true =>
          cases mo with
          | false =>
            exact refu_13_2 w p s h t lo hi hx a b c d e f HC
          | true =>
            by_cases hl : a < lo
            · have e1 : refE ⟨true, true, lo, hi, true⟩ ⟨13, a, b, c, d, e, f⟩ = 13 := by simp [refE, hl]
              rw [e1]
              exact refu_13_3 w p s h t lo hi hx a b c d e f hl HC
            · have e1 : refE ⟨true, true, lo, hi, true⟩ ⟨13, a, b, c, d, e, f⟩ = 0 := by simp [refE, hl]
              rw [e1]
              exact refu_13_4 w p s h t lo hi hx a b c d e f hl HC
    · cases se with
      | false =>
        exact refu_14_0 w p s h t op mo lo hi hx a b c d e f HC
      | true =>
        cases op with
        | false =>
          exact refu_14_1 w p s h t mo lo hi hx a b c d e f HC
        | true =>
          exact refu_14_2 w p s h t mo lo hi hx a b c d e f HC
    · cases se with
      | false =>
        exact refu_15_0 w p s h t op mo lo hi hx a b c d e f HC
      | true =>
        exact refu_15_1 w p s h t op mo lo hi hx a b c d e f HC
end Go.Proofs.YtkikdpdainmlcaaGreat
