import Derived.Test.YtfnapkfdocabcaaGreatGPm
set_option linter.unusedVariables false
set_option linter.unusedSimpArgs false
set_option linter.unnecessarySimpa false
namespace Go.Proofs.YtfnapkfdocabcaaGreat
open Go.RowKit Go.Xt
/-! client.Check at any operation. -/
/-- An operation. -/
structure Ox where
  k : Int
  key : Int
  hi : Int
  val : Int
  old : Int
  by_ : Int
  draw : Int
def opV (o : Ox) : Value := op7 o.k o.key o.hi o.val o.old o.by_ o.draw
/-- Whether a kind uses a field. -/
def uK (k : Int) : Bool := decide (k = 3) || decide (k = 4) || decide (k = 5) || decide (k = 6) || decide (k = 7) || decide (k = 8) || decide (k = 9) || decide (k = 11) || decide (k = 13)
def uH (k : Int) : Bool := decide (k = 8) || decide (k = 9) || decide (k = 11)
def uV (k : Int) : Bool := decide (k = 4) || decide (k = 5) || decide (k = 7)
def uO (k : Int) : Bool := decide (k = 7)
def uB (k : Int) : Bool := decide (k = 8)
def uD (k : Int) : Bool := decide (k = 4) || decide (k = 5) || decide (k = 8)
def Ox.formed (o : Ox) : Bool := decide (1 ≤ o.k) && decide (o.k ≤ 15) && (uK o.k || decide (o.key = 0)) && (uH o.k || decide (o.hi = 0)) && (uV o.k || decide (o.val = 0)) && (uO o.k || decide (o.old = 0)) && (uB o.k || decide (o.by_ = 0)) && (uD o.k || decide (o.draw = 0))
/-- The error of an operation whatever the state is. -/
def chkO (o : Ox) : Int :=
  if o.formed = false then 2
  else if uH o.k = true ∧ o.hi < o.key ∨ o.k = 8 ∧ o.by_ = 0 then 13
  else if o.k = 8 ∧ 18446744073709551615 - o.by_ < o.hi then 12
  else 0
structure Ox.Wf (o : Ox) : Prop where
  k : 0 ≤ o.k ∧ o.k < 256
  key : 0 ≤ o.key ∧ o.key < 18446744073709551616
  hi : 0 ≤ o.hi ∧ o.hi < 18446744073709551616
  val : 0 ≤ o.val ∧ o.val < 18446744073709551616
  old : 0 ≤ o.old ∧ o.old < 18446744073709551616
  by_ : 0 ≤ o.by_ ∧ o.by_ < 18446744073709551616
  draw : 0 ≤ o.draw ∧ o.draw < 18446744073709551616
/-- Whether two operations are the same. -/
def eqB (k a b c d e f k' a' b' c' d' e' f' : Int) : Bool := decide (k = k') && (decide (a = a') && (decide (b = b') && (decide (c = c') && (decide (d = d') && (decide (e = e') && decide (f = f'))))))
@[go_sem 20000] theorem eqOpB (k a b c d e f k' a' b' c' d' e' f' : Int) (w : World) : (Op.equalIn 10000 43 (op7 k a b c d e f) (op7 k' a' b' c' d' e' f')).run Tryz.prog w = .ok (eqB k a b c d e f k' a' b' c' d' e' f') w := eqOp k a b c d e f k' a' b' c' d' e' f' w
def spE (lo hi : Int) : Int := if lo ≤ hi then 0 else 13
theorem spcheck_any (lo hi : Int) (w : World) :
    Calls Tryz.prog 92 #[spV lo hi] w fun e w' => e = .returned (.int .i64 (spE lo hi)) ∧ Nw w w' := by
  unfold spV spE
  go_enter Tryz.func92, Tryz.ntmps92
  go_wp2
  all_goals (go_ret; exact ⟨by simp [*]; try omega, (by repeat (first | exact Xt.Nw.refl _ | refine Xt.Nw.drew ?_ | refine Xt.Nw.drewN ?_ _ | refine Xt.Nw.alloc ?_ _ | refine Xt.Nw.joined ?_ | refine Xt.Nw.drewd ?_ | refine Xt.Nw.drewdN ?_ | refine Xt.Nw.ext ?_ | refine Xt.Nw.ext_some ?_ (by assumption) | refine Xt.Nw.setCell ?_ (by simp [go_sem] <;> omega) _))⟩)
set_option maxRecDepth 20000 in
set_option maxHeartbeats 4000000 in
theorem ccheck_1 (a b c d e f : Int) (w : World) : Calls Tryz.prog 54 #[op7 1 a b c d e f] w fun r w' => r = .returned (.int .i64 (if eqB 1 0 0 0 0 0 0 1 a b c d e f = false then (2 : Int) else 0)) ∧ Nw w w' := by
  obtain ⟨B, hB⟩ : ∃ B, B = eqB 1 0 0 0 0 0 0 1 a b c d e f := ⟨_, rfl⟩
  obtain ⟨R, hR⟩ : ∃ R, R = (if eqB 1 0 0 0 0 0 0 1 a b c d e f = false then (2 : Int) else 0) := ⟨_, rfl⟩
  rw [← hR]
  rw [← hB] at hR
  have HR := Lib.hid hR
  have hB' := hB.symm
  clear hR hB
  go_enter Tryz.func54, Tryz.ntmps54
  go_wp2
  all_goals (go_ret; refine ⟨?_, (by repeat (first | exact Xt.Nw.refl _ | refine Xt.Nw.drew ?_ | refine Xt.Nw.drewN ?_ _ | refine Xt.Nw.alloc ?_ _ | refine Xt.Nw.joined ?_ | refine Xt.Nw.drewd ?_ | refine Xt.Nw.drewdN ?_ | refine Xt.Nw.ext ?_ | refine Xt.Nw.ext_some ?_ (by assumption) | refine Xt.Nw.setCell ?_ (by simp [go_sem] <;> omega) _))⟩; have := HR.out; simp_all)
set_option maxRecDepth 20000 in
set_option maxHeartbeats 4000000 in
theorem ccheck_2 (a b c d e f : Int) (w : World) : Calls Tryz.prog 54 #[op7 2 a b c d e f] w fun r w' => r = .returned (.int .i64 (if eqB 2 0 0 0 0 0 0 2 a b c d e f = false then (2 : Int) else 0)) ∧ Nw w w' := by
  obtain ⟨B, hB⟩ : ∃ B, B = eqB 2 0 0 0 0 0 0 2 a b c d e f := ⟨_, rfl⟩
  obtain ⟨R, hR⟩ : ∃ R, R = (if eqB 2 0 0 0 0 0 0 2 a b c d e f = false then (2 : Int) else 0) := ⟨_, rfl⟩
  rw [← hR]
  rw [← hB] at hR
  have HR := Lib.hid hR
  have hB' := hB.symm
  clear hR hB
  go_enter Tryz.func54, Tryz.ntmps54
  go_wp2
  all_goals (go_ret; refine ⟨?_, (by repeat (first | exact Xt.Nw.refl _ | refine Xt.Nw.drew ?_ | refine Xt.Nw.drewN ?_ _ | refine Xt.Nw.alloc ?_ _ | refine Xt.Nw.joined ?_ | refine Xt.Nw.drewd ?_ | refine Xt.Nw.drewdN ?_ | refine Xt.Nw.ext ?_ | refine Xt.Nw.ext_some ?_ (by assumption) | refine Xt.Nw.setCell ?_ (by simp [go_sem] <;> omega) _))⟩; have := HR.out; simp_all)
set_option maxRecDepth 20000 in
set_option maxHeartbeats 4000000 in
theorem ccheck_3 (a b c d e f : Int) (w : World) : Calls Tryz.prog 54 #[op7 3 a b c d e f] w fun r w' => r = .returned (.int .i64 (if eqB 3 a 0 0 0 0 0 3 a b c d e f = false then (2 : Int) else 0)) ∧ Nw w w' := by
  obtain ⟨B, hB⟩ : ∃ B, B = eqB 3 a 0 0 0 0 0 3 a b c d e f := ⟨_, rfl⟩
  obtain ⟨R, hR⟩ : ∃ R, R = (if eqB 3 a 0 0 0 0 0 3 a b c d e f = false then (2 : Int) else 0) := ⟨_, rfl⟩
  rw [← hR]
  rw [← hB] at hR
  have HR := Lib.hid hR
  have hB' := hB.symm
  clear hR hB
  go_enter Tryz.func54, Tryz.ntmps54
  go_wp2
  all_goals (go_ret; refine ⟨?_, (by repeat (first | exact Xt.Nw.refl _ | refine Xt.Nw.drew ?_ | refine Xt.Nw.drewN ?_ _ | refine Xt.Nw.alloc ?_ _ | refine Xt.Nw.joined ?_ | refine Xt.Nw.drewd ?_ | refine Xt.Nw.drewdN ?_ | refine Xt.Nw.ext ?_ | refine Xt.Nw.ext_some ?_ (by assumption) | refine Xt.Nw.setCell ?_ (by simp [go_sem] <;> omega) _))⟩; have := HR.out; simp_all)
set_option maxRecDepth 20000 in
set_option maxHeartbeats 4000000 in
theorem ccheck_4 (a b c d e f : Int) (w : World) : Calls Tryz.prog 54 #[op7 4 a b c d e f] w fun r w' => r = .returned (.int .i64 (if eqB 4 a 0 c 0 0 f 4 a b c d e f = false then (2 : Int) else 0)) ∧ Nw w w' := by
  obtain ⟨B, hB⟩ : ∃ B, B = eqB 4 a 0 c 0 0 f 4 a b c d e f := ⟨_, rfl⟩
  obtain ⟨R, hR⟩ : ∃ R, R = (if eqB 4 a 0 c 0 0 f 4 a b c d e f = false then (2 : Int) else 0) := ⟨_, rfl⟩
  rw [← hR]
  rw [← hB] at hR
  have HR := Lib.hid hR
  have hB' := hB.symm
  clear hR hB
  go_enter Tryz.func54, Tryz.ntmps54
  go_upto_region 9 with (fail)
  go_region
  go_wp2
  all_goals (go_ret; refine ⟨?_, (by repeat (first | exact Xt.Nw.refl _ | refine Xt.Nw.drew ?_ | refine Xt.Nw.drewN ?_ _ | refine Xt.Nw.alloc ?_ _ | refine Xt.Nw.joined ?_ | refine Xt.Nw.drewd ?_ | refine Xt.Nw.drewdN ?_ | refine Xt.Nw.ext ?_ | refine Xt.Nw.ext_some ?_ (by assumption) | refine Xt.Nw.setCell ?_ (by simp [go_sem] <;> omega) _))⟩; have := HR.out; simp_all)
set_option maxRecDepth 20000 in
set_option maxHeartbeats 4000000 in
theorem ccheck_5 (a b c d e f : Int) (w : World) : Calls Tryz.prog 54 #[op7 5 a b c d e f] w fun r w' => r = .returned (.int .i64 (if eqB 5 a 0 c 0 0 f 5 a b c d e f = false then (2 : Int) else 0)) ∧ Nw w w' := by
  obtain ⟨B, hB⟩ : ∃ B, B = eqB 5 a 0 c 0 0 f 5 a b c d e f := ⟨_, rfl⟩
  obtain ⟨R, hR⟩ : ∃ R, R = (if eqB 5 a 0 c 0 0 f 5 a b c d e f = false then (2 : Int) else 0) := ⟨_, rfl⟩
  rw [← hR]
  rw [← hB] at hR
  have HR := Lib.hid hR
  have hB' := hB.symm
  clear hR hB
  go_enter Tryz.func54, Tryz.ntmps54
  go_upto_region 9 with (fail)
  go_region
  go_wp2
  all_goals (go_ret; refine ⟨?_, (by repeat (first | exact Xt.Nw.refl _ | refine Xt.Nw.drew ?_ | refine Xt.Nw.drewN ?_ _ | refine Xt.Nw.alloc ?_ _ | refine Xt.Nw.joined ?_ | refine Xt.Nw.drewd ?_ | refine Xt.Nw.drewdN ?_ | refine Xt.Nw.ext ?_ | refine Xt.Nw.ext_some ?_ (by assumption) | refine Xt.Nw.setCell ?_ (by simp [go_sem] <;> omega) _))⟩; have := HR.out; simp_all)
set_option maxRecDepth 20000 in
set_option maxHeartbeats 4000000 in
theorem ccheck_6 (a b c d e f : Int) (w : World) : Calls Tryz.prog 54 #[op7 6 a b c d e f] w fun r w' => r = .returned (.int .i64 (if eqB 6 a 0 0 0 0 0 6 a b c d e f = false then (2 : Int) else 0)) ∧ Nw w w' := by
  obtain ⟨B, hB⟩ : ∃ B, B = eqB 6 a 0 0 0 0 0 6 a b c d e f := ⟨_, rfl⟩
  obtain ⟨R, hR⟩ : ∃ R, R = (if eqB 6 a 0 0 0 0 0 6 a b c d e f = false then (2 : Int) else 0) := ⟨_, rfl⟩
  rw [← hR]
  rw [← hB] at hR
  have HR := Lib.hid hR
  have hB' := hB.symm
  clear hR hB
  go_enter Tryz.func54, Tryz.ntmps54
  go_wp2
  all_goals (go_ret; refine ⟨?_, (by repeat (first | exact Xt.Nw.refl _ | refine Xt.Nw.drew ?_ | refine Xt.Nw.drewN ?_ _ | refine Xt.Nw.alloc ?_ _ | refine Xt.Nw.joined ?_ | refine Xt.Nw.drewd ?_ | refine Xt.Nw.drewdN ?_ | refine Xt.Nw.ext ?_ | refine Xt.Nw.ext_some ?_ (by assumption) | refine Xt.Nw.setCell ?_ (by simp [go_sem] <;> omega) _))⟩; have := HR.out; simp_all)
set_option maxRecDepth 20000 in
set_option maxHeartbeats 4000000 in
theorem ccheck_7 (a b c d e f : Int) (w : World) : Calls Tryz.prog 54 #[op7 7 a b c d e f] w fun r w' => r = .returned (.int .i64 (if eqB 7 a 0 c d 0 0 7 a b c d e f = false then (2 : Int) else 0)) ∧ Nw w w' := by
  obtain ⟨B, hB⟩ : ∃ B, B = eqB 7 a 0 c d 0 0 7 a b c d e f := ⟨_, rfl⟩
  obtain ⟨R, hR⟩ : ∃ R, R = (if eqB 7 a 0 c d 0 0 7 a b c d e f = false then (2 : Int) else 0) := ⟨_, rfl⟩
  rw [← hR]
  rw [← hB] at hR
  have HR := Lib.hid hR
  have hB' := hB.symm
  clear hR hB
  go_enter Tryz.func54, Tryz.ntmps54
  go_upto_region 11 with (fail)
  go_region
  go_wp2
  all_goals (go_ret; refine ⟨?_, (by repeat (first | exact Xt.Nw.refl _ | refine Xt.Nw.drew ?_ | refine Xt.Nw.drewN ?_ _ | refine Xt.Nw.alloc ?_ _ | refine Xt.Nw.joined ?_ | refine Xt.Nw.drewd ?_ | refine Xt.Nw.drewdN ?_ | refine Xt.Nw.ext ?_ | refine Xt.Nw.ext_some ?_ (by assumption) | refine Xt.Nw.setCell ?_ (by simp [go_sem] <;> omega) _))⟩; have := HR.out; simp_all)
set_option maxRecDepth 20000 in
set_option maxHeartbeats 4000000 in
theorem ccheck_8 (a b c d e f : Int) (he : 0 ≤ e ∧ e < 18446744073709551616) (w : World) : Calls Tryz.prog 54 #[op7 8 a b c d e f] w fun r w' => r = .returned (.int .i64 (if eqB 8 a b 0 0 e f 8 a b c d e f = false then (2 : Int) else if spE a b ≠ 0 ∨ e = 0 then 13 else if 18446744073709551615 - e < b then 12 else 0)) ∧ Nw w w' := by
  have HC := Lib.hid (fun W => spcheck_any a b W)
  unfold spV at HC
  obtain ⟨z, hz⟩ : ∃ z, z = spE a b := ⟨_, rfl⟩
  obtain ⟨B, hB⟩ : ∃ B, B = eqB 8 a b 0 0 e f 8 a b c d e f := ⟨_, rfl⟩
  obtain ⟨R, hR⟩ : ∃ R, R = (if eqB 8 a b 0 0 e f 8 a b c d e f = false then (2 : Int) else if spE a b ≠ 0 ∨ e = 0 then 13 else if 18446744073709551615 - e < b then 12 else 0) := ⟨_, rfl⟩
  rw [← hR]
  rw [← hB, ← hz] at hR
  have HR := Lib.hid hR
  have hB' := hB.symm
  rw [← hz] at HC
  have q3 : IntKind.u64.wrap (18446744073709551615 - e) = 18446744073709551615 - e := by rw [IntKind.wrap_u64]; omega
  clear hR hB hz he
  go_enter Tryz.func54, Tryz.ntmps54
  go_upto_region 13 with (fail)
  go_region
  go_wp2_with (go_at_call 92; refine (HC.out _).mono ?_; rintro e w' ⟨rfl, dW, rfl⟩)
  all_goals (go_ret; refine ⟨?_, (by repeat (first | exact Xt.Nw.refl _ | refine Xt.Nw.drew ?_ | refine Xt.Nw.drewN ?_ _ | refine Xt.Nw.alloc ?_ _ | refine Xt.Nw.joined ?_ | refine Xt.Nw.drewd ?_ | refine Xt.Nw.drewdN ?_ | refine Xt.Nw.ext ?_ | refine Xt.Nw.ext_some ?_ (by assumption) | refine Xt.Nw.setCell ?_ (by simp [go_sem] <;> omega) _))⟩; have := HR.out; simp_all)
set_option maxRecDepth 20000 in
set_option maxHeartbeats 4000000 in
theorem ccheck_9 (a b c d e f : Int) (w : World) : Calls Tryz.prog 54 #[op7 9 a b c d e f] w fun r w' => r = .returned (.int .i64 (if eqB 9 a b 0 0 0 0 9 a b c d e f = false then (2 : Int) else if spE a b ≠ 0 then 13 else 0)) ∧ Nw w w' := by
  have HC := Lib.hid (fun W => spcheck_any a b W)
  unfold spV at HC
  obtain ⟨z, hz⟩ : ∃ z, z = spE a b := ⟨_, rfl⟩
  obtain ⟨B, hB⟩ : ∃ B, B = eqB 9 a b 0 0 0 0 9 a b c d e f := ⟨_, rfl⟩
  obtain ⟨R, hR⟩ : ∃ R, R = (if eqB 9 a b 0 0 0 0 9 a b c d e f = false then (2 : Int) else if spE a b ≠ 0 then 13 else 0) := ⟨_, rfl⟩
  rw [← hR]
  rw [← hB, ← hz] at hR
  have HR := Lib.hid hR
  have hB' := hB.symm
  rw [← hz] at HC
  clear hR hB hz
  go_enter Tryz.func54, Tryz.ntmps54
  go_upto_region 16 with (fail)
  go_region
  go_wp2_with (go_at_call 92; refine (HC.out _).mono ?_; rintro e w' ⟨rfl, dW, rfl⟩)
  all_goals (go_ret; refine ⟨?_, (by repeat (first | exact Xt.Nw.refl _ | refine Xt.Nw.drew ?_ | refine Xt.Nw.drewN ?_ _ | refine Xt.Nw.alloc ?_ _ | refine Xt.Nw.joined ?_ | refine Xt.Nw.drewd ?_ | refine Xt.Nw.drewdN ?_ | refine Xt.Nw.ext ?_ | refine Xt.Nw.ext_some ?_ (by assumption) | refine Xt.Nw.setCell ?_ (by simp [go_sem] <;> omega) _))⟩; have := HR.out; simp_all)
set_option maxRecDepth 20000 in
set_option maxHeartbeats 4000000 in
theorem ccheck_10 (a b c d e f : Int) (w : World) : Calls Tryz.prog 54 #[op7 10 a b c d e f] w fun r w' => r = .returned (.int .i64 (if eqB 10 0 0 0 0 0 0 10 a b c d e f = false then (2 : Int) else 0)) ∧ Nw w w' := by
  obtain ⟨B, hB⟩ : ∃ B, B = eqB 10 0 0 0 0 0 0 10 a b c d e f := ⟨_, rfl⟩
  obtain ⟨R, hR⟩ : ∃ R, R = (if eqB 10 0 0 0 0 0 0 10 a b c d e f = false then (2 : Int) else 0) := ⟨_, rfl⟩
  rw [← hR]
  rw [← hB] at hR
  have HR := Lib.hid hR
  have hB' := hB.symm
  clear hR hB
  go_enter Tryz.func54, Tryz.ntmps54
  go_wp2
  all_goals (go_ret; refine ⟨?_, (by repeat (first | exact Xt.Nw.refl _ | refine Xt.Nw.drew ?_ | refine Xt.Nw.drewN ?_ _ | refine Xt.Nw.alloc ?_ _ | refine Xt.Nw.joined ?_ | refine Xt.Nw.drewd ?_ | refine Xt.Nw.drewdN ?_ | refine Xt.Nw.ext ?_ | refine Xt.Nw.ext_some ?_ (by assumption) | refine Xt.Nw.setCell ?_ (by simp [go_sem] <;> omega) _))⟩; have := HR.out; simp_all)
set_option maxRecDepth 20000 in
set_option maxHeartbeats 4000000 in
theorem ccheck_11 (a b c d e f : Int) (w : World) : Calls Tryz.prog 54 #[op7 11 a b c d e f] w fun r w' => r = .returned (.int .i64 (if eqB 11 a b 0 0 0 0 11 a b c d e f = false then (2 : Int) else if spE a b ≠ 0 then 13 else 0)) ∧ Nw w w' := by
  have HC := Lib.hid (fun W => spcheck_any a b W)
  unfold spV at HC
  obtain ⟨z, hz⟩ : ∃ z, z = spE a b := ⟨_, rfl⟩
  obtain ⟨B, hB⟩ : ∃ B, B = eqB 11 a b 0 0 0 0 11 a b c d e f := ⟨_, rfl⟩
  obtain ⟨R, hR⟩ : ∃ R, R = (if eqB 11 a b 0 0 0 0 11 a b c d e f = false then (2 : Int) else if spE a b ≠ 0 then 13 else 0) := ⟨_, rfl⟩
  rw [← hR]
  rw [← hB, ← hz] at hR
  have HR := Lib.hid hR
  have hB' := hB.symm
  rw [← hz] at HC
  clear hR hB hz
  go_enter Tryz.func54, Tryz.ntmps54
  go_upto_region 16 with (fail)
  go_region
  go_wp2_with (go_at_call 92; refine (HC.out _).mono ?_; rintro e w' ⟨rfl, dW, rfl⟩)
  all_goals (go_ret; refine ⟨?_, (by repeat (first | exact Xt.Nw.refl _ | refine Xt.Nw.drew ?_ | refine Xt.Nw.drewN ?_ _ | refine Xt.Nw.alloc ?_ _ | refine Xt.Nw.joined ?_ | refine Xt.Nw.drewd ?_ | refine Xt.Nw.drewdN ?_ | refine Xt.Nw.ext ?_ | refine Xt.Nw.ext_some ?_ (by assumption) | refine Xt.Nw.setCell ?_ (by simp [go_sem] <;> omega) _))⟩; have := HR.out; simp_all)
set_option maxRecDepth 20000 in
set_option maxHeartbeats 4000000 in
theorem ccheck_12 (a b c d e f : Int) (w : World) : Calls Tryz.prog 54 #[op7 12 a b c d e f] w fun r w' => r = .returned (.int .i64 (if eqB 12 0 0 0 0 0 0 12 a b c d e f = false then (2 : Int) else 0)) ∧ Nw w w' := by
  obtain ⟨B, hB⟩ : ∃ B, B = eqB 12 0 0 0 0 0 0 12 a b c d e f := ⟨_, rfl⟩
  obtain ⟨R, hR⟩ : ∃ R, R = (if eqB 12 0 0 0 0 0 0 12 a b c d e f = false then (2 : Int) else 0) := ⟨_, rfl⟩
  rw [← hR]
  rw [← hB] at hR
  have HR := Lib.hid hR
  have hB' := hB.symm
  clear hR hB
  go_enter Tryz.func54, Tryz.ntmps54
  go_wp2
  all_goals (go_ret; refine ⟨?_, (by repeat (first | exact Xt.Nw.refl _ | refine Xt.Nw.drew ?_ | refine Xt.Nw.drewN ?_ _ | refine Xt.Nw.alloc ?_ _ | refine Xt.Nw.joined ?_ | refine Xt.Nw.drewd ?_ | refine Xt.Nw.drewdN ?_ | refine Xt.Nw.ext ?_ | refine Xt.Nw.ext_some ?_ (by assumption) | refine Xt.Nw.setCell ?_ (by simp [go_sem] <;> omega) _))⟩; have := HR.out; simp_all)
set_option maxRecDepth 20000 in
set_option maxHeartbeats 4000000 in
theorem ccheck_13 (a b c d e f : Int) (w : World) : Calls Tryz.prog 54 #[op7 13 a b c d e f] w fun r w' => r = .returned (.int .i64 (if eqB 13 a 0 0 0 0 0 13 a b c d e f = false then (2 : Int) else 0)) ∧ Nw w w' := by
  obtain ⟨B, hB⟩ : ∃ B, B = eqB 13 a 0 0 0 0 0 13 a b c d e f := ⟨_, rfl⟩
  obtain ⟨R, hR⟩ : ∃ R, R = (if eqB 13 a 0 0 0 0 0 13 a b c d e f = false then (2 : Int) else 0) := ⟨_, rfl⟩
  rw [← hR]
  rw [← hB] at hR
  have HR := Lib.hid hR
  have hB' := hB.symm
  clear hR hB
  go_enter Tryz.func54, Tryz.ntmps54
  go_wp2
  all_goals (go_ret; refine ⟨?_, (by repeat (first | exact Xt.Nw.refl _ | refine Xt.Nw.drew ?_ | refine Xt.Nw.drewN ?_ _ | refine Xt.Nw.alloc ?_ _ | refine Xt.Nw.joined ?_ | refine Xt.Nw.drewd ?_ | refine Xt.Nw.drewdN ?_ | refine Xt.Nw.ext ?_ | refine Xt.Nw.ext_some ?_ (by assumption) | refine Xt.Nw.setCell ?_ (by simp [go_sem] <;> omega) _))⟩; have := HR.out; simp_all)
set_option maxRecDepth 20000 in
set_option maxHeartbeats 4000000 in
theorem ccheck_14 (a b c d e f : Int) (w : World) : Calls Tryz.prog 54 #[op7 14 a b c d e f] w fun r w' => r = .returned (.int .i64 (if eqB 14 0 0 0 0 0 0 14 a b c d e f = false then (2 : Int) else 0)) ∧ Nw w w' := by
  obtain ⟨B, hB⟩ : ∃ B, B = eqB 14 0 0 0 0 0 0 14 a b c d e f := ⟨_, rfl⟩
  obtain ⟨R, hR⟩ : ∃ R, R = (if eqB 14 0 0 0 0 0 0 14 a b c d e f = false then (2 : Int) else 0) := ⟨_, rfl⟩
  rw [← hR]
  rw [← hB] at hR
  have HR := Lib.hid hR
  have hB' := hB.symm
  clear hR hB
  go_enter Tryz.func54, Tryz.ntmps54
  go_wp2
  all_goals (go_ret; refine ⟨?_, (by repeat (first | exact Xt.Nw.refl _ | refine Xt.Nw.drew ?_ | refine Xt.Nw.drewN ?_ _ | refine Xt.Nw.alloc ?_ _ | refine Xt.Nw.joined ?_ | refine Xt.Nw.drewd ?_ | refine Xt.Nw.drewdN ?_ | refine Xt.Nw.ext ?_ | refine Xt.Nw.ext_some ?_ (by assumption) | refine Xt.Nw.setCell ?_ (by simp [go_sem] <;> omega) _))⟩; have := HR.out; simp_all)
set_option maxRecDepth 20000 in
set_option maxHeartbeats 4000000 in
theorem ccheck_15 (a b c d e f : Int) (w : World) : Calls Tryz.prog 54 #[op7 15 a b c d e f] w fun r w' => r = .returned (.int .i64 (if eqB 15 0 0 0 0 0 0 15 a b c d e f = false then (2 : Int) else 0)) ∧ Nw w w' := by
  obtain ⟨B, hB⟩ : ∃ B, B = eqB 15 0 0 0 0 0 0 15 a b c d e f := ⟨_, rfl⟩
  obtain ⟨R, hR⟩ : ∃ R, R = (if eqB 15 0 0 0 0 0 0 15 a b c d e f = false then (2 : Int) else 0) := ⟨_, rfl⟩
  rw [← hR]
  rw [← hB] at hR
  have HR := Lib.hid hR
  have hB' := hB.symm
  clear hR hB
  go_enter Tryz.func54, Tryz.ntmps54
  go_wp2
  all_goals (go_ret; refine ⟨?_, (by repeat (first | exact Xt.Nw.refl _ | refine Xt.Nw.drew ?_ | refine Xt.Nw.drewN ?_ _ | refine Xt.Nw.alloc ?_ _ | refine Xt.Nw.joined ?_ | refine Xt.Nw.drewd ?_ | refine Xt.Nw.drewdN ?_ | refine Xt.Nw.ext ?_ | refine Xt.Nw.ext_some ?_ (by assumption) | refine Xt.Nw.setCell ?_ (by simp [go_sem] <;> omega) _))⟩; have := HR.out; simp_all)
set_option maxRecDepth 20000 in
set_option maxHeartbeats 4000000 in
theorem ccheck_out (k a b c d e f : Int) (h : k < 1 ∨ 15 < k) (w : World) : Calls Tryz.prog 54 #[op7 k a b c d e f] w fun e w' => e = .returned (.int .i64 2) ∧ Nw w w' := by
  have e3 : (k == 3) = false := by simp; omega
  have n3 : ¬ k = 3 := by omega
  have e4 : (k == 4) = false := by simp; omega
  have n4 : ¬ k = 4 := by omega
  have e5 : (k == 5) = false := by simp; omega
  have n5 : ¬ k = 5 := by omega
  have e6 : (k == 6) = false := by simp; omega
  have n6 : ¬ k = 6 := by omega
  have e7 : (k == 7) = false := by simp; omega
  have n7 : ¬ k = 7 := by omega
  have e8 : (k == 8) = false := by simp; omega
  have n8 : ¬ k = 8 := by omega
  have e9 : (k == 9) = false := by simp; omega
  have n9 : ¬ k = 9 := by omega
  have e11 : (k == 11) = false := by simp; omega
  have n11 : ¬ k = 11 := by omega
  have e13 : (k == 13) = false := by simp; omega
  have n13 : ¬ k = 13 := by omega
  rcases h with h | h
  · have d0 : decide (k < 1) = true := by simp; omega
    go_enter Tryz.func54, Tryz.ntmps54
    go_wp2
    go_ret
    exact ⟨rfl, (by repeat (first | exact Xt.Nw.refl _ | refine Xt.Nw.drew ?_ | refine Xt.Nw.drewN ?_ _ | refine Xt.Nw.alloc ?_ _ | refine Xt.Nw.joined ?_ | refine Xt.Nw.drewd ?_ | refine Xt.Nw.drewdN ?_ | refine Xt.Nw.ext ?_ | refine Xt.Nw.ext_some ?_ (by assumption) | refine Xt.Nw.setCell ?_ (by simp [go_sem] <;> omega) _))⟩
  · have d0 : decide (k < 1) = false := by simp; omega
    have d1 : decide (15 < k) = true := by simp; omega
    go_enter Tryz.func54, Tryz.ntmps54
    go_wp2
    go_ret
    exact ⟨rfl, (by repeat (first | exact Xt.Nw.refl _ | refine Xt.Nw.drew ?_ | refine Xt.Nw.drewN ?_ _ | refine Xt.Nw.alloc ?_ _ | refine Xt.Nw.joined ?_ | refine Xt.Nw.drewd ?_ | refine Xt.Nw.drewdN ?_ | refine Xt.Nw.ext ?_ | refine Xt.Nw.ext_some ?_ (by assumption) | refine Xt.Nw.setCell ?_ (by simp [go_sem] <;> omega) _))⟩
end Go.Proofs.YtfnapkfdocabcaaGreat
namespace Go.Proofs.YtfnapkfdocabcaaGreat
open Go.RowKit Go.Xt
/-- client.Check of any operation. -/
theorem check_any (o : Ox) (hw : o.Wf) (w : World) : Calls Tryz.prog 54 #[opV o] w fun e w' => e = .returned (.int .i64 (chkO o)) ∧ Nw w w' := by
  obtain ⟨k, a, b, c, d, e, f⟩ := o
  have he := hw.by_
  simp only at he
  unfold opV
  simp only
  by_cases hk : 1 ≤ k ∧ k ≤ 15
  · rcases (by omega : k = 1 ∨ k = 2 ∨ k = 3 ∨ k = 4 ∨ k = 5 ∨ k = 6 ∨ k = 7 ∨ k = 8 ∨ k = 9 ∨ k = 10 ∨ k = 11 ∨ k = 12 ∨ k = 13 ∨ k = 14 ∨ k = 15) with rfl | rfl | rfl | rfl | rfl | rfl | rfl | rfl | rfl | rfl | rfl | rfl | rfl | rfl | rfl
    · have e0 : Ox.formed ⟨1, a, b, c, d, e, f⟩ = eqB 1 0 0 0 0 0 0 1 a b c d e f := by
        have hh : ∀ x : Int, decide ((0 : Int) = x) = decide (x = 0) := fun x => decide_eq_decide.2 ⟨Eq.symm, Eq.symm⟩
        simp [Ox.formed, eqB, uK, uH, uV, uO, uB, uD, hh, Bool.and_assoc]
      have e1 : (if eqB 1 0 0 0 0 0 0 1 a b c d e f = false then (2 : Int) else 0) = chkO ⟨1, a, b, c, d, e, f⟩ := by
        rw [chkO, e0]
        simp [uH]
      rw [← e1]
      exact ccheck_1 a b c d e f w
    · have e0 : Ox.formed ⟨2, a, b, c, d, e, f⟩ = eqB 2 0 0 0 0 0 0 2 a b c d e f := by
        have hh : ∀ x : Int, decide ((0 : Int) = x) = decide (x = 0) := fun x => decide_eq_decide.2 ⟨Eq.symm, Eq.symm⟩
        simp [Ox.formed, eqB, uK, uH, uV, uO, uB, uD, hh, Bool.and_assoc]
      have e1 : (if eqB 2 0 0 0 0 0 0 2 a b c d e f = false then (2 : Int) else 0) = chkO ⟨2, a, b, c, d, e, f⟩ := by
        rw [chkO, e0]
        simp [uH]
      rw [← e1]
      exact ccheck_2 a b c d e f w
    · have e0 : Ox.formed ⟨3, a, b, c, d, e, f⟩ = eqB 3 a 0 0 0 0 0 3 a b c d e f := by
        have hh : ∀ x : Int, decide ((0 : Int) = x) = decide (x = 0) := fun x => decide_eq_decide.2 ⟨Eq.symm, Eq.symm⟩
        simp [Ox.formed, eqB, uK, uH, uV, uO, uB, uD, hh, Bool.and_assoc]
      have e1 : (if eqB 3 a 0 0 0 0 0 3 a b c d e f = false then (2 : Int) else 0) = chkO ⟨3, a, b, c, d, e, f⟩ := by
        rw [chkO, e0]
        simp [uH]
      rw [← e1]
      exact ccheck_3 a b c d e f w
    · have e0 : Ox.formed ⟨4, a, b, c, d, e, f⟩ = eqB 4 a 0 c 0 0 f 4 a b c d e f := by
        have hh : ∀ x : Int, decide ((0 : Int) = x) = decide (x = 0) := fun x => decide_eq_decide.2 ⟨Eq.symm, Eq.symm⟩
        simp [Ox.formed, eqB, uK, uH, uV, uO, uB, uD, hh, Bool.and_assoc]
      have e1 : (if eqB 4 a 0 c 0 0 f 4 a b c d e f = false then (2 : Int) else 0) = chkO ⟨4, a, b, c, d, e, f⟩ := by
        rw [chkO, e0]
        simp [uH]
      rw [← e1]
      exact ccheck_4 a b c d e f w
    · have e0 : Ox.formed ⟨5, a, b, c, d, e, f⟩ = eqB 5 a 0 c 0 0 f 5 a b c d e f := by
        have hh : ∀ x : Int, decide ((0 : Int) = x) = decide (x = 0) := fun x => decide_eq_decide.2 ⟨Eq.symm, Eq.symm⟩
        simp [Ox.formed, eqB, uK, uH, uV, uO, uB, uD, hh, Bool.and_assoc]
      have e1 : (if eqB 5 a 0 c 0 0 f 5 a b c d e f = false then (2 : Int) else 0) = chkO ⟨5, a, b, c, d, e, f⟩ := by
        rw [chkO, e0]
        simp [uH]
      rw [← e1]
      exact ccheck_5 a b c d e f w
    · have e0 : Ox.formed ⟨6, a, b, c, d, e, f⟩ = eqB 6 a 0 0 0 0 0 6 a b c d e f := by
        have hh : ∀ x : Int, decide ((0 : Int) = x) = decide (x = 0) := fun x => decide_eq_decide.2 ⟨Eq.symm, Eq.symm⟩
        simp [Ox.formed, eqB, uK, uH, uV, uO, uB, uD, hh, Bool.and_assoc]
      have e1 : (if eqB 6 a 0 0 0 0 0 6 a b c d e f = false then (2 : Int) else 0) = chkO ⟨6, a, b, c, d, e, f⟩ := by
        rw [chkO, e0]
        simp [uH]
      rw [← e1]
      exact ccheck_6 a b c d e f w
    · have e0 : Ox.formed ⟨7, a, b, c, d, e, f⟩ = eqB 7 a 0 c d 0 0 7 a b c d e f := by
        have hh : ∀ x : Int, decide ((0 : Int) = x) = decide (x = 0) := fun x => decide_eq_decide.2 ⟨Eq.symm, Eq.symm⟩
        simp [Ox.formed, eqB, uK, uH, uV, uO, uB, uD, hh, Bool.and_assoc]
      have e1 : (if eqB 7 a 0 c d 0 0 7 a b c d e f = false then (2 : Int) else 0) = chkO ⟨7, a, b, c, d, e, f⟩ := by
        rw [chkO, e0]
        simp [uH]
      rw [← e1]
      exact ccheck_7 a b c d e f w
    · have e0 : Ox.formed ⟨8, a, b, c, d, e, f⟩ = eqB 8 a b 0 0 e f 8 a b c d e f := by
        have hh : ∀ x : Int, decide ((0 : Int) = x) = decide (x = 0) := fun x => decide_eq_decide.2 ⟨Eq.symm, Eq.symm⟩
        simp [Ox.formed, eqB, uK, uH, uV, uO, uB, uD, hh, Bool.and_assoc]
      have e1 : (if eqB 8 a b 0 0 e f 8 a b c d e f = false then (2 : Int) else if spE a b ≠ 0 ∨ e = 0 then 13 else if 18446744073709551615 - e < b then 12 else 0) = chkO ⟨8, a, b, c, d, e, f⟩ := by
        rw [chkO, e0]
        congr 1
        simp only [spE, uH]
        by_cases h1 : a ≤ b
        · have h2 : ¬ b < a := by omega
          simp [h1, h2]
        · have h2 : b < a := by omega
          simp [h1, h2]
      rw [← e1]
      exact ccheck_8 a b c d e f he w
    · have e0 : Ox.formed ⟨9, a, b, c, d, e, f⟩ = eqB 9 a b 0 0 0 0 9 a b c d e f := by
        have hh : ∀ x : Int, decide ((0 : Int) = x) = decide (x = 0) := fun x => decide_eq_decide.2 ⟨Eq.symm, Eq.symm⟩
        simp [Ox.formed, eqB, uK, uH, uV, uO, uB, uD, hh, Bool.and_assoc]
      have e1 : (if eqB 9 a b 0 0 0 0 9 a b c d e f = false then (2 : Int) else if spE a b ≠ 0 then 13 else 0) = chkO ⟨9, a, b, c, d, e, f⟩ := by
        rw [chkO, e0]
        congr 1
        simp only [spE, uH]
        by_cases h1 : a ≤ b
        · have h2 : ¬ b < a := by omega
          simp [h1, h2]
        · have h2 : b < a := by omega
          simp [h1, h2]
      rw [← e1]
      exact ccheck_9 a b c d e f w
    · have e0 : Ox.formed ⟨10, a, b, c, d, e, f⟩ = eqB 10 0 0 0 0 0 0 10 a b c d e f := by
        have hh : ∀ x : Int, decide ((0 : Int) = x) = decide (x = 0) := fun x => decide_eq_decide.2 ⟨Eq.symm, Eq.symm⟩
        simp [Ox.formed, eqB, uK, uH, uV, uO, uB, uD, hh, Bool.and_assoc]
      have e1 : (if eqB 10 0 0 0 0 0 0 10 a b c d e f = false then (2 : Int) else 0) = chkO ⟨10, a, b, c, d, e, f⟩ := by
        rw [chkO, e0]
        simp [uH]
      rw [← e1]
      exact ccheck_10 a b c d e f w
    · have e0 : Ox.formed ⟨11, a, b, c, d, e, f⟩ = eqB 11 a b 0 0 0 0 11 a b c d e f := by
        have hh : ∀ x : Int, decide ((0 : Int) = x) = decide (x = 0) := fun x => decide_eq_decide.2 ⟨Eq.symm, Eq.symm⟩
        simp [Ox.formed, eqB, uK, uH, uV, uO, uB, uD, hh, Bool.and_assoc]
      have e1 : (if eqB 11 a b 0 0 0 0 11 a b c d e f = false then (2 : Int) else if spE a b ≠ 0 then 13 else 0) = chkO ⟨11, a, b, c, d, e, f⟩ := by
        rw [chkO, e0]
        congr 1
        simp only [spE, uH]
        by_cases h1 : a ≤ b
        · have h2 : ¬ b < a := by omega
          simp [h1, h2]
        · have h2 : b < a := by omega
          simp [h1, h2]
      rw [← e1]
      exact ccheck_11 a b c d e f w
    · have e0 : Ox.formed ⟨12, a, b, c, d, e, f⟩ = eqB 12 0 0 0 0 0 0 12 a b c d e f := by
        have hh : ∀ x : Int, decide ((0 : Int) = x) = decide (x = 0) := fun x => decide_eq_decide.2 ⟨Eq.symm, Eq.symm⟩
        simp [Ox.formed, eqB, uK, uH, uV, uO, uB, uD, hh, Bool.and_assoc]
      have e1 : (if eqB 12 0 0 0 0 0 0 12 a b c d e f = false then (2 : Int) else 0) = chkO ⟨12, a, b, c, d, e, f⟩ := by
        rw [chkO, e0]
        simp [uH]
      rw [← e1]
      exact ccheck_12 a b c d e f w
    · have e0 : Ox.formed ⟨13, a, b, c, d, e, f⟩ = eqB 13 a 0 0 0 0 0 13 a b c d e f := by
        have hh : ∀ x : Int, decide ((0 : Int) = x) = decide (x = 0) := fun x => decide_eq_decide.2 ⟨Eq.symm, Eq.symm⟩
        simp [Ox.formed, eqB, uK, uH, uV, uO, uB, uD, hh, Bool.and_assoc]
      have e1 : (if eqB 13 a 0 0 0 0 0 13 a b c d e f = false then (2 : Int) else 0) = chkO ⟨13, a, b, c, d, e, f⟩ := by
        rw [chkO, e0]
        simp [uH]
      rw [← e1]
      exact ccheck_13 a b c d e f w
    · have e0 : Ox.formed ⟨14, a, b, c, d, e, f⟩ = eqB 14 0 0 0 0 0 0 14 a b c d e f := by
        have hh : ∀ x : Int, decide ((0 : Int) = x) = decide (x = 0) := fun x => decide_eq_decide.2 ⟨Eq.symm, Eq.symm⟩
        simp [Ox.formed, eqB, uK, uH, uV, uO, uB, uD, hh, Bool.and_assoc]
      have e1 : (if eqB 14 0 0 0 0 0 0 14 a b c d e f = false then (2 : Int) else 0) = chkO ⟨14, a, b, c, d, e, f⟩ := by
        rw [chkO, e0]
        simp [uH]
      rw [← e1]
      exact ccheck_14 a b c d e f w
    · have e0 : Ox.formed ⟨15, a, b, c, d, e, f⟩ = eqB 15 0 0 0 0 0 0 15 a b c d e f := by
        have hh : ∀ x : Int, decide ((0 : Int) = x) = decide (x = 0) := fun x => decide_eq_decide.2 ⟨Eq.symm, Eq.symm⟩
        simp [Ox.formed, eqB, uK, uH, uV, uO, uB, uD, hh, Bool.and_assoc]
      have e1 : (if eqB 15 0 0 0 0 0 0 15 a b c d e f = false then (2 : Int) else 0) = chkO ⟨15, a, b, c, d, e, f⟩ := by
        rw [chkO, e0]
        simp [uH]
      rw [← e1]
      exact ccheck_15 a b c d e f w
  · have e1 : chkO ⟨k, a, b, c, d, e, f⟩ = 2 := by
      unfold chkO Ox.formed
      simp only
      rw [if_pos]
      by_cases h1 : 1 ≤ k
      · have h2 : decide (k ≤ 15) = false := by simp; omega
        simp [h2]
      · simp [h1]
    rw [e1]; exact ccheck_out k a b c d e f (by omega) w
end Go.Proofs.YtfnapkfdocabcaaGreat
