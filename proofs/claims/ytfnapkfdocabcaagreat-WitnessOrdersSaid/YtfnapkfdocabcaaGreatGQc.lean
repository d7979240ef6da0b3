import Derived.Test.YtfnapkfdocabcaaGreatGQb
set_option linter.unusedVariables false
set_option linter.unusedSimpArgs false
set_option linter.unnecessarySimpa false
namespace Go.Proofs.YtfnapkfdocabcaaGreat
open Go.RowKit Go.Xt
/-! refusal at any operation. -/
/-- The error of an operation of a thread, if its arguments are valid. -/
def refE (x : Th) (o : Ox) : Int :=
  if o.k = 1 then (if x.se = true then 8 else 0)
  else if x.se = false then 10
  else if (o.k = 2 ∨ o.k = 11) ∧ x.op = true then 8
  else if (o.k = 12 ∨ o.k = 13 ∨ o.k = 14) ∧ x.op = false then 8
  else if o.k = 13 ∧ (x.mo = false ∨ o.key < x.lo) then 13
  else if o.k = 12 ∧ x.mo = false then 14
  else 0
/-- The error of an operation that is refused; 0: it is not. -/
def refM (s : Md) (t : Int) (o : Ox) : Int := if t < 0 ∨ (s.th.length : Int) ≤ t then 2 else if chkO o ≠ 0 then chkO o else match s.th[t.toNat]? with
  | some x => refE x o
  | none => 2
set_option maxRecDepth 20000 in
set_option maxHeartbeats 4000000 in
theorem refu_out (w : World) (p : Pl) (s : Md) (h : MAt w p s) (t : Int) (o : Ox) (ht : t < 0 ∨ (s.th.length : Int) ≤ t) :
    Calls Tryz.prog 30 #[.pointer (some ⟨p.gm, 0, none⟩), .int .i64 t, opV o] w fun e w' => e = .returned (.int .i64 2) ∧ Nw w w' := by
  obtain ⟨ct, m2⟩ := h.m2
  haveI : In p.gm w := ⟨h.im⟩
  obtain ⟨n, hn⟩ : ∃ n, n = s.th.length := ⟨_, rfl⟩
  rw [← hn] at m2 ht
  obtain ⟨gm, hgm⟩ : ∃ g, g = p.gm := ⟨_, rfl⟩
  rw [← hgm] at m2 ⊢
  haveI : In gm w := ⟨hgm ▸ h.im⟩
  unfold opV
  clear h hn hgm
  by_cases h0 : t < 0
  · have d0 : decide (t < 0) = true := by simp; omega
    go_enter Tryz.func30, Tryz.ntmps30
    go_wp2
    go_ret
    exact ⟨rfl, (by repeat (first | exact Xt.Nw.refl _ | refine Xt.Nw.drew ?_ | refine Xt.Nw.drewN ?_ _ | refine Xt.Nw.alloc ?_ _ | refine Xt.Nw.joined ?_ | refine Xt.Nw.drewd ?_ | refine Xt.Nw.drewdN ?_ | refine Xt.Nw.ext ?_ | refine Xt.Nw.ext_some ?_ (by assumption) | refine Xt.Nw.setCell ?_ (by simp [go_sem] <;> omega) _))⟩
  · have d0 : decide (t < 0) = false := by simp; omega
    have d1 : decide ((n : Int) ≤ t) = true := by simp; omega
    go_enter Tryz.func30, Tryz.ntmps30
    go_wp2
    go_ret
    exact ⟨rfl, (by repeat (first | exact Xt.Nw.refl _ | refine Xt.Nw.drew ?_ | refine Xt.Nw.drewN ?_ _ | refine Xt.Nw.alloc ?_ _ | refine Xt.Nw.joined ?_ | refine Xt.Nw.drewd ?_ | refine Xt.Nw.drewdN ?_ | refine Xt.Nw.ext ?_ | refine Xt.Nw.ext_some ?_ (by assumption) | refine Xt.Nw.setCell ?_ (by simp [go_sem] <;> omega) _))⟩
set_option maxRecDepth 20000 in
set_option maxHeartbeats 4000000 in
theorem refu_chk (w : World) (p : Pl) (s : Md) (h : MAt w p s) (t : Nat) (x : Th) (ht : s.th[t]? = some x) (o : Ox) (hw : o.Wf) (hc : chkO o ≠ 0) :
    Calls Tryz.prog 30 #[.pointer (some ⟨p.gm, 0, none⟩), .int .i64 t, opV o] w fun e w' => e = .returned (.int .i64 (chkO o)) ∧ Nw w w' := by
  have HC := Lib.hid (fun W => check_any o hw W)
  obtain ⟨z, hz⟩ : ∃ z, z = chkO o := ⟨_, rfl⟩
  rw [← hz] at HC hc ⊢
  have z0 : (z == 0) = false := by simp; omega
  unfold opV at HC ⊢
  obtain ⟨p0, _⟩ := List.getElem?_eq_some_iff.1 ht
  obtain ⟨c0, c1, c2, c3, c4⟩ := h.th.cells ht
  obtain ⟨ct, m2⟩ := h.m2
  have im := h.im
  have it := h.it
  obtain ⟨gm, hgm⟩ : ∃ g, g = p.gm := ⟨_, rfl⟩
  obtain ⟨gt, hgt⟩ : ∃ g, g = p.gt := ⟨_, rfl⟩
  obtain ⟨n, hn⟩ : ∃ n, n = s.th.length := ⟨_, rfl⟩
  rw [← hgm, ← hgt, ← hn] at m2
  rw [← hgt] at c0 c1 c2 c3 c4 it
  rw [← hgm] at im
  rw [← hgm]
  rw [← hn] at p0
  haveI : In gm w := ⟨im⟩
  haveI : In gt w := ⟨it⟩
  have t0 : (0 : Int) ≤ (t : Int) := by omega
  have t1 : (t : Int) < (n : Int) := by omega
  have d0 : decide ((t : Int) < 0) = false := by rw [decide_eq_false_iff_not]; omega
  have d1 : decide ((n : Int) ≤ (t : Int)) = false := by rw [decide_eq_false_iff_not]; omega
  clear h ht hn hz hgm hgt im it hc
  go_enter Tryz.func30, Tryz.ntmps30
  go_wp2_with (go_at_call 54; refine (HC.out _).mono ?_; rintro e w' ⟨rfl, dW, rfl⟩)
  go_ret
  exact ⟨rfl, (by repeat (first | exact Xt.Nw.refl _ | refine Xt.Nw.drew ?_ | refine Xt.Nw.drewN ?_ _ | refine Xt.Nw.alloc ?_ _ | refine Xt.Nw.joined ?_ | refine Xt.Nw.drewd ?_ | refine Xt.Nw.drewdN ?_ | refine Xt.Nw.ext ?_ | refine Xt.Nw.ext_some ?_ (by assumption) | refine Xt.Nw.setCell ?_ (by simp [go_sem] <;> omega) _))⟩
set_option maxRecDepth 20000 in
set_option maxHeartbeats 4000000 in
theorem refu_1_0 (w : World) (p : Pl) (s : Md) (h : MAt w p s) (t : Nat) (op mo : Bool) (lo hi : Int) (ht : s.th[t]? = some ⟨op, mo, lo, hi, true⟩) (a b c d e f : Int) (HC : Hid (∀ W, Calls Tryz.prog 54 #[op7 1 a b c d e f] W fun e w' => e = .returned (.int .i64 0) ∧ Nw W w')) :
    Calls Tryz.prog 30 #[.pointer (some ⟨p.gm, 0, none⟩), .int .i64 t, op7 1 a b c d e f] w fun e w' => e = .returned (.int .i64 8) ∧ Nw w w' := by
  obtain ⟨p0, _⟩ := List.getElem?_eq_some_iff.1 ht
  obtain ⟨c0, c1, c2, c3, c4⟩ := h.th.cells ht
  obtain ⟨ct, m2⟩ := h.m2
  have im := h.im
  have it := h.it
  obtain ⟨gm, hgm⟩ : ∃ g, g = p.gm := ⟨_, rfl⟩
  obtain ⟨gt, hgt⟩ : ∃ g, g = p.gt := ⟨_, rfl⟩
  obtain ⟨n, hn⟩ : ∃ n, n = s.th.length := ⟨_, rfl⟩
  rw [← hgm, ← hgt, ← hn] at m2
  rw [← hgt] at c0 c1 c2 c3 c4 it
  rw [← hgm] at im
  rw [← hgm]
  rw [← hn] at p0
  haveI : In gm w := ⟨im⟩
  haveI : In gt w := ⟨it⟩
  have t0 : (0 : Int) ≤ (t : Int) := by omega
  have t1 : (t : Int) < (n : Int) := by omega
  have d0 : decide ((t : Int) < 0) = false := by rw [decide_eq_false_iff_not]; omega
  have d1 : decide ((n : Int) ≤ (t : Int)) = false := by rw [decide_eq_false_iff_not]; omega
  clear h ht hn hgm hgt im it
  go_enter Tryz.func30, Tryz.ntmps30
  go_wp2_with (go_at_call 54; refine (HC.out _).mono ?_; rintro e w' ⟨rfl, dW, rfl⟩)
  go_ret
  exact ⟨rfl, (by repeat (first | exact Xt.Nw.refl _ | refine Xt.Nw.drew ?_ | refine Xt.Nw.drewN ?_ _ | refine Xt.Nw.alloc ?_ _ | refine Xt.Nw.joined ?_ | refine Xt.Nw.drewd ?_ | refine Xt.Nw.drewdN ?_ | refine Xt.Nw.ext ?_ | refine Xt.Nw.ext_some ?_ (by assumption) | refine Xt.Nw.setCell ?_ (by simp [go_sem] <;> omega) _))⟩
set_option maxRecDepth 20000 in
set_option maxHeartbeats 4000000 in
theorem refu_1_1 (w : World) (p : Pl) (s : Md) (h : MAt w p s) (t : Nat) (op mo : Bool) (lo hi : Int) (ht : s.th[t]? = some ⟨op, mo, lo, hi, false⟩) (a b c d e f : Int) (HC : Hid (∀ W, Calls Tryz.prog 54 #[op7 1 a b c d e f] W fun e w' => e = .returned (.int .i64 0) ∧ Nw W w')) :
    Calls Tryz.prog 30 #[.pointer (some ⟨p.gm, 0, none⟩), .int .i64 t, op7 1 a b c d e f] w fun e w' => e = .returned (.int .i64 0) ∧ Nw w w' := by
  obtain ⟨p0, _⟩ := List.getElem?_eq_some_iff.1 ht
  obtain ⟨c0, c1, c2, c3, c4⟩ := h.th.cells ht
  obtain ⟨ct, m2⟩ := h.m2
  have im := h.im
  have it := h.it
  obtain ⟨gm, hgm⟩ : ∃ g, g = p.gm := ⟨_, rfl⟩
  obtain ⟨gt, hgt⟩ : ∃ g, g = p.gt := ⟨_, rfl⟩
  obtain ⟨n, hn⟩ : ∃ n, n = s.th.length := ⟨_, rfl⟩
  rw [← hgm, ← hgt, ← hn] at m2
  rw [← hgt] at c0 c1 c2 c3 c4 it
  rw [← hgm] at im
  rw [← hgm]
  rw [← hn] at p0
  haveI : In gm w := ⟨im⟩
  haveI : In gt w := ⟨it⟩
  have t0 : (0 : Int) ≤ (t : Int) := by omega
  have t1 : (t : Int) < (n : Int) := by omega
  have d0 : decide ((t : Int) < 0) = false := by rw [decide_eq_false_iff_not]; omega
  have d1 : decide ((n : Int) ≤ (t : Int)) = false := by rw [decide_eq_false_iff_not]; omega
  clear h ht hn hgm hgt im it
  go_enter Tryz.func30, Tryz.ntmps30
  go_wp2_with (go_at_call 54; refine (HC.out _).mono ?_; rintro e w' ⟨rfl, dW, rfl⟩)
  (refine wp_region_nw (by kernel_rfl) (by kernel_rfl) ?_; (repeat (go_big_quiet_step (fail))); refine wpQuiet_nil ?_; intro _ hreg; obtain ⟨dW, rfl⟩ : Nw _ _ := hreg)
  go_wp2
  go_ret
  exact ⟨rfl, (by repeat (first | exact Xt.Nw.refl _ | refine Xt.Nw.drew ?_ | refine Xt.Nw.drewN ?_ _ | refine Xt.Nw.alloc ?_ _ | refine Xt.Nw.joined ?_ | refine Xt.Nw.drewd ?_ | refine Xt.Nw.drewdN ?_ | refine Xt.Nw.ext ?_ | refine Xt.Nw.ext_some ?_ (by assumption) | refine Xt.Nw.setCell ?_ (by simp [go_sem] <;> omega) _))⟩
set_option maxRecDepth 20000 in
set_option maxHeartbeats 4000000 in
theorem refu_2_0 (w : World) (p : Pl) (s : Md) (h : MAt w p s) (t : Nat) (op mo : Bool) (lo hi : Int) (ht : s.th[t]? = some ⟨op, mo, lo, hi, false⟩) (a b c d e f : Int) (HC : Hid (∀ W, Calls Tryz.prog 54 #[op7 2 a b c d e f] W fun e w' => e = .returned (.int .i64 0) ∧ Nw W w')) :
    Calls Tryz.prog 30 #[.pointer (some ⟨p.gm, 0, none⟩), .int .i64 t, op7 2 a b c d e f] w fun e w' => e = .returned (.int .i64 10) ∧ Nw w w' := by
  obtain ⟨p0, _⟩ := List.getElem?_eq_some_iff.1 ht
  obtain ⟨c0, c1, c2, c3, c4⟩ := h.th.cells ht
  obtain ⟨ct, m2⟩ := h.m2
  have im := h.im
  have it := h.it
  obtain ⟨gm, hgm⟩ : ∃ g, g = p.gm := ⟨_, rfl⟩
  obtain ⟨gt, hgt⟩ : ∃ g, g = p.gt := ⟨_, rfl⟩
  obtain ⟨n, hn⟩ : ∃ n, n = s.th.length := ⟨_, rfl⟩
  rw [← hgm, ← hgt, ← hn] at m2
  rw [← hgt] at c0 c1 c2 c3 c4 it
  rw [← hgm] at im
  rw [← hgm]
  rw [← hn] at p0
  haveI : In gm w := ⟨im⟩
  haveI : In gt w := ⟨it⟩
  have t0 : (0 : Int) ≤ (t : Int) := by omega
  have t1 : (t : Int) < (n : Int) := by omega
  have d0 : decide ((t : Int) < 0) = false := by rw [decide_eq_false_iff_not]; omega
  have d1 : decide ((n : Int) ≤ (t : Int)) = false := by rw [decide_eq_false_iff_not]; omega
  clear h ht hn hgm hgt im it
  go_enter Tryz.func30, Tryz.ntmps30
  go_wp2_with (go_at_call 54; refine (HC.out _).mono ?_; rintro e w' ⟨rfl, dW, rfl⟩)
  go_ret
  exact ⟨rfl, (by repeat (first | exact Xt.Nw.refl _ | refine Xt.Nw.drew ?_ | refine Xt.Nw.drewN ?_ _ | refine Xt.Nw.alloc ?_ _ | refine Xt.Nw.joined ?_ | refine Xt.Nw.drewd ?_ | refine Xt.Nw.drewdN ?_ | refine Xt.Nw.ext ?_ | refine Xt.Nw.ext_some ?_ (by assumption) | refine Xt.Nw.setCell ?_ (by simp [go_sem] <;> omega) _))⟩
set_option maxRecDepth 20000 in
set_option maxHeartbeats 4000000 in
theorem refu_2_1 (w : World) (p : Pl) (s : Md) (h : MAt w p s) (t : Nat) (mo : Bool) (lo hi : Int) (ht : s.th[t]? = some ⟨true, mo, lo, hi, true⟩) (a b c d e f : Int) (HC : Hid (∀ W, Calls Tryz.prog 54 #[op7 2 a b c d e f] W fun e w' => e = .returned (.int .i64 0) ∧ Nw W w')) :
    Calls Tryz.prog 30 #[.pointer (some ⟨p.gm, 0, none⟩), .int .i64 t, op7 2 a b c d e f] w fun e w' => e = .returned (.int .i64 8) ∧ Nw w w' := by
  obtain ⟨p0, _⟩ := List.getElem?_eq_some_iff.1 ht
  obtain ⟨c0, c1, c2, c3, c4⟩ := h.th.cells ht
  obtain ⟨ct, m2⟩ := h.m2
  have im := h.im
  have it := h.it
  obtain ⟨gm, hgm⟩ : ∃ g, g = p.gm := ⟨_, rfl⟩
  obtain ⟨gt, hgt⟩ : ∃ g, g = p.gt := ⟨_, rfl⟩
  obtain ⟨n, hn⟩ : ∃ n, n = s.th.length := ⟨_, rfl⟩
  rw [← hgm, ← hgt, ← hn] at m2
  rw [← hgt] at c0 c1 c2 c3 c4 it
  rw [← hgm] at im
  rw [← hgm]
  rw [← hn] at p0
  haveI : In gm w := ⟨im⟩
  haveI : In gt w := ⟨it⟩
  have t0 : (0 : Int) ≤ (t : Int) := by omega
  have t1 : (t : Int) < (n : Int) := by omega
  have d0 : decide ((t : Int) < 0) = false := by rw [decide_eq_false_iff_not]; omega
  have d1 : decide ((n : Int) ≤ (t : Int)) = false := by rw [decide_eq_false_iff_not]; omega
  clear h ht hn hgm hgt im it
  go_enter Tryz.func30, Tryz.ntmps30
  go_wp2_with (go_at_call 54; refine (HC.out _).mono ?_; rintro e w' ⟨rfl, dW, rfl⟩)
  go_ret
  exact ⟨rfl, (by repeat (first | exact Xt.Nw.refl _ | refine Xt.Nw.drew ?_ | refine Xt.Nw.drewN ?_ _ | refine Xt.Nw.alloc ?_ _ | refine Xt.Nw.joined ?_ | refine Xt.Nw.drewd ?_ | refine Xt.Nw.drewdN ?_ | refine Xt.Nw.ext ?_ | refine Xt.Nw.ext_some ?_ (by assumption) | refine Xt.Nw.setCell ?_ (by simp [go_sem] <;> omega) _))⟩
set_option maxRecDepth 20000 in
set_option maxHeartbeats 4000000 in
theorem refu_2_2 (w : World) (p : Pl) (s : Md) (h : MAt w p s) (t : Nat) (mo : Bool) (lo hi : Int) (ht : s.th[t]? = some ⟨false, mo, lo, hi, true⟩) (a b c d e f : Int) (HC : Hid (∀ W, Calls Tryz.prog 54 #[op7 2 a b c d e f] W fun e w' => e = .returned (.int .i64 0) ∧ Nw W w')) :
    Calls Tryz.prog 30 #[.pointer (some ⟨p.gm, 0, none⟩), .int .i64 t, op7 2 a b c d e f] w fun e w' => e = .returned (.int .i64 0) ∧ Nw w w' := by
  obtain ⟨p0, _⟩ := List.getElem?_eq_some_iff.1 ht
  obtain ⟨c0, c1, c2, c3, c4⟩ := h.th.cells ht
  obtain ⟨ct, m2⟩ := h.m2
  have im := h.im
  have it := h.it
  obtain ⟨gm, hgm⟩ : ∃ g, g = p.gm := ⟨_, rfl⟩
  obtain ⟨gt, hgt⟩ : ∃ g, g = p.gt := ⟨_, rfl⟩
  obtain ⟨n, hn⟩ : ∃ n, n = s.th.length := ⟨_, rfl⟩
  rw [← hgm, ← hgt, ← hn] at m2
  rw [← hgt] at c0 c1 c2 c3 c4 it
  rw [← hgm] at im
  rw [← hgm]
  rw [← hn] at p0
  haveI : In gm w := ⟨im⟩
  haveI : In gt w := ⟨it⟩
  have t0 : (0 : Int) ≤ (t : Int) := by omega
  have t1 : (t : Int) < (n : Int) := by omega
  have d0 : decide ((t : Int) < 0) = false := by rw [decide_eq_false_iff_not]; omega
  have d1 : decide ((n : Int) ≤ (t : Int)) = false := by rw [decide_eq_false_iff_not]; omega
  clear h ht hn hgm hgt im it
  go_enter Tryz.func30, Tryz.ntmps30
  go_wp2_with (go_at_call 54; refine (HC.out _).mono ?_; rintro e w' ⟨rfl, dW, rfl⟩)
  (refine wp_region_nw (by kernel_rfl) (by kernel_rfl) ?_; (repeat (go_big_quiet_step (fail))); refine wpQuiet_nil ?_; intro _ hreg; obtain ⟨dW, rfl⟩ : Nw _ _ := hreg)
  go_wp2
  go_ret
  exact ⟨rfl, (by repeat (first | exact Xt.Nw.refl _ | refine Xt.Nw.drew ?_ | refine Xt.Nw.drewN ?_ _ | refine Xt.Nw.alloc ?_ _ | refine Xt.Nw.joined ?_ | refine Xt.Nw.drewd ?_ | refine Xt.Nw.drewdN ?_ | refine Xt.Nw.ext ?_ | refine Xt.Nw.ext_some ?_ (by assumption) | refine Xt.Nw.setCell ?_ (by simp [go_sem] <;> omega) _))⟩
set_option maxRecDepth 20000 in
set_option maxHeartbeats 4000000 in
theorem refu_3_0 (w : World) (p : Pl) (s : Md) (h : MAt w p s) (t : Nat) (op mo : Bool) (lo hi : Int) (ht : s.th[t]? = some ⟨op, mo, lo, hi, false⟩) (a b c d e f : Int) (HC : Hid (∀ W, Calls Tryz.prog 54 #[op7 3 a b c d e f] W fun e w' => e = .returned (.int .i64 0) ∧ Nw W w')) :
    Calls Tryz.prog 30 #[.pointer (some ⟨p.gm, 0, none⟩), .int .i64 t, op7 3 a b c d e f] w fun e w' => e = .returned (.int .i64 10) ∧ Nw w w' := by
  obtain ⟨p0, _⟩ := List.getElem?_eq_some_iff.1 ht
  obtain ⟨c0, c1, c2, c3, c4⟩ := h.th.cells ht
  obtain ⟨ct, m2⟩ := h.m2
  have im := h.im
  have it := h.it
  obtain ⟨gm, hgm⟩ : ∃ g, g = p.gm := ⟨_, rfl⟩
  obtain ⟨gt, hgt⟩ : ∃ g, g = p.gt := ⟨_, rfl⟩
  obtain ⟨n, hn⟩ : ∃ n, n = s.th.length := ⟨_, rfl⟩
  rw [← hgm, ← hgt, ← hn] at m2
  rw [← hgt] at c0 c1 c2 c3 c4 it
  rw [← hgm] at im
  rw [← hgm]
  rw [← hn] at p0
  haveI : In gm w := ⟨im⟩
  haveI : In gt w := ⟨it⟩
  have t0 : (0 : Int) ≤ (t : Int) := by omega
  have t1 : (t : Int) < (n : Int) := by omega
  have d0 : decide ((t : Int) < 0) = false := by rw [decide_eq_false_iff_not]; omega
  have d1 : decide ((n : Int) ≤ (t : Int)) = false := by rw [decide_eq_false_iff_not]; omega
  clear h ht hn hgm hgt im it
  go_enter Tryz.func30, Tryz.ntmps30
  go_wp2_with (go_at_call 54; refine (HC.out _).mono ?_; rintro e w' ⟨rfl, dW, rfl⟩)
  go_ret
  exact ⟨rfl, (by repeat (first | exact Xt.Nw.refl _ | refine Xt.Nw.drew ?_ | refine Xt.Nw.drewN ?_ _ | refine Xt.Nw.alloc ?_ _ | refine Xt.Nw.joined ?_ | refine Xt.Nw.drewd ?_ | refine Xt.Nw.drewdN ?_ | refine Xt.Nw.ext ?_ | refine Xt.Nw.ext_some ?_ (by assumption) | refine Xt.Nw.setCell ?_ (by simp [go_sem] <;> omega) _))⟩
set_option maxRecDepth 20000 in
set_option maxHeartbeats 4000000 in
theorem refu_3_1 (w : World) (p : Pl) (s : Md) (h : MAt w p s) (t : Nat) (op mo : Bool) (lo hi : Int) (ht : s.th[t]? = some ⟨op, mo, lo, hi, true⟩) (a b c d e f : Int) (HC : Hid (∀ W, Calls Tryz.prog 54 #[op7 3 a b c d e f] W fun e w' => e = .returned (.int .i64 0) ∧ Nw W w')) :
    Calls Tryz.prog 30 #[.pointer (some ⟨p.gm, 0, none⟩), .int .i64 t, op7 3 a b c d e f] w fun e w' => e = .returned (.int .i64 0) ∧ Nw w w' := by
  obtain ⟨p0, _⟩ := List.getElem?_eq_some_iff.1 ht
  obtain ⟨c0, c1, c2, c3, c4⟩ := h.th.cells ht
  obtain ⟨ct, m2⟩ := h.m2
  have im := h.im
  have it := h.it
  obtain ⟨gm, hgm⟩ : ∃ g, g = p.gm := ⟨_, rfl⟩
  obtain ⟨gt, hgt⟩ : ∃ g, g = p.gt := ⟨_, rfl⟩
  obtain ⟨n, hn⟩ : ∃ n, n = s.th.length := ⟨_, rfl⟩
  rw [← hgm, ← hgt, ← hn] at m2
  rw [← hgt] at c0 c1 c2 c3 c4 it
  rw [← hgm] at im
  rw [← hgm]
  rw [← hn] at p0
  haveI : In gm w := ⟨im⟩
  haveI : In gt w := ⟨it⟩
  have t0 : (0 : Int) ≤ (t : Int) := by omega
  have t1 : (t : Int) < (n : Int) := by omega
  have d0 : decide ((t : Int) < 0) = false := by rw [decide_eq_false_iff_not]; omega
  have d1 : decide ((n : Int) ≤ (t : Int)) = false := by rw [decide_eq_false_iff_not]; omega
  clear h ht hn hgm hgt im it
  go_enter Tryz.func30, Tryz.ntmps30
  go_wp2_with (go_at_call 54; refine (HC.out _).mono ?_; rintro e w' ⟨rfl, dW, rfl⟩)
  (refine wp_region_nw (by kernel_rfl) (by kernel_rfl) ?_; (repeat (go_big_quiet_step (fail))); refine wpQuiet_nil ?_; intro _ hreg; obtain ⟨dW, rfl⟩ : Nw _ _ := hreg)
  go_wp2
  go_ret
  exact ⟨rfl, (by repeat (first | exact Xt.Nw.refl _ | refine Xt.Nw.drew ?_ | refine Xt.Nw.drewN ?_ _ | refine Xt.Nw.alloc ?_ _ | refine Xt.Nw.joined ?_ | refine Xt.Nw.drewd ?_ | refine Xt.Nw.drewdN ?_ | refine Xt.Nw.ext ?_ | refine Xt.Nw.ext_some ?_ (by assumption) | refine Xt.Nw.setCell ?_ (by simp [go_sem] <;> omega) _))⟩
set_option maxRecDepth 20000 in
set_option maxHeartbeats 4000000 in
theorem refu_4_0 (w : World) (p : Pl) (s : Md) (h : MAt w p s) (t : Nat) (op mo : Bool) (lo hi : Int) (ht : s.th[t]? = some ⟨op, mo, lo, hi, false⟩) (a b c d e f : Int) (HC : Hid (∀ W, Calls Tryz.prog 54 #[op7 4 a b c d e f] W fun e w' => e = .returned (.int .i64 0) ∧ Nw W w')) :
    Calls Tryz.prog 30 #[.pointer (some ⟨p.gm, 0, none⟩), .int .i64 t, op7 4 a b c d e f] w fun e w' => e = .returned (.int .i64 10) ∧ Nw w w' := by
  obtain ⟨p0, _⟩ := List.getElem?_eq_some_iff.1 ht
  obtain ⟨c0, c1, c2, c3, c4⟩ := h.th.cells ht
  obtain ⟨ct, m2⟩ := h.m2
  have im := h.im
  have it := h.it
  obtain ⟨gm, hgm⟩ : ∃ g, g = p.gm := ⟨_, rfl⟩
  obtain ⟨gt, hgt⟩ : ∃ g, g = p.gt := ⟨_, rfl⟩
  obtain ⟨n, hn⟩ : ∃ n, n = s.th.length := ⟨_, rfl⟩
  rw [← hgm, ← hgt, ← hn] at m2
  rw [← hgt] at c0 c1 c2 c3 c4 it
  rw [← hgm] at im
  rw [← hgm]
  rw [← hn] at p0
  haveI : In gm w := ⟨im⟩
  haveI : In gt w := ⟨it⟩
  have t0 : (0 : Int) ≤ (t : Int) := by omega
  have t1 : (t : Int) < (n : Int) := by omega
  have d0 : decide ((t : Int) < 0) = false := by rw [decide_eq_false_iff_not]; omega
  have d1 : decide ((n : Int) ≤ (t : Int)) = false := by rw [decide_eq_false_iff_not]; omega
  clear h ht hn hgm hgt im it
  go_enter Tryz.func30, Tryz.ntmps30
  go_wp2_with (go_at_call 54; refine (HC.out _).mono ?_; rintro e w' ⟨rfl, dW, rfl⟩)
  go_ret
  exact ⟨rfl, (by repeat (first | exact Xt.Nw.refl _ | refine Xt.Nw.drew ?_ | refine Xt.Nw.drewN ?_ _ | refine Xt.Nw.alloc ?_ _ | refine Xt.Nw.joined ?_ | refine Xt.Nw.drewd ?_ | refine Xt.Nw.drewdN ?_ | refine Xt.Nw.ext ?_ | refine Xt.Nw.ext_some ?_ (by assumption) | refine Xt.Nw.setCell ?_ (by simp [go_sem] <;> omega) _))⟩
set_option maxRecDepth 20000 in
set_option maxHeartbeats 4000000 in
theorem refu_4_1 (w : World) (p : Pl) (s : Md) (h : MAt w p s) (t : Nat) (op mo : Bool) (lo hi : Int) (ht : s.th[t]? = some ⟨op, mo, lo, hi, true⟩) (a b c d e f : Int) (HC : Hid (∀ W, Calls Tryz.prog 54 #[op7 4 a b c d e f] W fun e w' => e = .returned (.int .i64 0) ∧ Nw W w')) :
    Calls Tryz.prog 30 #[.pointer (some ⟨p.gm, 0, none⟩), .int .i64 t, op7 4 a b c d e f] w fun e w' => e = .returned (.int .i64 0) ∧ Nw w w' := by
  obtain ⟨p0, _⟩ := List.getElem?_eq_some_iff.1 ht
  obtain ⟨c0, c1, c2, c3, c4⟩ := h.th.cells ht
  obtain ⟨ct, m2⟩ := h.m2
  have im := h.im
  have it := h.it
  obtain ⟨gm, hgm⟩ : ∃ g, g = p.gm := ⟨_, rfl⟩
  obtain ⟨gt, hgt⟩ : ∃ g, g = p.gt := ⟨_, rfl⟩
  obtain ⟨n, hn⟩ : ∃ n, n = s.th.length := ⟨_, rfl⟩
  rw [← hgm, ← hgt, ← hn] at m2
  rw [← hgt] at c0 c1 c2 c3 c4 it
  rw [← hgm] at im
  rw [← hgm]
  rw [← hn] at p0
  haveI : In gm w := ⟨im⟩
  haveI : In gt w := ⟨it⟩
  have t0 : (0 : Int) ≤ (t : Int) := by omega
  have t1 : (t : Int) < (n : Int) := by omega
  have d0 : decide ((t : Int) < 0) = false := by rw [decide_eq_false_iff_not]; omega
  have d1 : decide ((n : Int) ≤ (t : Int)) = false := by rw [decide_eq_false_iff_not]; omega
  clear h ht hn hgm hgt im it
  go_enter Tryz.func30, Tryz.ntmps30
  go_wp2_with (go_at_call 54; refine (HC.out _).mono ?_; rintro e w' ⟨rfl, dW, rfl⟩)
  (refine wp_region_nw (by kernel_rfl) (by kernel_rfl) ?_; (repeat (go_big_quiet_step (fail))); refine wpQuiet_nil ?_; intro _ hreg; obtain ⟨dW, rfl⟩ : Nw _ _ := hreg)
  go_wp2
  go_ret
  exact ⟨rfl, (by repeat (first | exact Xt.Nw.refl _ | refine Xt.Nw.drew ?_ | refine Xt.Nw.drewN ?_ _ | refine Xt.Nw.alloc ?_ _ | refine Xt.Nw.joined ?_ | refine Xt.Nw.drewd ?_ | refine Xt.Nw.drewdN ?_ | refine Xt.Nw.ext ?_ | refine Xt.Nw.ext_some ?_ (by assumption) | refine Xt.Nw.setCell ?_ (by simp [go_sem] <;> omega) _))⟩
set_option maxRecDepth 20000 in
set_option maxHeartbeats 4000000 in
theorem refu_5_0 (w : World) (p : Pl) (s : Md) (h : MAt w p s) (t : Nat) (op mo : Bool) (lo hi : Int) (ht : s.th[t]? = some ⟨op, mo, lo, hi, false⟩) (a b c d e f : Int) (HC : Hid (∀ W, Calls Tryz.prog 54 #[op7 5 a b c d e f] W fun e w' => e = .returned (.int .i64 0) ∧ Nw W w')) :
    Calls Tryz.prog 30 #[.pointer (some ⟨p.gm, 0, none⟩), .int .i64 t, op7 5 a b c d e f] w fun e w' => e = .returned (.int .i64 10) ∧ Nw w w' := by
  obtain ⟨p0, _⟩ := List.getElem?_eq_some_iff.1 ht
  obtain ⟨c0, c1, c2, c3, c4⟩ := h.th.cells ht
  obtain ⟨ct, m2⟩ := h.m2
  have im := h.im
  have it := h.it
  obtain ⟨gm, hgm⟩ : ∃ g, g = p.gm := ⟨_, rfl⟩
  obtain ⟨gt, hgt⟩ : ∃ g, g = p.gt := ⟨_, rfl⟩
  obtain ⟨n, hn⟩ : ∃ n, n = s.th.length := ⟨_, rfl⟩
  rw [← hgm, ← hgt, ← hn] at m2
  rw [← hgt] at c0 c1 c2 c3 c4 it
  rw [← hgm] at im
  rw [← hgm]
  rw [← hn] at p0
  haveI : In gm w := ⟨im⟩
  haveI : In gt w := ⟨it⟩
  have t0 : (0 : Int) ≤ (t : Int) := by omega
  have t1 : (t : Int) < (n : Int) := by omega
  have d0 : decide ((t : Int) < 0) = false := by rw [decide_eq_false_iff_not]; omega
  have d1 : decide ((n : Int) ≤ (t : Int)) = false := by rw [decide_eq_false_iff_not]; omega
  clear h ht hn hgm hgt im it
  go_enter Tryz.func30, Tryz.ntmps30
  go_wp2_with (go_at_call 54; refine (HC.out _).mono ?_; rintro e w' ⟨rfl, dW, rfl⟩)
  go_ret
  exact ⟨rfl, (by repeat (first | exact Xt.Nw.refl _ | refine Xt.Nw.drew ?_ | refine Xt.Nw.drewN ?_ _ | refine Xt.Nw.alloc ?_ _ | refine Xt.Nw.joined ?_ | refine Xt.Nw.drewd ?_ | refine Xt.Nw.drewdN ?_ | refine Xt.Nw.ext ?_ | refine Xt.Nw.ext_some ?_ (by assumption) | refine Xt.Nw.setCell ?_ (by simp [go_sem] <;> omega) _))⟩
set_option maxRecDepth 20000 in
set_option maxHeartbeats 4000000 in
theorem refu_5_1 (w : World) (p : Pl) (s : Md) (h : MAt w p s) (t : Nat) (op mo : Bool) (lo hi : Int) (ht : s.th[t]? = some ⟨op, mo, lo, hi, true⟩) (a b c d e f : Int) (HC : Hid (∀ W, Calls Tryz.prog 54 #[op7 5 a b c d e f] W fun e w' => e = .returned (.int .i64 0) ∧ Nw W w')) :
    Calls Tryz.prog 30 #[.pointer (some ⟨p.gm, 0, none⟩), .int .i64 t, op7 5 a b c d e f] w fun e w' => e = .returned (.int .i64 0) ∧ Nw w w' := by
  obtain ⟨p0, _⟩ := List.getElem?_eq_some_iff.1 ht
  obtain ⟨c0, c1, c2, c3, c4⟩ := h.th.cells ht
  obtain ⟨ct, m2⟩ := h.m2
  have im := h.im
  have it := h.it
  obtain ⟨gm, hgm⟩ : ∃ g, g = p.gm := ⟨_, rfl⟩
  obtain ⟨gt, hgt⟩ : ∃ g, g = p.gt := ⟨_, rfl⟩
  obtain ⟨n, hn⟩ : ∃ n, n = s.th.length := ⟨_, rfl⟩
  rw [← hgm, ← hgt, ← hn] at m2
  rw [← hgt] at c0 c1 c2 c3 c4 it
  rw [← hgm] at im
  rw [← hgm]
  rw [← hn] at p0
  haveI : In gm w := ⟨im⟩
  haveI : In gt w := ⟨it⟩
  have t0 : (0 : Int) ≤ (t : Int) := by omega
  have t1 : (t : Int) < (n : Int) := by omega
  have d0 : decide ((t : Int) < 0) = false := by rw [decide_eq_false_iff_not]; omega
  have d1 : decide ((n : Int) ≤ (t : Int)) = false := by rw [decide_eq_false_iff_not]; omega
  clear h ht hn hgm hgt im it
  go_enter Tryz.func30, Tryz.ntmps30
  go_wp2_with (go_at_call 54; refine (HC.out _).mono ?_; rintro e w' ⟨rfl, dW, rfl⟩)
  (refine wp_region_nw (by kernel_rfl) (by kernel_rfl) ?_; (repeat (go_big_quiet_step (fail))); refine wpQuiet_nil ?_; intro _ hreg; obtain ⟨dW, rfl⟩ : Nw _ _ := hreg)
  go_wp2
  go_ret
  exact ⟨rfl, (by repeat (first | exact Xt.Nw.refl _ | refine Xt.Nw.drew ?_ | refine Xt.Nw.drewN ?_ _ | refine Xt.Nw.alloc ?_ _ | refine Xt.Nw.joined ?_ | refine Xt.Nw.drewd ?_ | refine Xt.Nw.drewdN ?_ | refine Xt.Nw.ext ?_ | refine Xt.Nw.ext_some ?_ (by assumption) | refine Xt.Nw.setCell ?_ (by simp [go_sem] <;> omega) _))⟩
set_option maxRecDepth 20000 in
set_option maxHeartbeats 4000000 in
theorem refu_6_0 (w : World) (p : Pl) (s : Md) (h : MAt w p s) (t : Nat) (op mo : Bool) (lo hi : Int) (ht : s.th[t]? = some ⟨op, mo, lo, hi, false⟩) (a b c d e f : Int) (HC : Hid (∀ W, Calls Tryz.prog 54 #[op7 6 a b c d e f] W fun e w' => e = .returned (.int .i64 0) ∧ Nw W w')) :
    Calls Tryz.prog 30 #[.pointer (some ⟨p.gm, 0, none⟩), .int .i64 t, op7 6 a b c d e f] w fun e w' => e = .returned (.int .i64 10) ∧ Nw w w' := by
  obtain ⟨p0, _⟩ := List.getElem?_eq_some_iff.1 ht
  obtain ⟨c0, c1, c2, c3, c4⟩ := h.th.cells ht
  obtain ⟨ct, m2⟩ := h.m2
  have im := h.im
  have it := h.it
  obtain ⟨gm, hgm⟩ : ∃ g, g = p.gm := ⟨_, rfl⟩
  obtain ⟨gt, hgt⟩ : ∃ g, g = p.gt := ⟨_, rfl⟩
  obtain ⟨n, hn⟩ : ∃ n, n = s.th.length := ⟨_, rfl⟩
  rw [← hgm, ← hgt, ← hn] at m2
  rw [← hgt] at c0 c1 c2 c3 c4 it
  rw [← hgm] at im
  rw [← hgm]
  rw [← hn] at p0
  haveI : In gm w := ⟨im⟩
  haveI : In gt w := ⟨it⟩
  have t0 : (0 : Int) ≤ (t : Int) := by omega
  have t1 : (t : Int) < (n : Int) := by omega
  have d0 : decide ((t : Int) < 0) = false := by rw [decide_eq_false_iff_not]; omega
  have d1 : decide ((n : Int) ≤ (t : Int)) = false := by rw [decide_eq_false_iff_not]; omega
  clear h ht hn hgm hgt im it
  go_enter Tryz.func30, Tryz.ntmps30
  go_wp2_with (go_at_call 54; refine (HC.out _).mono ?_; rintro e w' ⟨rfl, dW, rfl⟩)
  go_ret
  exact ⟨rfl, (by repeat (first | exact Xt.Nw.refl _ | refine Xt.Nw.drew ?_ | refine Xt.Nw.drewN ?_ _ | refine Xt.Nw.alloc ?_ _ | refine Xt.Nw.joined ?_ | refine Xt.Nw.drewd ?_ | refine Xt.Nw.drewdN ?_ | refine Xt.Nw.ext ?_ | refine Xt.Nw.ext_some ?_ (by assumption) | refine Xt.Nw.setCell ?_ (by simp [go_sem] <;> omega) _))⟩
set_option maxRecDepth 20000 in
set_option maxHeartbeats 4000000 in
theorem refu_6_1 (w : World) (p : Pl) (s : Md) (h : MAt w p s) (t : Nat) (op mo : Bool) (lo hi : Int) (ht : s.th[t]? = some ⟨op, mo, lo, hi, true⟩) (a b c d e f : Int) (HC : Hid (∀ W, Calls Tryz.prog 54 #[op7 6 a b c d e f] W fun e w' => e = .returned (.int .i64 0) ∧ Nw W w')) :
    Calls Tryz.prog 30 #[.pointer (some ⟨p.gm, 0, none⟩), .int .i64 t, op7 6 a b c d e f] w fun e w' => e = .returned (.int .i64 0) ∧ Nw w w' := by
  obtain ⟨p0, _⟩ := List.getElem?_eq_some_iff.1 ht
  obtain ⟨c0, c1, c2, c3, c4⟩ := h.th.cells ht
  obtain ⟨ct, m2⟩ := h.m2
  have im := h.im
  have it := h.it
  obtain ⟨gm, hgm⟩ : ∃ g, g = p.gm := ⟨_, rfl⟩
  obtain ⟨gt, hgt⟩ : ∃ g, g = p.gt := ⟨_, rfl⟩
  obtain ⟨n, hn⟩ : ∃ n, n = s.th.length := ⟨_, rfl⟩
  rw [← hgm, ← hgt, ← hn] at m2
  rw [← hgt] at c0 c1 c2 c3 c4 it
  rw [← hgm] at im
  rw [← hgm]
  rw [← hn] at p0
  haveI : In gm w := ⟨im⟩
  haveI : In gt w := ⟨it⟩
  have t0 : (0 : Int) ≤ (t : Int) := by omega
  have t1 : (t : Int) < (n : Int) := by omega
  have d0 : decide ((t : Int) < 0) = false := by rw [decide_eq_false_iff_not]; omega
  have d1 : decide ((n : Int) ≤ (t : Int)) = false := by rw [decide_eq_false_iff_not]; omega
  clear h ht hn hgm hgt im it
  go_enter Tryz.func30, Tryz.ntmps30
  go_wp2_with (go_at_call 54; refine (HC.out _).mono ?_; rintro e w' ⟨rfl, dW, rfl⟩)
  (refine wp_region_nw (by kernel_rfl) (by kernel_rfl) ?_; (repeat (go_big_quiet_step (fail))); refine wpQuiet_nil ?_; intro _ hreg; obtain ⟨dW, rfl⟩ : Nw _ _ := hreg)
  go_wp2
  go_ret
  exact ⟨rfl, (by repeat (first | exact Xt.Nw.refl _ | refine Xt.Nw.drew ?_ | refine Xt.Nw.drewN ?_ _ | refine Xt.Nw.alloc ?_ _ | refine Xt.Nw.joined ?_ | refine Xt.Nw.drewd ?_ | refine Xt.Nw.drewdN ?_ | refine Xt.Nw.ext ?_ | refine Xt.Nw.ext_some ?_ (by assumption) | refine Xt.Nw.setCell ?_ (by simp [go_sem] <;> omega) _))⟩
set_option maxRecDepth 20000 in
set_option maxHeartbeats 4000000 in
theorem refu_7_0 (w : World) (p : Pl) (s : Md) (h : MAt w p s) (t : Nat) (op mo : Bool) (lo hi : Int) (ht : s.th[t]? = some ⟨op, mo, lo, hi, false⟩) (a b c d e f : Int) (HC : Hid (∀ W, Calls Tryz.prog 54 #[op7 7 a b c d e f] W fun e w' => e = .returned (.int .i64 0) ∧ Nw W w')) :
    Calls Tryz.prog 30 #[.pointer (some ⟨p.gm, 0, none⟩), .int .i64 t, op7 7 a b c d e f] w fun e w' => e = .returned (.int .i64 10) ∧ Nw w w' := by
  obtain ⟨p0, _⟩ := List.getElem?_eq_some_iff.1 ht
  obtain ⟨c0, c1, c2, c3, c4⟩ := h.th.cells ht
  obtain ⟨ct, m2⟩ := h.m2
  have im := h.im
  have it := h.it
  obtain ⟨gm, hgm⟩ : ∃ g, g = p.gm := ⟨_, rfl⟩
  obtain ⟨gt, hgt⟩ : ∃ g, g = p.gt := ⟨_, rfl⟩
  obtain ⟨n, hn⟩ : ∃ n, n = s.th.length := ⟨_, rfl⟩
  rw [← hgm, ← hgt, ← hn] at m2
  rw [← hgt] at c0 c1 c2 c3 c4 it
  rw [← hgm] at im
  rw [← hgm]
  rw [← hn] at p0
  haveI : In gm w := ⟨im⟩
  haveI : In gt w := ⟨it⟩
  have t0 : (0 : Int) ≤ (t : Int) := by omega
  have t1 : (t : Int) < (n : Int) := by omega
  have d0 : decide ((t : Int) < 0) = false := by rw [decide_eq_false_iff_not]; omega
  have d1 : decide ((n : Int) ≤ (t : Int)) = false := by rw [decide_eq_false_iff_not]; omega
  clear h ht hn hgm hgt im it
  go_enter Tryz.func30, Tryz.ntmps30
  go_wp2_with (go_at_call 54; refine (HC.out _).mono ?_; rintro e w' ⟨rfl, dW, rfl⟩)
  go_ret
  exact ⟨rfl, (by repeat (first | exact Xt.Nw.refl _ | refine Xt.Nw.drew ?_ | refine Xt.Nw.drewN ?_ _ | refine Xt.Nw.alloc ?_ _ | refine Xt.Nw.joined ?_ | refine Xt.Nw.drewd ?_ | refine Xt.Nw.drewdN ?_ | refine Xt.Nw.ext ?_ | refine Xt.Nw.ext_some ?_ (by assumption) | refine Xt.Nw.setCell ?_ (by simp [go_sem] <;> omega) _))⟩
set_option maxRecDepth 20000 in
set_option maxHeartbeats 4000000 in
theorem refu_7_1 (w : World) (p : Pl) (s : Md) (h : MAt w p s) (t : Nat) (op mo : Bool) (lo hi : Int) (ht : s.th[t]? = some ⟨op, mo, lo, hi, true⟩) (a b c d e f : Int) (HC : Hid (∀ W, Calls Tryz.prog 54 #[op7 7 a b c d e f] W fun e w' => e = .returned (.int .i64 0) ∧ Nw W w')) :
    Calls Tryz.prog 30 #[.pointer (some ⟨p.gm, 0, none⟩), .int .i64 t, op7 7 a b c d e f] w fun e w' => e = .returned (.int .i64 0) ∧ Nw w w' := by
  obtain ⟨p0, _⟩ := List.getElem?_eq_some_iff.1 ht
  obtain ⟨c0, c1, c2, c3, c4⟩ := h.th.cells ht
  obtain ⟨ct, m2⟩ := h.m2
  have im := h.im
  have it := h.it
  obtain ⟨gm, hgm⟩ : ∃ g, g = p.gm := ⟨_, rfl⟩
  obtain ⟨gt, hgt⟩ : ∃ g, g = p.gt := ⟨_, rfl⟩
  obtain ⟨n, hn⟩ : ∃ n, n = s.th.length := ⟨_, rfl⟩
  rw [← hgm, ← hgt, ← hn] at m2
  rw [← hgt] at c0 c1 c2 c3 c4 it
  rw [← hgm] at im
  rw [← hgm]
  rw [← hn] at p0
  haveI : In gm w := ⟨im⟩
  haveI : In gt w := ⟨it⟩
  have t0 : (0 : Int) ≤ (t : Int) := by omega
  have t1 : (t : Int) < (n : Int) := by omega
  have d0 : decide ((t : Int) < 0) = false := by rw [decide_eq_false_iff_not]; omega
  have d1 : decide ((n : Int) ≤ (t : Int)) = false := by rw [decide_eq_false_iff_not]; omega
  clear h ht hn hgm hgt im it
  go_enter Tryz.func30, Tryz.ntmps30
  go_wp2_with (go_at_call 54; refine (HC.out _).mono ?_; rintro e w' ⟨rfl, dW, rfl⟩)
  (refine wp_region_nw (by kernel_rfl) (by kernel_rfl) ?_; (repeat (go_big_quiet_step (fail))); refine wpQuiet_nil ?_; intro _ hreg; obtain ⟨dW, rfl⟩ : Nw _ _ := hreg)
  go_wp2
  go_ret
  exact ⟨rfl, (by repeat (first | exact Xt.Nw.refl _ | refine Xt.Nw.drew ?_ | refine Xt.Nw.drewN ?_ _ | refine Xt.Nw.alloc ?_ _ | refine Xt.Nw.joined ?_ | refine Xt.Nw.drewd ?_ | refine Xt.Nw.drewdN ?_ | refine Xt.Nw.ext ?_ | refine Xt.Nw.ext_some ?_ (by assumption) | refine Xt.Nw.setCell ?_ (by simp [go_sem] <;> omega) _))⟩
set_option maxRecDepth 20000 in
set_option maxHeartbeats 4000000 in
theorem refu_8_0 (w : World) (p : Pl) (s : Md) (h : MAt w p s) (t : Nat) (op mo : Bool) (lo hi : Int) (ht : s.th[t]? = some ⟨op, mo, lo, hi, false⟩) (a b c d e f : Int) (HC : Hid (∀ W, Calls Tryz.prog 54 #[op7 8 a b c d e f] W fun e w' => e = .returned (.int .i64 0) ∧ Nw W w')) :
    Calls Tryz.prog 30 #[.pointer (some ⟨p.gm, 0, none⟩), .int .i64 t, op7 8 a b c d e f] w fun e w' => e = .returned (.int .i64 10) ∧ Nw w w' := by
  obtain ⟨p0, _⟩ := List.getElem?_eq_some_iff.1 ht
  obtain ⟨c0, c1, c2, c3, c4⟩ := h.th.cells ht
  obtain ⟨ct, m2⟩ := h.m2
  have im := h.im
  have it := h.it
  obtain ⟨gm, hgm⟩ : ∃ g, g = p.gm := ⟨_, rfl⟩
  obtain ⟨gt, hgt⟩ : ∃ g, g = p.gt := ⟨_, rfl⟩
  obtain ⟨n, hn⟩ : ∃ n, n = s.th.length := ⟨_, rfl⟩
  rw [← hgm, ← hgt, ← hn] at m2
  rw [← hgt] at c0 c1 c2 c3 c4 it
  rw [← hgm] at im
  rw [← hgm]
  rw [← hn] at p0
  haveI : In gm w := ⟨im⟩
  haveI : In gt w := ⟨it⟩
  have t0 : (0 : Int) ≤ (t : Int) := by omega
  have t1 : (t : Int) < (n : Int) := by omega
  have d0 : decide ((t : Int) < 0) = false := by rw [decide_eq_false_iff_not]; omega
  have d1 : decide ((n : Int) ≤ (t : Int)) = false := by rw [decide_eq_false_iff_not]; omega
  clear h ht hn hgm hgt im it
  go_enter Tryz.func30, Tryz.ntmps30
  go_wp2_with (go_at_call 54; refine (HC.out _).mono ?_; rintro e w' ⟨rfl, dW, rfl⟩)
  go_ret
  exact ⟨rfl, (by repeat (first | exact Xt.Nw.refl _ | refine Xt.Nw.drew ?_ | refine Xt.Nw.drewN ?_ _ | refine Xt.Nw.alloc ?_ _ | refine Xt.Nw.joined ?_ | refine Xt.Nw.drewd ?_ | refine Xt.Nw.drewdN ?_ | refine Xt.Nw.ext ?_ | refine Xt.Nw.ext_some ?_ (by assumption) | refine Xt.Nw.setCell ?_ (by simp [go_sem] <;> omega) _))⟩
set_option maxRecDepth 20000 in
set_option maxHeartbeats 4000000 in
theorem refu_8_1 (w : World) (p : Pl) (s : Md) (h : MAt w p s) (t : Nat) (op mo : Bool) (lo hi : Int) (ht : s.th[t]? = some ⟨op, mo, lo, hi, true⟩) (a b c d e f : Int) (HC : Hid (∀ W, Calls Tryz.prog 54 #[op7 8 a b c d e f] W fun e w' => e = .returned (.int .i64 0) ∧ Nw W w')) :
    Calls Tryz.prog 30 #[.pointer (some ⟨p.gm, 0, none⟩), .int .i64 t, op7 8 a b c d e f] w fun e w' => e = .returned (.int .i64 0) ∧ Nw w w' := by
  obtain ⟨p0, _⟩ := List.getElem?_eq_some_iff.1 ht
  obtain ⟨c0, c1, c2, c3, c4⟩ := h.th.cells ht
  obtain ⟨ct, m2⟩ := h.m2
  have im := h.im
  have it := h.it
  obtain ⟨gm, hgm⟩ : ∃ g, g = p.gm := ⟨_, rfl⟩
  obtain ⟨gt, hgt⟩ : ∃ g, g = p.gt := ⟨_, rfl⟩
  obtain ⟨n, hn⟩ : ∃ n, n = s.th.length := ⟨_, rfl⟩
  rw [← hgm, ← hgt, ← hn] at m2
  rw [← hgt] at c0 c1 c2 c3 c4 it
  rw [← hgm] at im
  rw [← hgm]
  rw [← hn] at p0
  haveI : In gm w := ⟨im⟩
  haveI : In gt w := ⟨it⟩
  have t0 : (0 : Int) ≤ (t : Int) := by omega
  have t1 : (t : Int) < (n : Int) := by omega
  have d0 : decide ((t : Int) < 0) = false := by rw [decide_eq_false_iff_not]; omega
  have d1 : decide ((n : Int) ≤ (t : Int)) = false := by rw [decide_eq_false_iff_not]; omega
  clear h ht hn hgm hgt im it
  go_enter Tryz.func30, Tryz.ntmps30
  go_wp2_with (go_at_call 54; refine (HC.out _).mono ?_; rintro e w' ⟨rfl, dW, rfl⟩)
  (refine wp_region_nw (by kernel_rfl) (by kernel_rfl) ?_; (repeat (go_big_quiet_step (fail))); refine wpQuiet_nil ?_; intro _ hreg; obtain ⟨dW, rfl⟩ : Nw _ _ := hreg)
  go_wp2
  go_ret
  exact ⟨rfl, (by repeat (first | exact Xt.Nw.refl _ | refine Xt.Nw.drew ?_ | refine Xt.Nw.drewN ?_ _ | refine Xt.Nw.alloc ?_ _ | refine Xt.Nw.joined ?_ | refine Xt.Nw.drewd ?_ | refine Xt.Nw.drewdN ?_ | refine Xt.Nw.ext ?_ | refine Xt.Nw.ext_some ?_ (by assumption) | refine Xt.Nw.setCell ?_ (by simp [go_sem] <;> omega) _))⟩
set_option maxRecDepth 20000 in
set_option maxHeartbeats 4000000 in
theorem refu_9_0 (w : World) (p : Pl) (s : Md) (h : MAt w p s) (t : Nat) (op mo : Bool) (lo hi : Int) (ht : s.th[t]? = some ⟨op, mo, lo, hi, false⟩) (a b c d e f : Int) (HC : Hid (∀ W, Calls Tryz.prog 54 #[op7 9 a b c d e f] W fun e w' => e = .returned (.int .i64 0) ∧ Nw W w')) :
    Calls Tryz.prog 30 #[.pointer (some ⟨p.gm, 0, none⟩), .int .i64 t, op7 9 a b c d e f] w fun e w' => e = .returned (.int .i64 10) ∧ Nw w w' := by
  obtain ⟨p0, _⟩ := List.getElem?_eq_some_iff.1 ht
  obtain ⟨c0, c1, c2, c3, c4⟩ := h.th.cells ht
  obtain ⟨ct, m2⟩ := h.m2
  have im := h.im
  have it := h.it
  obtain ⟨gm, hgm⟩ : ∃ g, g = p.gm := ⟨_, rfl⟩
  obtain ⟨gt, hgt⟩ : ∃ g, g = p.gt := ⟨_, rfl⟩
  obtain ⟨n, hn⟩ : ∃ n, n = s.th.length := ⟨_, rfl⟩
  rw [← hgm, ← hgt, ← hn] at m2
  rw [← hgt] at c0 c1 c2 c3 c4 it
  rw [← hgm] at im
  rw [← hgm]
  rw [← hn] at p0
  haveI : In gm w := ⟨im⟩
  haveI : In gt w := ⟨it⟩
  have t0 : (0 : Int) ≤ (t : Int) := by omega
  have t1 : (t : Int) < (n : Int) := by omega
  have d0 : decide ((t : Int) < 0) = false := by rw [decide_eq_false_iff_not]; omega
  have d1 : decide ((n : Int) ≤ (t : Int)) = false := by rw [decide_eq_false_iff_not]; omega
  clear h ht hn hgm hgt im it
  go_enter Tryz.func30, Tryz.ntmps30
  go_wp2_with (go_at_call 54; refine (HC.out _).mono ?_; rintro e w' ⟨rfl, dW, rfl⟩)
  go_ret
  exact ⟨rfl, (by repeat (first | exact Xt.Nw.refl _ | refine Xt.Nw.drew ?_ | refine Xt.Nw.drewN ?_ _ | refine Xt.Nw.alloc ?_ _ | refine Xt.Nw.joined ?_ | refine Xt.Nw.drewd ?_ | refine Xt.Nw.drewdN ?_ | refine Xt.Nw.ext ?_ | refine Xt.Nw.ext_some ?_ (by assumption) | refine Xt.Nw.setCell ?_ (by simp [go_sem] <;> omega) _))⟩
set_option maxRecDepth 20000 in
set_option maxHeartbeats 4000000 in
theorem refu_9_1 (w : World) (p : Pl) (s : Md) (h : MAt w p s) (t : Nat) (op mo : Bool) (lo hi : Int) (ht : s.th[t]? = some ⟨op, mo, lo, hi, true⟩) (a b c d e f : Int) (HC : Hid (∀ W, Calls Tryz.prog 54 #[op7 9 a b c d e f] W fun e w' => e = .returned (.int .i64 0) ∧ Nw W w')) :
    Calls Tryz.prog 30 #[.pointer (some ⟨p.gm, 0, none⟩), .int .i64 t, op7 9 a b c d e f] w fun e w' => e = .returned (.int .i64 0) ∧ Nw w w' := by
  obtain ⟨p0, _⟩ := List.getElem?_eq_some_iff.1 ht
  obtain ⟨c0, c1, c2, c3, c4⟩ := h.th.cells ht
  obtain ⟨ct, m2⟩ := h.m2
  have im := h.im
  have it := h.it
  obtain ⟨gm, hgm⟩ : ∃ g, g = p.gm := ⟨_, rfl⟩
  obtain ⟨gt, hgt⟩ : ∃ g, g = p.gt := ⟨_, rfl⟩
  obtain ⟨n, hn⟩ : ∃ n, n = s.th.length := ⟨_, rfl⟩
  rw [← hgm, ← hgt, ← hn] at m2
  rw [← hgt] at c0 c1 c2 c3 c4 it
  rw [← hgm] at im
  rw [← hgm]
  rw [← hn] at p0
  haveI : In gm w := ⟨im⟩
  haveI : In gt w := ⟨it⟩
  have t0 : (0 : Int) ≤ (t : Int) := by omega
  have t1 : (t : Int) < (n : Int) := by omega
  have d0 : decide ((t : Int) < 0) = false := by rw [decide_eq_false_iff_not]; omega
  have d1 : decide ((n : Int) ≤ (t : Int)) = false := by rw [decide_eq_false_iff_not]; omega
  clear h ht hn hgm hgt im it
  go_enter Tryz.func30, Tryz.ntmps30
  go_wp2_with (go_at_call 54; refine (HC.out _).mono ?_; rintro e w' ⟨rfl, dW, rfl⟩)
  (refine wp_region_nw (by kernel_rfl) (by kernel_rfl) ?_; (repeat (go_big_quiet_step (fail))); refine wpQuiet_nil ?_; intro _ hreg; obtain ⟨dW, rfl⟩ : Nw _ _ := hreg)
  go_wp2
  go_ret
  exact ⟨rfl, (by repeat (first | exact Xt.Nw.refl _ | refine Xt.Nw.drew ?_ | refine Xt.Nw.drewN ?_ _ | refine Xt.Nw.alloc ?_ _ | refine Xt.Nw.joined ?_ | refine Xt.Nw.drewd ?_ | refine Xt.Nw.drewdN ?_ | refine Xt.Nw.ext ?_ | refine Xt.Nw.ext_some ?_ (by assumption) | refine Xt.Nw.setCell ?_ (by simp [go_sem] <;> omega) _))⟩
set_option maxRecDepth 20000 in
set_option maxHeartbeats 4000000 in
theorem refu_10_0 (w : World) (p : Pl) (s : Md) (h : MAt w p s) (t : Nat) (op mo : Bool) (lo hi : Int) (ht : s.th[t]? = some ⟨op, mo, lo, hi, false⟩) (a b c d e f : Int) (HC : Hid (∀ W, Calls Tryz.prog 54 #[op7 10 a b c d e f] W fun e w' => e = .returned (.int .i64 0) ∧ Nw W w')) :
    Calls Tryz.prog 30 #[.pointer (some ⟨p.gm, 0, none⟩), .int .i64 t, op7 10 a b c d e f] w fun e w' => e = .returned (.int .i64 10) ∧ Nw w w' := by
  obtain ⟨p0, _⟩ := List.getElem?_eq_some_iff.1 ht
  obtain ⟨c0, c1, c2, c3, c4⟩ := h.th.cells ht
  obtain ⟨ct, m2⟩ := h.m2
  have im := h.im
  have it := h.it
  obtain ⟨gm, hgm⟩ : ∃ g, g = p.gm := ⟨_, rfl⟩
  obtain ⟨gt, hgt⟩ : ∃ g, g = p.gt := ⟨_, rfl⟩
  obtain ⟨n, hn⟩ : ∃ n, n = s.th.length := ⟨_, rfl⟩
  rw [← hgm, ← hgt, ← hn] at m2
  rw [← hgt] at c0 c1 c2 c3 c4 it
  rw [← hgm] at im
  rw [← hgm]
  rw [← hn] at p0
  haveI : In gm w := ⟨im⟩
  haveI : In gt w := ⟨it⟩
  have t0 : (0 : Int) ≤ (t : Int) := by omega
  have t1 : (t : Int) < (n : Int) := by omega
  have d0 : decide ((t : Int) < 0) = false := by rw [decide_eq_false_iff_not]; omega
  have d1 : decide ((n : Int) ≤ (t : Int)) = false := by rw [decide_eq_false_iff_not]; omega
  clear h ht hn hgm hgt im it
  go_enter Tryz.func30, Tryz.ntmps30
  go_wp2_with (go_at_call 54; refine (HC.out _).mono ?_; rintro e w' ⟨rfl, dW, rfl⟩)
  go_ret
  exact ⟨rfl, (by repeat (first | exact Xt.Nw.refl _ | refine Xt.Nw.drew ?_ | refine Xt.Nw.drewN ?_ _ | refine Xt.Nw.alloc ?_ _ | refine Xt.Nw.joined ?_ | refine Xt.Nw.drewd ?_ | refine Xt.Nw.drewdN ?_ | refine Xt.Nw.ext ?_ | refine Xt.Nw.ext_some ?_ (by assumption) | refine Xt.Nw.setCell ?_ (by simp [go_sem] <;> omega) _))⟩
set_option maxRecDepth 20000 in
set_option maxHeartbeats 4000000 in
theorem refu_10_1 (w : World) (p : Pl) (s : Md) (h : MAt w p s) (t : Nat) (op mo : Bool) (lo hi : Int) (ht : s.th[t]? = some ⟨op, mo, lo, hi, true⟩) (a b c d e f : Int) (HC : Hid (∀ W, Calls Tryz.prog 54 #[op7 10 a b c d e f] W fun e w' => e = .returned (.int .i64 0) ∧ Nw W w')) :
    Calls Tryz.prog 30 #[.pointer (some ⟨p.gm, 0, none⟩), .int .i64 t, op7 10 a b c d e f] w fun e w' => e = .returned (.int .i64 0) ∧ Nw w w' := by
  obtain ⟨p0, _⟩ := List.getElem?_eq_some_iff.1 ht
  obtain ⟨c0, c1, c2, c3, c4⟩ := h.th.cells ht
  obtain ⟨ct, m2⟩ := h.m2
  have im := h.im
  have it := h.it
  obtain ⟨gm, hgm⟩ : ∃ g, g = p.gm := ⟨_, rfl⟩
  obtain ⟨gt, hgt⟩ : ∃ g, g = p.gt := ⟨_, rfl⟩
  obtain ⟨n, hn⟩ : ∃ n, n = s.th.length := ⟨_, rfl⟩
  rw [← hgm, ← hgt, ← hn] at m2
  rw [← hgt] at c0 c1 c2 c3 c4 it
  rw [← hgm] at im
  rw [← hgm]
  rw [← hn] at p0
  haveI : In gm w := ⟨im⟩
  haveI : In gt w := ⟨it⟩
  have t0 : (0 : Int) ≤ (t : Int) := by omega
  have t1 : (t : Int) < (n : Int) := by omega
  have d0 : decide ((t : Int) < 0) = false := by rw [decide_eq_false_iff_not]; omega
  have d1 : decide ((n : Int) ≤ (t : Int)) = false := by rw [decide_eq_false_iff_not]; omega
  clear h ht hn hgm hgt im it
  go_enter Tryz.func30, Tryz.ntmps30
  go_wp2_with (go_at_call 54; refine (HC.out _).mono ?_; rintro e w' ⟨rfl, dW, rfl⟩)
  (refine wp_region_nw (by kernel_rfl) (by kernel_rfl) ?_; (repeat (go_big_quiet_step (fail))); refine wpQuiet_nil ?_; intro _ hreg; obtain ⟨dW, rfl⟩ : Nw _ _ := hreg)
  go_wp2
  go_ret
  exact ⟨rfl, (by repeat (first | exact Xt.Nw.refl _ | refine Xt.Nw.drew ?_ | refine Xt.Nw.drewN ?_ _ | refine Xt.Nw.alloc ?_ _ | refine Xt.Nw.joined ?_ | refine Xt.Nw.drewd ?_ | refine Xt.Nw.drewdN ?_ | refine Xt.Nw.ext ?_ | refine Xt.Nw.ext_some ?_ (by assumption) | refine Xt.Nw.setCell ?_ (by simp [go_sem] <;> omega) _))⟩
set_option maxRecDepth 20000 in
set_option maxHeartbeats 4000000 in
theorem refu_11_0 (w : World) (p : Pl) (s : Md) (h : MAt w p s) (t : Nat) (op mo : Bool) (lo hi : Int) (ht : s.th[t]? = some ⟨op, mo, lo, hi, false⟩) (a b c d e f : Int) (HC : Hid (∀ W, Calls Tryz.prog 54 #[op7 11 a b c d e f] W fun e w' => e = .returned (.int .i64 0) ∧ Nw W w')) :
    Calls Tryz.prog 30 #[.pointer (some ⟨p.gm, 0, none⟩), .int .i64 t, op7 11 a b c d e f] w fun e w' => e = .returned (.int .i64 10) ∧ Nw w w' := by
  obtain ⟨p0, _⟩ := List.getElem?_eq_some_iff.1 ht
  obtain ⟨c0, c1, c2, c3, c4⟩ := h.th.cells ht
  obtain ⟨ct, m2⟩ := h.m2
  have im := h.im
  have it := h.it
  obtain ⟨gm, hgm⟩ : ∃ g, g = p.gm := ⟨_, rfl⟩
  obtain ⟨gt, hgt⟩ : ∃ g, g = p.gt := ⟨_, rfl⟩
  obtain ⟨n, hn⟩ : ∃ n, n = s.th.length := ⟨_, rfl⟩
  rw [← hgm, ← hgt, ← hn] at m2
  rw [← hgt] at c0 c1 c2 c3 c4 it
  rw [← hgm] at im
  rw [← hgm]
  rw [← hn] at p0
  haveI : In gm w := ⟨im⟩
  haveI : In gt w := ⟨it⟩
  have t0 : (0 : Int) ≤ (t : Int) := by omega
  have t1 : (t : Int) < (n : Int) := by omega
  have d0 : decide ((t : Int) < 0) = false := by rw [decide_eq_false_iff_not]; omega
  have d1 : decide ((n : Int) ≤ (t : Int)) = false := by rw [decide_eq_false_iff_not]; omega
  clear h ht hn hgm hgt im it
  go_enter Tryz.func30, Tryz.ntmps30
  go_wp2_with (go_at_call 54; refine (HC.out _).mono ?_; rintro e w' ⟨rfl, dW, rfl⟩)
  go_ret
  exact ⟨rfl, (by repeat (first | exact Xt.Nw.refl _ | refine Xt.Nw.drew ?_ | refine Xt.Nw.drewN ?_ _ | refine Xt.Nw.alloc ?_ _ | refine Xt.Nw.joined ?_ | refine Xt.Nw.drewd ?_ | refine Xt.Nw.drewdN ?_ | refine Xt.Nw.ext ?_ | refine Xt.Nw.ext_some ?_ (by assumption) | refine Xt.Nw.setCell ?_ (by simp [go_sem] <;> omega) _))⟩
set_option maxRecDepth 20000 in
set_option maxHeartbeats 4000000 in
theorem refu_11_1 (w : World) (p : Pl) (s : Md) (h : MAt w p s) (t : Nat) (mo : Bool) (lo hi : Int) (ht : s.th[t]? = some ⟨true, mo, lo, hi, true⟩) (a b c d e f : Int) (HC : Hid (∀ W, Calls Tryz.prog 54 #[op7 11 a b c d e f] W fun e w' => e = .returned (.int .i64 0) ∧ Nw W w')) :
    Calls Tryz.prog 30 #[.pointer (some ⟨p.gm, 0, none⟩), .int .i64 t, op7 11 a b c d e f] w fun e w' => e = .returned (.int .i64 8) ∧ Nw w w' := by
  obtain ⟨p0, _⟩ := List.getElem?_eq_some_iff.1 ht
  obtain ⟨c0, c1, c2, c3, c4⟩ := h.th.cells ht
  obtain ⟨ct, m2⟩ := h.m2
  have im := h.im
  have it := h.it
  obtain ⟨gm, hgm⟩ : ∃ g, g = p.gm := ⟨_, rfl⟩
  obtain ⟨gt, hgt⟩ : ∃ g, g = p.gt := ⟨_, rfl⟩
  obtain ⟨n, hn⟩ : ∃ n, n = s.th.length := ⟨_, rfl⟩
  rw [← hgm, ← hgt, ← hn] at m2
  rw [← hgt] at c0 c1 c2 c3 c4 it
  rw [← hgm] at im
  rw [← hgm]
  rw [← hn] at p0
  haveI : In gm w := ⟨im⟩
  haveI : In gt w := ⟨it⟩
  have t0 : (0 : Int) ≤ (t : Int) := by omega
  have t1 : (t : Int) < (n : Int) := by omega
  have d0 : decide ((t : Int) < 0) = false := by rw [decide_eq_false_iff_not]; omega
  have d1 : decide ((n : Int) ≤ (t : Int)) = false := by rw [decide_eq_false_iff_not]; omega
  clear h ht hn hgm hgt im it
  go_enter Tryz.func30, Tryz.ntmps30
  go_wp2_with (go_at_call 54; refine (HC.out _).mono ?_; rintro e w' ⟨rfl, dW, rfl⟩)
  go_ret
  exact ⟨rfl, (by repeat (first | exact Xt.Nw.refl _ | refine Xt.Nw.drew ?_ | refine Xt.Nw.drewN ?_ _ | refine Xt.Nw.alloc ?_ _ | refine Xt.Nw.joined ?_ | refine Xt.Nw.drewd ?_ | refine Xt.Nw.drewdN ?_ | refine Xt.Nw.ext ?_ | refine Xt.Nw.ext_some ?_ (by assumption) | refine Xt.Nw.setCell ?_ (by simp [go_sem] <;> omega) _))⟩
set_option maxRecDepth 20000 in
set_option maxHeartbeats 4000000 in
theorem refu_11_2 (w : World) (p : Pl) (s : Md) (h : MAt w p s) (t : Nat) (mo : Bool) (lo hi : Int) (ht : s.th[t]? = some ⟨false, mo, lo, hi, true⟩) (a b c d e f : Int) (HC : Hid (∀ W, Calls Tryz.prog 54 #[op7 11 a b c d e f] W fun e w' => e = .returned (.int .i64 0) ∧ Nw W w')) :
    Calls Tryz.prog 30 #[.pointer (some ⟨p.gm, 0, none⟩), .int .i64 t, op7 11 a b c d e f] w fun e w' => e = .returned (.int .i64 0) ∧ Nw w w' := by
  obtain ⟨p0, _⟩ := List.getElem?_eq_some_iff.1 ht
  obtain ⟨c0, c1, c2, c3, c4⟩ := h.th.cells ht
  obtain ⟨ct, m2⟩ := h.m2
  have im := h.im
  have it := h.it
  obtain ⟨gm, hgm⟩ : ∃ g, g = p.gm := ⟨_, rfl⟩
  obtain ⟨gt, hgt⟩ : ∃ g, g = p.gt := ⟨_, rfl⟩
  obtain ⟨n, hn⟩ : ∃ n, n = s.th.length := ⟨_, rfl⟩
  rw [← hgm, ← hgt, ← hn] at m2
  rw [← hgt] at c0 c1 c2 c3 c4 it
  rw [← hgm] at im
  rw [← hgm]
  rw [← hn] at p0
  haveI : In gm w := ⟨im⟩
  haveI : In gt w := ⟨it⟩
  have t0 : (0 : Int) ≤ (t : Int) := by omega
  have t1 : (t : Int) < (n : Int) := by omega
  have d0 : decide ((t : Int) < 0) = false := by rw [decide_eq_false_iff_not]; omega
  have d1 : decide ((n : Int) ≤ (t : Int)) = false := by rw [decide_eq_false_iff_not]; omega
  clear h ht hn hgm hgt im it
  go_enter Tryz.func30, Tryz.ntmps30
  go_wp2_with (go_at_call 54; refine (HC.out _).mono ?_; rintro e w' ⟨rfl, dW, rfl⟩)
  (refine wp_region_nw (by kernel_rfl) (by kernel_rfl) ?_; (repeat (go_big_quiet_step (fail))); refine wpQuiet_nil ?_; intro _ hreg; obtain ⟨dW, rfl⟩ : Nw _ _ := hreg)
  go_wp2
  go_ret
  exact ⟨rfl, (by repeat (first | exact Xt.Nw.refl _ | refine Xt.Nw.drew ?_ | refine Xt.Nw.drewN ?_ _ | refine Xt.Nw.alloc ?_ _ | refine Xt.Nw.joined ?_ | refine Xt.Nw.drewd ?_ | refine Xt.Nw.drewdN ?_ | refine Xt.Nw.ext ?_ | refine Xt.Nw.ext_some ?_ (by assumption) | refine Xt.Nw.setCell ?_ (by simp [go_sem] <;> omega) _))⟩
set_option maxRecDepth 20000 in
set_option maxHeartbeats 4000000 in
theorem refu_12_0 (w : World) (p : Pl) (s : Md) (h : MAt w p s) (t : Nat) (op mo : Bool) (lo hi : Int) (ht : s.th[t]? = some ⟨op, mo, lo, hi, false⟩) (a b c d e f : Int) (HC : Hid (∀ W, Calls Tryz.prog 54 #[op7 12 a b c d e f] W fun e w' => e = .returned (.int .i64 0) ∧ Nw W w')) :
    Calls Tryz.prog 30 #[.pointer (some ⟨p.gm, 0, none⟩), .int .i64 t, op7 12 a b c d e f] w fun e w' => e = .returned (.int .i64 10) ∧ Nw w w' := by
  obtain ⟨p0, _⟩ := List.getElem?_eq_some_iff.1 ht
  obtain ⟨c0, c1, c2, c3, c4⟩ := h.th.cells ht
  obtain ⟨ct, m2⟩ := h.m2
  have im := h.im
  have it := h.it
  obtain ⟨gm, hgm⟩ : ∃ g, g = p.gm := ⟨_, rfl⟩
  obtain ⟨gt, hgt⟩ : ∃ g, g = p.gt := ⟨_, rfl⟩
  obtain ⟨n, hn⟩ : ∃ n, n = s.th.length := ⟨_, rfl⟩
  rw [← hgm, ← hgt, ← hn] at m2
  rw [← hgt] at c0 c1 c2 c3 c4 it
  rw [← hgm] at im
  rw [← hgm]
  rw [← hn] at p0
  haveI : In gm w := ⟨im⟩
  haveI : In gt w := ⟨it⟩
  have t0 : (0 : Int) ≤ (t : Int) := by omega
  have t1 : (t : Int) < (n : Int) := by omega
  have d0 : decide ((t : Int) < 0) = false := by rw [decide_eq_false_iff_not]; omega
  have d1 : decide ((n : Int) ≤ (t : Int)) = false := by rw [decide_eq_false_iff_not]; omega
  clear h ht hn hgm hgt im it
  go_enter Tryz.func30, Tryz.ntmps30
  go_wp2_with (go_at_call 54; refine (HC.out _).mono ?_; rintro e w' ⟨rfl, dW, rfl⟩)
  go_ret
  exact ⟨rfl, (by repeat (first | exact Xt.Nw.refl _ | refine Xt.Nw.drew ?_ | refine Xt.Nw.drewN ?_ _ | refine Xt.Nw.alloc ?_ _ | refine Xt.Nw.joined ?_ | refine Xt.Nw.drewd ?_ | refine Xt.Nw.drewdN ?_ | refine Xt.Nw.ext ?_ | refine Xt.Nw.ext_some ?_ (by assumption) | refine Xt.Nw.setCell ?_ (by simp [go_sem] <;> omega) _))⟩
set_option maxRecDepth 20000 in
set_option maxHeartbeats 4000000 in
theorem refu_12_1 (w : World) (p : Pl) (s : Md) (h : MAt w p s) (t : Nat) (mo : Bool) (lo hi : Int) (ht : s.th[t]? = some ⟨false, mo, lo, hi, true⟩) (a b c d e f : Int) (HC : Hid (∀ W, Calls Tryz.prog 54 #[op7 12 a b c d e f] W fun e w' => e = .returned (.int .i64 0) ∧ Nw W w')) :
    Calls Tryz.prog 30 #[.pointer (some ⟨p.gm, 0, none⟩), .int .i64 t, op7 12 a b c d e f] w fun e w' => e = .returned (.int .i64 8) ∧ Nw w w' := by
  obtain ⟨p0, _⟩ := List.getElem?_eq_some_iff.1 ht
  obtain ⟨c0, c1, c2, c3, c4⟩ := h.th.cells ht
  obtain ⟨ct, m2⟩ := h.m2
  have im := h.im
  have it := h.it
  obtain ⟨gm, hgm⟩ : ∃ g, g = p.gm := ⟨_, rfl⟩
  obtain ⟨gt, hgt⟩ : ∃ g, g = p.gt := ⟨_, rfl⟩
  obtain ⟨n, hn⟩ : ∃ n, n = s.th.length := ⟨_, rfl⟩
  rw [← hgm, ← hgt, ← hn] at m2
  rw [← hgt] at c0 c1 c2 c3 c4 it
  rw [← hgm] at im
  rw [← hgm]
  rw [← hn] at p0
  haveI : In gm w := ⟨im⟩
  haveI : In gt w := ⟨it⟩
  have t0 : (0 : Int) ≤ (t : Int) := by omega
  have t1 : (t : Int) < (n : Int) := by omega
  have d0 : decide ((t : Int) < 0) = false := by rw [decide_eq_false_iff_not]; omega
  have d1 : decide ((n : Int) ≤ (t : Int)) = false := by rw [decide_eq_false_iff_not]; omega
  clear h ht hn hgm hgt im it
  go_enter Tryz.func30, Tryz.ntmps30
  go_wp2_with (go_at_call 54; refine (HC.out _).mono ?_; rintro e w' ⟨rfl, dW, rfl⟩)
  go_ret
  exact ⟨rfl, (by repeat (first | exact Xt.Nw.refl _ | refine Xt.Nw.drew ?_ | refine Xt.Nw.drewN ?_ _ | refine Xt.Nw.alloc ?_ _ | refine Xt.Nw.joined ?_ | refine Xt.Nw.drewd ?_ | refine Xt.Nw.drewdN ?_ | refine Xt.Nw.ext ?_ | refine Xt.Nw.ext_some ?_ (by assumption) | refine Xt.Nw.setCell ?_ (by simp [go_sem] <;> omega) _))⟩
set_option maxRecDepth 20000 in
set_option maxHeartbeats 4000000 in
theorem refu_12_2 (w : World) (p : Pl) (s : Md) (h : MAt w p s) (t : Nat) (lo hi : Int) (ht : s.th[t]? = some ⟨true, false, lo, hi, true⟩) (a b c d e f : Int) (HC : Hid (∀ W, Calls Tryz.prog 54 #[op7 12 a b c d e f] W fun e w' => e = .returned (.int .i64 0) ∧ Nw W w')) :
    Calls Tryz.prog 30 #[.pointer (some ⟨p.gm, 0, none⟩), .int .i64 t, op7 12 a b c d e f] w fun e w' => e = .returned (.int .i64 14) ∧ Nw w w' := by
  obtain ⟨p0, _⟩ := List.getElem?_eq_some_iff.1 ht
  obtain ⟨c0, c1, c2, c3, c4⟩ := h.th.cells ht
  obtain ⟨ct, m2⟩ := h.m2
  have im := h.im
  have it := h.it
  obtain ⟨gm, hgm⟩ : ∃ g, g = p.gm := ⟨_, rfl⟩
  obtain ⟨gt, hgt⟩ : ∃ g, g = p.gt := ⟨_, rfl⟩
  obtain ⟨n, hn⟩ : ∃ n, n = s.th.length := ⟨_, rfl⟩
  rw [← hgm, ← hgt, ← hn] at m2
  rw [← hgt] at c0 c1 c2 c3 c4 it
  rw [← hgm] at im
  rw [← hgm]
  rw [← hn] at p0
  haveI : In gm w := ⟨im⟩
  haveI : In gt w := ⟨it⟩
  have t0 : (0 : Int) ≤ (t : Int) := by omega
  have t1 : (t : Int) < (n : Int) := by omega
  have d0 : decide ((t : Int) < 0) = false := by rw [decide_eq_false_iff_not]; omega
  have d1 : decide ((n : Int) ≤ (t : Int)) = false := by rw [decide_eq_false_iff_not]; omega
  clear h ht hn hgm hgt im it
  go_enter Tryz.func30, Tryz.ntmps30
  go_wp2_with (go_at_call 54; refine (HC.out _).mono ?_; rintro e w' ⟨rfl, dW, rfl⟩)
  (refine wp_region_nw (by kernel_rfl) (by kernel_rfl) ?_; (repeat (go_big_quiet_step (fail))); refine wpQuiet_nil ?_; intro _ hreg; obtain ⟨dW, rfl⟩ : Nw _ _ := hreg)
  go_wp2
  go_ret
  exact ⟨rfl, (by repeat (first | exact Xt.Nw.refl _ | refine Xt.Nw.drew ?_ | refine Xt.Nw.drewN ?_ _ | refine Xt.Nw.alloc ?_ _ | refine Xt.Nw.joined ?_ | refine Xt.Nw.drewd ?_ | refine Xt.Nw.drewdN ?_ | refine Xt.Nw.ext ?_ | refine Xt.Nw.ext_some ?_ (by assumption) | refine Xt.Nw.setCell ?_ (by simp [go_sem] <;> omega) _))⟩
set_option maxRecDepth 20000 in
set_option maxHeartbeats 4000000 in
theorem refu_12_3 (w : World) (p : Pl) (s : Md) (h : MAt w p s) (t : Nat) (lo hi : Int) (ht : s.th[t]? = some ⟨true, true, lo, hi, true⟩) (a b c d e f : Int) (HC : Hid (∀ W, Calls Tryz.prog 54 #[op7 12 a b c d e f] W fun e w' => e = .returned (.int .i64 0) ∧ Nw W w')) :
    Calls Tryz.prog 30 #[.pointer (some ⟨p.gm, 0, none⟩), .int .i64 t, op7 12 a b c d e f] w fun e w' => e = .returned (.int .i64 0) ∧ Nw w w' := by
  obtain ⟨p0, _⟩ := List.getElem?_eq_some_iff.1 ht
  obtain ⟨c0, c1, c2, c3, c4⟩ := h.th.cells ht
  obtain ⟨ct, m2⟩ := h.m2
  have im := h.im
  have it := h.it
  obtain ⟨gm, hgm⟩ : ∃ g, g = p.gm := ⟨_, rfl⟩
  obtain ⟨gt, hgt⟩ : ∃ g, g = p.gt := ⟨_, rfl⟩
  obtain ⟨n, hn⟩ : ∃ n, n = s.th.length := ⟨_, rfl⟩
  rw [← hgm, ← hgt, ← hn] at m2
  rw [← hgt] at c0 c1 c2 c3 c4 it
  rw [← hgm] at im
  rw [← hgm]
  rw [← hn] at p0
  haveI : In gm w := ⟨im⟩
  haveI : In gt w := ⟨it⟩
  have t0 : (0 : Int) ≤ (t : Int) := by omega
  have t1 : (t : Int) < (n : Int) := by omega
  have d0 : decide ((t : Int) < 0) = false := by rw [decide_eq_false_iff_not]; omega
  have d1 : decide ((n : Int) ≤ (t : Int)) = false := by rw [decide_eq_false_iff_not]; omega
  clear h ht hn hgm hgt im it
  go_enter Tryz.func30, Tryz.ntmps30
  go_wp2_with (go_at_call 54; refine (HC.out _).mono ?_; rintro e w' ⟨rfl, dW, rfl⟩)
  (refine wp_region_nw (by kernel_rfl) (by kernel_rfl) ?_; (repeat (go_big_quiet_step (fail))); refine wpQuiet_nil ?_; intro _ hreg; obtain ⟨dW, rfl⟩ : Nw _ _ := hreg)
  go_wp2
  go_ret
  exact ⟨rfl, (by repeat (first | exact Xt.Nw.refl _ | refine Xt.Nw.drew ?_ | refine Xt.Nw.drewN ?_ _ | refine Xt.Nw.alloc ?_ _ | refine Xt.Nw.joined ?_ | refine Xt.Nw.drewd ?_ | refine Xt.Nw.drewdN ?_ | refine Xt.Nw.ext ?_ | refine Xt.Nw.ext_some ?_ (by assumption) | refine Xt.Nw.setCell ?_ (by simp [go_sem] <;> omega) _))⟩
set_option maxRecDepth 20000 in
set_option maxHeartbeats 4000000 in
theorem refu_13_0 (w : World) (p : Pl) (s : Md) (h : MAt w p s) (t : Nat) (op mo : Bool) (lo hi : Int) (ht : s.th[t]? = some ⟨op, mo, lo, hi, false⟩) (a b c d e f : Int) (HC : Hid (∀ W, Calls Tryz.prog 54 #[op7 13 a b c d e f] W fun e w' => e = .returned (.int .i64 0) ∧ Nw W w')) :
    Calls Tryz.prog 30 #[.pointer (some ⟨p.gm, 0, none⟩), .int .i64 t, op7 13 a b c d e f] w fun e w' => e = .returned (.int .i64 10) ∧ Nw w w' := by
  obtain ⟨p0, _⟩ := List.getElem?_eq_some_iff.1 ht
  obtain ⟨c0, c1, c2, c3, c4⟩ := h.th.cells ht
  obtain ⟨ct, m2⟩ := h.m2
  have im := h.im
  have it := h.it
  obtain ⟨gm, hgm⟩ : ∃ g, g = p.gm := ⟨_, rfl⟩
  obtain ⟨gt, hgt⟩ : ∃ g, g = p.gt := ⟨_, rfl⟩
  obtain ⟨n, hn⟩ : ∃ n, n = s.th.length := ⟨_, rfl⟩
  rw [← hgm, ← hgt, ← hn] at m2
  rw [← hgt] at c0 c1 c2 c3 c4 it
  rw [← hgm] at im
  rw [← hgm]
  rw [← hn] at p0
  haveI : In gm w := ⟨im⟩
  haveI : In gt w := ⟨it⟩
  have t0 : (0 : Int) ≤ (t : Int) := by omega
  have t1 : (t : Int) < (n : Int) := by omega
  have d0 : decide ((t : Int) < 0) = false := by rw [decide_eq_false_iff_not]; omega
  have d1 : decide ((n : Int) ≤ (t : Int)) = false := by rw [decide_eq_false_iff_not]; omega
  clear h ht hn hgm hgt im it
  go_enter Tryz.func30, Tryz.ntmps30
  go_wp2_with (go_at_call 54; refine (HC.out _).mono ?_; rintro e w' ⟨rfl, dW, rfl⟩)
  go_ret
  exact ⟨rfl, (by repeat (first | exact Xt.Nw.refl _ | refine Xt.Nw.drew ?_ | refine Xt.Nw.drewN ?_ _ | refine Xt.Nw.alloc ?_ _ | refine Xt.Nw.joined ?_ | refine Xt.Nw.drewd ?_ | refine Xt.Nw.drewdN ?_ | refine Xt.Nw.ext ?_ | refine Xt.Nw.ext_some ?_ (by assumption) | refine Xt.Nw.setCell ?_ (by simp [go_sem] <;> omega) _))⟩
set_option maxRecDepth 20000 in
set_option maxHeartbeats 4000000 in
theorem refu_13_1 (w : World) (p : Pl) (s : Md) (h : MAt w p s) (t : Nat) (mo : Bool) (lo hi : Int) (ht : s.th[t]? = some ⟨false, mo, lo, hi, true⟩) (a b c d e f : Int) (HC : Hid (∀ W, Calls Tryz.prog 54 #[op7 13 a b c d e f] W fun e w' => e = .returned (.int .i64 0) ∧ Nw W w')) :
    Calls Tryz.prog 30 #[.pointer (some ⟨p.gm, 0, none⟩), .int .i64 t, op7 13 a b c d e f] w fun e w' => e = .returned (.int .i64 8) ∧ Nw w w' := by
  obtain ⟨p0, _⟩ := List.getElem?_eq_some_iff.1 ht
  obtain ⟨c0, c1, c2, c3, c4⟩ := h.th.cells ht
  obtain ⟨ct, m2⟩ := h.m2
  have im := h.im
  have it := h.it
  obtain ⟨gm, hgm⟩ : ∃ g, g = p.gm := ⟨_, rfl⟩
  obtain ⟨gt, hgt⟩ : ∃ g, g = p.gt := ⟨_, rfl⟩
  obtain ⟨n, hn⟩ : ∃ n, n = s.th.length := ⟨_, rfl⟩
  rw [← hgm, ← hgt, ← hn] at m2
  rw [← hgt] at c0 c1 c2 c3 c4 it
  rw [← hgm] at im
  rw [← hgm]
  rw [← hn] at p0
  haveI : In gm w := ⟨im⟩
  haveI : In gt w := ⟨it⟩
  have t0 : (0 : Int) ≤ (t : Int) := by omega
  have t1 : (t : Int) < (n : Int) := by omega
  have d0 : decide ((t : Int) < 0) = false := by rw [decide_eq_false_iff_not]; omega
  have d1 : decide ((n : Int) ≤ (t : Int)) = false := by rw [decide_eq_false_iff_not]; omega
  clear h ht hn hgm hgt im it
  go_enter Tryz.func30, Tryz.ntmps30
  go_wp2_with (go_at_call 54; refine (HC.out _).mono ?_; rintro e w' ⟨rfl, dW, rfl⟩)
  go_ret
  exact ⟨rfl, (by repeat (first | exact Xt.Nw.refl _ | refine Xt.Nw.drew ?_ | refine Xt.Nw.drewN ?_ _ | refine Xt.Nw.alloc ?_ _ | refine Xt.Nw.joined ?_ | refine Xt.Nw.drewd ?_ | refine Xt.Nw.drewdN ?_ | refine Xt.Nw.ext ?_ | refine Xt.Nw.ext_some ?_ (by assumption) | refine Xt.Nw.setCell ?_ (by simp [go_sem] <;> omega) _))⟩
set_option maxRecDepth 20000 in
set_option maxHeartbeats 4000000 in
theorem refu_13_2 (w : World) (p : Pl) (s : Md) (h : MAt w p s) (t : Nat) (lo hi : Int) (ht : s.th[t]? = some ⟨true, false, lo, hi, true⟩) (a b c d e f : Int) (HC : Hid (∀ W, Calls Tryz.prog 54 #[op7 13 a b c d e f] W fun e w' => e = .returned (.int .i64 0) ∧ Nw W w')) :
    Calls Tryz.prog 30 #[.pointer (some ⟨p.gm, 0, none⟩), .int .i64 t, op7 13 a b c d e f] w fun e w' => e = .returned (.int .i64 13) ∧ Nw w w' := by
  obtain ⟨p0, _⟩ := List.getElem?_eq_some_iff.1 ht
  obtain ⟨c0, c1, c2, c3, c4⟩ := h.th.cells ht
  obtain ⟨ct, m2⟩ := h.m2
  have im := h.im
  have it := h.it
  obtain ⟨gm, hgm⟩ : ∃ g, g = p.gm := ⟨_, rfl⟩
  obtain ⟨gt, hgt⟩ : ∃ g, g = p.gt := ⟨_, rfl⟩
  obtain ⟨n, hn⟩ : ∃ n, n = s.th.length := ⟨_, rfl⟩
  rw [← hgm, ← hgt, ← hn] at m2
  rw [← hgt] at c0 c1 c2 c3 c4 it
  rw [← hgm] at im
  rw [← hgm]
  rw [← hn] at p0
  haveI : In gm w := ⟨im⟩
  haveI : In gt w := ⟨it⟩
  have t0 : (0 : Int) ≤ (t : Int) := by omega
  have t1 : (t : Int) < (n : Int) := by omega
  have d0 : decide ((t : Int) < 0) = false := by rw [decide_eq_false_iff_not]; omega
  have d1 : decide ((n : Int) ≤ (t : Int)) = false := by rw [decide_eq_false_iff_not]; omega
  clear h ht hn hgm hgt im it
  go_enter Tryz.func30, Tryz.ntmps30
  go_wp2_with (go_at_call 54; refine (HC.out _).mono ?_; rintro e w' ⟨rfl, dW, rfl⟩)
  (refine wp_region_nw (by kernel_rfl) (by kernel_rfl) ?_; (repeat (go_big_quiet_step (fail))); refine wpQuiet_nil ?_; intro _ hreg; obtain ⟨dW, rfl⟩ : Nw _ _ := hreg)
  go_wp2
  go_ret
  exact ⟨rfl, (by repeat (first | exact Xt.Nw.refl _ | refine Xt.Nw.drew ?_ | refine Xt.Nw.drewN ?_ _ | refine Xt.Nw.alloc ?_ _ | refine Xt.Nw.joined ?_ | refine Xt.Nw.drewd ?_ | refine Xt.Nw.drewdN ?_ | refine Xt.Nw.ext ?_ | refine Xt.Nw.ext_some ?_ (by assumption) | refine Xt.Nw.setCell ?_ (by simp [go_sem] <;> omega) _))⟩
set_option maxRecDepth 20000 in
set_option maxHeartbeats 4000000 in
theorem refu_13_3 (w : World) (p : Pl) (s : Md) (h : MAt w p s) (t : Nat) (lo hi : Int) (ht : s.th[t]? = some ⟨true, true, lo, hi, true⟩) (a b c d e f : Int) (hl : a < lo) (HC : Hid (∀ W, Calls Tryz.prog 54 #[op7 13 a b c d e f] W fun e w' => e = .returned (.int .i64 0) ∧ Nw W w')) :
    Calls Tryz.prog 30 #[.pointer (some ⟨p.gm, 0, none⟩), .int .i64 t, op7 13 a b c d e f] w fun e w' => e = .returned (.int .i64 13) ∧ Nw w w' := by
  obtain ⟨p0, _⟩ := List.getElem?_eq_some_iff.1 ht
  obtain ⟨c0, c1, c2, c3, c4⟩ := h.th.cells ht
  obtain ⟨ct, m2⟩ := h.m2
  have im := h.im
  have it := h.it
  obtain ⟨gm, hgm⟩ : ∃ g, g = p.gm := ⟨_, rfl⟩
  obtain ⟨gt, hgt⟩ : ∃ g, g = p.gt := ⟨_, rfl⟩
  obtain ⟨n, hn⟩ : ∃ n, n = s.th.length := ⟨_, rfl⟩
  rw [← hgm, ← hgt, ← hn] at m2
  rw [← hgt] at c0 c1 c2 c3 c4 it
  rw [← hgm] at im
  rw [← hgm]
  rw [← hn] at p0
  haveI : In gm w := ⟨im⟩
  haveI : In gt w := ⟨it⟩
  have t0 : (0 : Int) ≤ (t : Int) := by omega
  have t1 : (t : Int) < (n : Int) := by omega
  have d0 : decide ((t : Int) < 0) = false := by rw [decide_eq_false_iff_not]; omega
  have d1 : decide ((n : Int) ≤ (t : Int)) = false := by rw [decide_eq_false_iff_not]; omega
  have dl : decide (a < lo) = true := by simp; omega
  clear h ht hn hgm hgt im it hl
  go_enter Tryz.func30, Tryz.ntmps30
  go_wp2_with (go_at_call 54; refine (HC.out _).mono ?_; rintro e w' ⟨rfl, dW, rfl⟩)
  (refine wp_region_nw (by kernel_rfl) (by kernel_rfl) ?_; (repeat (go_big_quiet_step (fail))); refine wpQuiet_nil ?_; intro _ hreg; obtain ⟨dW, rfl⟩ : Nw _ _ := hreg)
  go_wp2
  go_ret
  exact ⟨rfl, (by repeat (first | exact Xt.Nw.refl _ | refine Xt.Nw.drew ?_ | refine Xt.Nw.drewN ?_ _ | refine Xt.Nw.alloc ?_ _ | refine Xt.Nw.joined ?_ | refine Xt.Nw.drewd ?_ | refine Xt.Nw.drewdN ?_ | refine Xt.Nw.ext ?_ | refine Xt.Nw.ext_some ?_ (by assumption) | refine Xt.Nw.setCell ?_ (by simp [go_sem] <;> omega) _))⟩
set_option maxRecDepth 20000 in
set_option maxHeartbeats 4000000 in
theorem refu_13_4 (w : World) (p : Pl) (s : Md) (h : MAt w p s) (t : Nat) (lo hi : Int) (ht : s.th[t]? = some ⟨true, true, lo, hi, true⟩) (a b c d e f : Int) (hl : ¬ a < lo) (HC : Hid (∀ W, Calls Tryz.prog 54 #[op7 13 a b c d e f] W fun e w' => e = .returned (.int .i64 0) ∧ Nw W w')) :
    Calls Tryz.prog 30 #[.pointer (some ⟨p.gm, 0, none⟩), .int .i64 t, op7 13 a b c d e f] w fun e w' => e = .returned (.int .i64 0) ∧ Nw w w' := by
  obtain ⟨p0, _⟩ := List.getElem?_eq_some_iff.1 ht
  obtain ⟨c0, c1, c2, c3, c4⟩ := h.th.cells ht
  obtain ⟨ct, m2⟩ := h.m2
  have im := h.im
  have it := h.it
  obtain ⟨gm, hgm⟩ : ∃ g, g = p.gm := ⟨_, rfl⟩
  obtain ⟨gt, hgt⟩ : ∃ g, g = p.gt := ⟨_, rfl⟩
  obtain ⟨n, hn⟩ : ∃ n, n = s.th.length := ⟨_, rfl⟩
  rw [← hgm, ← hgt, ← hn] at m2
  rw [← hgt] at c0 c1 c2 c3 c4 it
  rw [← hgm] at im
  rw [← hgm]
  rw [← hn] at p0
  haveI : In gm w := ⟨im⟩
  haveI : In gt w := ⟨it⟩
  have t0 : (0 : Int) ≤ (t : Int) := by omega
  have t1 : (t : Int) < (n : Int) := by omega
  have d0 : decide ((t : Int) < 0) = false := by rw [decide_eq_false_iff_not]; omega
  have d1 : decide ((n : Int) ≤ (t : Int)) = false := by rw [decide_eq_false_iff_not]; omega
  have dl : decide (a < lo) = false := by simp; omega
  clear h ht hn hgm hgt im it hl
  go_enter Tryz.func30, Tryz.ntmps30
  go_wp2_with (go_at_call 54; refine (HC.out _).mono ?_; rintro e w' ⟨rfl, dW, rfl⟩)
  (refine wp_region_nw (by kernel_rfl) (by kernel_rfl) ?_; (repeat (go_big_quiet_step (fail))); refine wpQuiet_nil ?_; intro _ hreg; obtain ⟨dW, rfl⟩ : Nw _ _ := hreg)
  go_wp2
  go_ret
  exact ⟨rfl, (by repeat (first | exact Xt.Nw.refl _ | refine Xt.Nw.drew ?_ | refine Xt.Nw.drewN ?_ _ | refine Xt.Nw.alloc ?_ _ | refine Xt.Nw.joined ?_ | refine Xt.Nw.drewd ?_ | refine Xt.Nw.drewdN ?_ | refine Xt.Nw.ext ?_ | refine Xt.Nw.ext_some ?_ (by assumption) | refine Xt.Nw.setCell ?_ (by simp [go_sem] <;> omega) _))⟩
set_option maxRecDepth 20000 in
set_option maxHeartbeats 4000000 in
theorem refu_14_0 (w : World) (p : Pl) (s : Md) (h : MAt w p s) (t : Nat) (op mo : Bool) (lo hi : Int) (ht : s.th[t]? = some ⟨op, mo, lo, hi, false⟩) (a b c d e f : Int) (HC : Hid (∀ W, Calls Tryz.prog 54 #[op7 14 a b c d e f] W fun e w' => e = .returned (.int .i64 0) ∧ Nw W w')) :
    Calls Tryz.prog 30 #[.pointer (some ⟨p.gm, 0, none⟩), .int .i64 t, op7 14 a b c d e f] w fun e w' => e = .returned (.int .i64 10) ∧ Nw w w' := by
  obtain ⟨p0, _⟩ := List.getElem?_eq_some_iff.1 ht
  obtain ⟨c0, c1, c2, c3, c4⟩ := h.th.cells ht
  obtain ⟨ct, m2⟩ := h.m2
  have im := h.im
  have it := h.it
  obtain ⟨gm, hgm⟩ : ∃ g, g = p.gm := ⟨_, rfl⟩
  obtain ⟨gt, hgt⟩ : ∃ g, g = p.gt := ⟨_, rfl⟩
  obtain ⟨n, hn⟩ : ∃ n, n = s.th.length := ⟨_, rfl⟩
  rw [← hgm, ← hgt, ← hn] at m2
  rw [← hgt] at c0 c1 c2 c3 c4 it
  rw [← hgm] at im
  rw [← hgm]
  rw [← hn] at p0
  haveI : In gm w := ⟨im⟩
  haveI : In gt w := ⟨it⟩
  have t0 : (0 : Int) ≤ (t : Int) := by omega
  have t1 : (t : Int) < (n : Int) := by omega
  have d0 : decide ((t : Int) < 0) = false := by rw [decide_eq_false_iff_not]; omega
  have d1 : decide ((n : Int) ≤ (t : Int)) = false := by rw [decide_eq_false_iff_not]; omega
  clear h ht hn hgm hgt im it
  go_enter Tryz.func30, Tryz.ntmps30
  go_wp2_with (go_at_call 54; refine (HC.out _).mono ?_; rintro e w' ⟨rfl, dW, rfl⟩)
  go_ret
  exact ⟨rfl, (by repeat (first | exact Xt.Nw.refl _ | refine Xt.Nw.drew ?_ | refine Xt.Nw.drewN ?_ _ | refine Xt.Nw.alloc ?_ _ | refine Xt.Nw.joined ?_ | refine Xt.Nw.drewd ?_ | refine Xt.Nw.drewdN ?_ | refine Xt.Nw.ext ?_ | refine Xt.Nw.ext_some ?_ (by assumption) | refine Xt.Nw.setCell ?_ (by simp [go_sem] <;> omega) _))⟩
set_option maxRecDepth 20000 in
set_option maxHeartbeats 4000000 in
theorem refu_14_1 (w : World) (p : Pl) (s : Md) (h : MAt w p s) (t : Nat) (mo : Bool) (lo hi : Int) (ht : s.th[t]? = some ⟨false, mo, lo, hi, true⟩) (a b c d e f : Int) (HC : Hid (∀ W, Calls Tryz.prog 54 #[op7 14 a b c d e f] W fun e w' => e = .returned (.int .i64 0) ∧ Nw W w')) :
    Calls Tryz.prog 30 #[.pointer (some ⟨p.gm, 0, none⟩), .int .i64 t, op7 14 a b c d e f] w fun e w' => e = .returned (.int .i64 8) ∧ Nw w w' := by
  obtain ⟨p0, _⟩ := List.getElem?_eq_some_iff.1 ht
  obtain ⟨c0, c1, c2, c3, c4⟩ := h.th.cells ht
  obtain ⟨ct, m2⟩ := h.m2
  have im := h.im
  have it := h.it
  obtain ⟨gm, hgm⟩ : ∃ g, g = p.gm := ⟨_, rfl⟩
  obtain ⟨gt, hgt⟩ : ∃ g, g = p.gt := ⟨_, rfl⟩
  obtain ⟨n, hn⟩ : ∃ n, n = s.th.length := ⟨_, rfl⟩
  rw [← hgm, ← hgt, ← hn] at m2
  rw [← hgt] at c0 c1 c2 c3 c4 it
  rw [← hgm] at im
  rw [← hgm]
  rw [← hn] at p0
  haveI : In gm w := ⟨im⟩
  haveI : In gt w := ⟨it⟩
  have t0 : (0 : Int) ≤ (t : Int) := by omega
  have t1 : (t : Int) < (n : Int) := by omega
  have d0 : decide ((t : Int) < 0) = false := by rw [decide_eq_false_iff_not]; omega
  have d1 : decide ((n : Int) ≤ (t : Int)) = false := by rw [decide_eq_false_iff_not]; omega
  clear h ht hn hgm hgt im it
  go_enter Tryz.func30, Tryz.ntmps30
  go_wp2_with (go_at_call 54; refine (HC.out _).mono ?_; rintro e w' ⟨rfl, dW, rfl⟩)
  go_ret
  exact ⟨rfl, (by repeat (first | exact Xt.Nw.refl _ | refine Xt.Nw.drew ?_ | refine Xt.Nw.drewN ?_ _ | refine Xt.Nw.alloc ?_ _ | refine Xt.Nw.joined ?_ | refine Xt.Nw.drewd ?_ | refine Xt.Nw.drewdN ?_ | refine Xt.Nw.ext ?_ | refine Xt.Nw.ext_some ?_ (by assumption) | refine Xt.Nw.setCell ?_ (by simp [go_sem] <;> omega) _))⟩
set_option maxRecDepth 20000 in
set_option maxHeartbeats 4000000 in
theorem refu_14_2 (w : World) (p : Pl) (s : Md) (h : MAt w p s) (t : Nat) (mo : Bool) (lo hi : Int) (ht : s.th[t]? = some ⟨true, mo, lo, hi, true⟩) (a b c d e f : Int) (HC : Hid (∀ W, Calls Tryz.prog 54 #[op7 14 a b c d e f] W fun e w' => e = .returned (.int .i64 0) ∧ Nw W w')) :
    Calls Tryz.prog 30 #[.pointer (some ⟨p.gm, 0, none⟩), .int .i64 t, op7 14 a b c d e f] w fun e w' => e = .returned (.int .i64 0) ∧ Nw w w' := by
  obtain ⟨p0, _⟩ := List.getElem?_eq_some_iff.1 ht
  obtain ⟨c0, c1, c2, c3, c4⟩ := h.th.cells ht
  obtain ⟨ct, m2⟩ := h.m2
  have im := h.im
  have it := h.it
  obtain ⟨gm, hgm⟩ : ∃ g, g = p.gm := ⟨_, rfl⟩
  obtain ⟨gt, hgt⟩ : ∃ g, g = p.gt := ⟨_, rfl⟩
  obtain ⟨n, hn⟩ : ∃ n, n = s.th.length := ⟨_, rfl⟩
  rw [← hgm, ← hgt, ← hn] at m2
  rw [← hgt] at c0 c1 c2 c3 c4 it
  rw [← hgm] at im
  rw [← hgm]
  rw [← hn] at p0
  haveI : In gm w := ⟨im⟩
  haveI : In gt w := ⟨it⟩
  have t0 : (0 : Int) ≤ (t : Int) := by omega
  have t1 : (t : Int) < (n : Int) := by omega
  have d0 : decide ((t : Int) < 0) = false := by rw [decide_eq_false_iff_not]; omega
  have d1 : decide ((n : Int) ≤ (t : Int)) = false := by rw [decide_eq_false_iff_not]; omega
  clear h ht hn hgm hgt im it
  go_enter Tryz.func30, Tryz.ntmps30
  go_wp2_with (go_at_call 54; refine (HC.out _).mono ?_; rintro e w' ⟨rfl, dW, rfl⟩)
  (refine wp_region_nw (by kernel_rfl) (by kernel_rfl) ?_; (repeat (go_big_quiet_step (fail))); refine wpQuiet_nil ?_; intro _ hreg; obtain ⟨dW, rfl⟩ : Nw _ _ := hreg)
  go_wp2
  go_ret
  exact ⟨rfl, (by repeat (first | exact Xt.Nw.refl _ | refine Xt.Nw.drew ?_ | refine Xt.Nw.drewN ?_ _ | refine Xt.Nw.alloc ?_ _ | refine Xt.Nw.joined ?_ | refine Xt.Nw.drewd ?_ | refine Xt.Nw.drewdN ?_ | refine Xt.Nw.ext ?_ | refine Xt.Nw.ext_some ?_ (by assumption) | refine Xt.Nw.setCell ?_ (by simp [go_sem] <;> omega) _))⟩
set_option maxRecDepth 20000 in
set_option maxHeartbeats 4000000 in
theorem refu_15_0 (w : World) (p : Pl) (s : Md) (h : MAt w p s) (t : Nat) (op mo : Bool) (lo hi : Int) (ht : s.th[t]? = some ⟨op, mo, lo, hi, false⟩) (a b c d e f : Int) (HC : Hid (∀ W, Calls Tryz.prog 54 #[op7 15 a b c d e f] W fun e w' => e = .returned (.int .i64 0) ∧ Nw W w')) :
    Calls Tryz.prog 30 #[.pointer (some ⟨p.gm, 0, none⟩), .int .i64 t, op7 15 a b c d e f] w fun e w' => e = .returned (.int .i64 10) ∧ Nw w w' := by
  obtain ⟨p0, _⟩ := List.getElem?_eq_some_iff.1 ht
  obtain ⟨c0, c1, c2, c3, c4⟩ := h.th.cells ht
  obtain ⟨ct, m2⟩ := h.m2
  have im := h.im
  have it := h.it
  obtain ⟨gm, hgm⟩ : ∃ g, g = p.gm := ⟨_, rfl⟩
  obtain ⟨gt, hgt⟩ : ∃ g, g = p.gt := ⟨_, rfl⟩
  obtain ⟨n, hn⟩ : ∃ n, n = s.th.length := ⟨_, rfl⟩
  rw [← hgm, ← hgt, ← hn] at m2
  rw [← hgt] at c0 c1 c2 c3 c4 it
  rw [← hgm] at im
  rw [← hgm]
  rw [← hn] at p0
  haveI : In gm w := ⟨im⟩
  haveI : In gt w := ⟨it⟩
  have t0 : (0 : Int) ≤ (t : Int) := by omega
  have t1 : (t : Int) < (n : Int) := by omega
  have d0 : decide ((t : Int) < 0) = false := by rw [decide_eq_false_iff_not]; omega
  have d1 : decide ((n : Int) ≤ (t : Int)) = false := by rw [decide_eq_false_iff_not]; omega
  clear h ht hn hgm hgt im it
  go_enter Tryz.func30, Tryz.ntmps30
  go_wp2_with (go_at_call 54; refine (HC.out _).mono ?_; rintro e w' ⟨rfl, dW, rfl⟩)
  go_ret
  exact ⟨rfl, (by repeat (first | exact Xt.Nw.refl _ | refine Xt.Nw.drew ?_ | refine Xt.Nw.drewN ?_ _ | refine Xt.Nw.alloc ?_ _ | refine Xt.Nw.joined ?_ | refine Xt.Nw.drewd ?_ | refine Xt.Nw.drewdN ?_ | refine Xt.Nw.ext ?_ | refine Xt.Nw.ext_some ?_ (by assumption) | refine Xt.Nw.setCell ?_ (by simp [go_sem] <;> omega) _))⟩
set_option maxRecDepth 20000 in
set_option maxHeartbeats 4000000 in
theorem refu_15_1 (w : World) (p : Pl) (s : Md) (h : MAt w p s) (t : Nat) (op mo : Bool) (lo hi : Int) (ht : s.th[t]? = some ⟨op, mo, lo, hi, true⟩) (a b c d e f : Int) (HC : Hid (∀ W, Calls Tryz.prog 54 #[op7 15 a b c d e f] W fun e w' => e = .returned (.int .i64 0) ∧ Nw W w')) :
    Calls Tryz.prog 30 #[.pointer (some ⟨p.gm, 0, none⟩), .int .i64 t, op7 15 a b c d e f] w fun e w' => e = .returned (.int .i64 0) ∧ Nw w w' := by
  obtain ⟨p0, _⟩ := List.getElem?_eq_some_iff.1 ht
  obtain ⟨c0, c1, c2, c3, c4⟩ := h.th.cells ht
  obtain ⟨ct, m2⟩ := h.m2
  have im := h.im
  have it := h.it
  obtain ⟨gm, hgm⟩ : ∃ g, g = p.gm := ⟨_, rfl⟩
  obtain ⟨gt, hgt⟩ : ∃ g, g = p.gt := ⟨_, rfl⟩
  obtain ⟨n, hn⟩ : ∃ n, n = s.th.length := ⟨_, rfl⟩
  rw [← hgm, ← hgt, ← hn] at m2
  rw [← hgt] at c0 c1 c2 c3 c4 it
  rw [← hgm] at im
  rw [← hgm]
  rw [← hn] at p0
  haveI : In gm w := ⟨im⟩
  haveI : In gt w := ⟨it⟩
  have t0 : (0 : Int) ≤ (t : Int) := by omega
  have t1 : (t : Int) < (n : Int) := by omega
  have d0 : decide ((t : Int) < 0) = false := by rw [decide_eq_false_iff_not]; omega
  have d1 : decide ((n : Int) ≤ (t : Int)) = false := by rw [decide_eq_false_iff_not]; omega
  clear h ht hn hgm hgt im it
  go_enter Tryz.func30, Tryz.ntmps30
  go_wp2_with (go_at_call 54; refine (HC.out _).mono ?_; rintro e w' ⟨rfl, dW, rfl⟩)
  (refine wp_region_nw (by kernel_rfl) (by kernel_rfl) ?_; (repeat (go_big_quiet_step (fail))); refine wpQuiet_nil ?_; intro _ hreg; obtain ⟨dW, rfl⟩ : Nw _ _ := hreg)
  go_wp2
  go_ret
  exact ⟨rfl, (by repeat (first | exact Xt.Nw.refl _ | refine Xt.Nw.drew ?_ | refine Xt.Nw.drewN ?_ _ | refine Xt.Nw.alloc ?_ _ | refine Xt.Nw.joined ?_ | refine Xt.Nw.drewd ?_ | refine Xt.Nw.drewdN ?_ | refine Xt.Nw.ext ?_ | refine Xt.Nw.ext_some ?_ (by assumption) | refine Xt.Nw.setCell ?_ (by simp [go_sem] <;> omega) _))⟩
/-- refusal of any operation of any thread. -/
theorem refusal_any (w : World) (p : Pl) (s : Md) (h : MAt w p s) (t : Int) (o : Ox) (hw : o.Wf) :
    Calls Tryz.prog 30 #[.pointer (some ⟨p.gm, 0, none⟩), .int .i64 t, opV o] w fun e w' => e = .returned (.int .i64 (refM s t o)) ∧ Nw w w' := by
  by_cases h0 : t < 0 ∨ (s.th.length : Int) ≤ t
  · have e1 : refM s t o = 2 := by unfold refM; rw [if_pos h0]
    rw [e1]; exact refu_out w p s h t o h0
  obtain ⟨t, rfl⟩ : ∃ n : Nat, t = n := ⟨t.toNat, by omega⟩
  obtain ⟨x, hx⟩ : ∃ x, s.th[t]? = some x := ⟨_, List.getElem?_eq_getElem (by omega)⟩
  by_cases hc : chkO o ≠ 0
  · have e1 : refM s t o = chkO o := by unfold refM; rw [if_neg h0, if_pos hc]
    rw [e1]; exact refu_chk w p s h t x hx o hw hc
  · have e1 : refM s t o = refE x o := by
      unfold refM; rw [if_neg h0, if_neg hc]
      have : ((t : Int)).toNat = t := rfl
      rw [this, hx]
    have hc : chkO o = 0 := by omega
    have HC := Lib.hid (fun W => check_any o hw W)
    rw [hc] at HC
    rw [e1]
    have hk : 1 ≤ o.k ∧ o.k ≤ 15 := by
      have hf : o.formed = true := by
        cases hf : o.formed with
        | true => rfl
        | false => unfold chkO at hc; rw [if_pos hf] at hc; cases hc
      unfold Ox.formed at hf
      simp only [Bool.and_eq_true, decide_eq_true_eq] at hf
      exact ⟨hf.1.1.1.1.1.1.1, hf.1.1.1.1.1.1.2⟩
    clear hw hc e1 h0
    obtain ⟨k, a, b, c, d, e, f⟩ := o
    obtain ⟨op, mo, lo, hi, se⟩ := x
    unfold opV at HC ⊢
    simp only at HC hk ⊢
    rcases (by omega : k = 1 ∨ k = 2 ∨ k = 3 ∨ k = 4 ∨ k = 5 ∨ k = 6 ∨ k = 7 ∨ k = 8 ∨ k = 9 ∨ k = 10 ∨ k = 11 ∨ k = 12 ∨ k = 13 ∨ k = 14 ∨ k = 15) with rfl | rfl | rfl | rfl | rfl | rfl | rfl | rfl | rfl | rfl | rfl | rfl | rfl | rfl | rfl
    · cases se with
      | true =>
        exact refu_1_0 w p s h t op mo lo hi hx a b c d e f HC
      | false =>
        exact refu_1_1 w p s h t op mo lo hi hx a b c d e f HC
    · cases se with
      | false =>
        exact refu_2_0 w p s h t op mo lo hi hx a b c d e f HC
      | true =>
        cases op with
        | true =>
          exact refu_2_1 w p s h t mo lo hi hx a b c d e f HC
        | false =>
          exact refu_2_2 w p s h t mo lo hi hx a b c d e f HC
    · cases se with
      | false =>
        exact refu_3_0 w p s h t op mo lo hi hx a b c d e f HC
      | true =>
        exact refu_3_1 w p s h t op mo lo hi hx a b c d e f HC
    · cases se with
      | false =>
        exact refu_4_0 w p s h t op mo lo hi hx a b c d e f HC
      | true =>
        exact refu_4_1 w p s h t op mo lo hi hx a b c d e f HC
    · cases se with
      | false =>
        exact refu_5_0 w p s h t op mo lo hi hx a b c d e f HC
      | true =>
        exact refu_5_1 w p s h t op mo lo hi hx a b c d e f HC
    · cases se with
      | false =>
        exact refu_6_0 w p s h t op mo lo hi hx a b c d e f HC
      | true =>
        exact refu_6_1 w p s h t op mo lo hi hx a b c d e f HC
    · cases se with
      | false =>
        exact refu_7_0 w p s h t op mo lo hi hx a b c d e f HC
      | true =>
        exact refu_7_1 w p s h t op mo lo hi hx a b c d e f HC
    · cases se with
      | false =>
        exact refu_8_0 w p s h t op mo lo hi hx a b c d e f HC
      | true =>
        exact refu_8_1 w p s h t op mo lo hi hx a b c d e f HC
    · cases se with
      | false =>
        exact refu_9_0 w p s h t op mo lo hi hx a b c d e f HC
      | true =>
        exact refu_9_1 w p s h t op mo lo hi hx a b c d e f HC
    · cases se with
      | false =>
        exact refu_10_0 w p s h t op mo lo hi hx a b c d e f HC
      | true =>
        exact refu_10_1 w p s h t op mo lo hi hx a b c d e f HC
    · cases se with
      | false =>
        exact refu_11_0 w p s h t op mo lo hi hx a b c d e f HC
      | true =>
        cases op with
        | true =>
          exact refu_11_1 w p s h t mo lo hi hx a b c d e f HC
        | false =>
          exact refu_11_2 w p s h t mo lo hi hx a b c d e f HC
    · cases se with
      | false =>
        exact refu_12_0 w p s h t op mo lo hi hx a b c d e f HC
      | true =>
        cases op with
        | false =>
          exact refu_12_1 w p s h t mo lo hi hx a b c d e f HC
        | true =>
          cases mo with
          | false =>
            exact refu_12_2 w p s h t lo hi hx a b c d e f HC
          | true =>
            exact refu_12_3 w p s h t lo hi hx a b c d e f HC
    · cases se with
      | false =>
        exact refu_13_0 w p s h t op mo lo hi hx a b c d e f HC
      | true =>
        cases op with
        | false =>
          exact refu_13_1 w p s h t mo lo hi hx a b c d e f HC
        | true =>
          cases mo with
          | false =>
            exact refu_13_2 w p s h t lo hi hx a b c d e f HC
          | true =>
            by_cases hl : a < lo
            · have e1 : refE ⟨true, true, lo, hi, true⟩ ⟨13, a, b, c, d, e, f⟩ = 13 := by simp [refE, hl]
              rw [e1]
              exact refu_13_3 w p s h t lo hi hx a b c d e f hl HC
            · have e1 : refE ⟨true, true, lo, hi, true⟩ ⟨13, a, b, c, d, e, f⟩ = 0 := by simp [refE, hl]
              rw [e1]
              exact refu_13_4 w p s h t lo hi hx a b c d e f hl HC
    · cases se with
      | false =>
        exact refu_14_0 w p s h t op mo lo hi hx a b c d e f HC
      | true =>
        cases op with
        | false =>
          exact refu_14_1 w p s h t mo lo hi hx a b c d e f HC
        | true =>
          exact refu_14_2 w p s h t mo lo hi hx a b c d e f HC
    · cases se with
      | false =>
        exact refu_15_0 w p s h t op mo lo hi hx a b c d e f HC
      | true =>
        exact refu_15_1 w p s h t op mo lo hi hx a b c d e f HC
end Go.Proofs.YtfnapkfdocabcaaGreat
