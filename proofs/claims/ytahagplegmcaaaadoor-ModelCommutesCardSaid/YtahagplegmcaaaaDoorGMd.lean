import Derived.Test.YtahagplegmcaaaaDoorGMa
set_option linter.unusedVariables false
set_option linter.unusedSimpArgs false
set_option linter.unnecessarySimpa false
namespace Go.Proofs.YtahagplegmcaaaaDoor
open Go.RowKit Go.Xt
/-! Equality of operations and of results; client.Check at five operations. -/
abbrev op7 (k a b c d e f : Int) : Value := .agg #[.int .u8 k, .int .u64 a, .int .u64 b, .int .u64 c, .int .u64 d, .int .u64 e, .int .u64 f]
abbrev res5 (e : Int) (f : Bool) (k v c : Int) : Value := .agg #[.int .i64 e, .bool f, .int .u64 k, .int .u64 v, .int .i64 c]
theorem ite_ok0 (p : Prop) [Decidable p] (w : World) : (if p then Result.ok true w else Result.ok false w) = Result.ok (decide p) w := by split <;> simp_all
theorem ite_ok (p q : Prop) [Decidable p] [Decidable q] (w : World) : (if p then Result.ok (decide q) w else Result.ok false w) = Result.ok (decide (p ∧ q)) w := by split <;> simp_all
@[go_sem high] theorem eqOp (k a b c d e f k' a' b' c' d' e' f' : Int) (w : World) : (Op.equalIn 10000 25 (op7 k a b c d e f) (op7 k' a' b' c' d' e' f')).run Tryd.prog w = .ok (decide (k = k') && (decide (a = a') && (decide (b = b') && (decide (c = c') && (decide (d = d') && (decide (e = e') && decide (f = f'))))))) w := by
  have hS : Tryd.prog.underlying 25 = some (.struct (Tryd.prog.fieldsOf 25)) := by kernel_rfl
  have hp : Tryd.prog.stoodInHeld 25 = false := by kernel_rfl
  rw [show (10000 : Nat) = 9999 + 1 from rfl, run_equalIn_agg w 9999 25 _ _ hS hp]
  simp only [Program.fieldsOf, Tryd.underlying25]
  go_simp
  simp only [ite_ok0, ite_ok]
  simp only [Bool.decide_and]
@[go_sem high] theorem eqRes (e : Int) (f : Bool) (k v c e' : Int) (f' : Bool) (k' v' c' : Int) (w : World) : (Op.equalIn 10000 28 (res5 e f k v c) (res5 e' f' k' v' c')).run Tryd.prog w = .ok (decide (e = e') && (decide (f = f') && (decide (k = k') && (decide (v = v') && decide (c = c'))))) w := by
  have hS : Tryd.prog.underlying 28 = some (.struct (Tryd.prog.fieldsOf 28)) := by kernel_rfl
  have hp : Tryd.prog.stoodInHeld 28 = false := by kernel_rfl
  rw [show (10000 : Nat) = 9999 + 1 from rfl, run_equalIn_agg w 9999 28 _ _ hS hp]
  simp only [Program.fieldsOf, Tryd.underlying28]
  go_simp
  simp only [ite_ok0, ite_ok]
  simp only [Bool.decide_and]
set_option maxRecDepth 20000 in
set_option maxHeartbeats 4000000 in
theorem check_1 (w : World) : Calls Tryd.prog 28 #[op7 1 0 0 0 0 0 0] w fun e w' => e = .returned (.int .i64 0) ∧ Nw w w' := by
  go_enter Tryd.func28, Tryd.ntmps28
  go_wp2
  go_ret
  exact ⟨rfl, (by repeat (first | exact Xt.Nw.refl _ | refine Xt.Nw.drew ?_ | refine Xt.Nw.drewN ?_ _ | refine Xt.Nw.alloc ?_ _ | refine Xt.Nw.joined ?_ | refine Xt.Nw.drewd ?_ | refine Xt.Nw.drewdN ?_ | refine Xt.Nw.ext ?_ | refine Xt.Nw.ext_some ?_ (by assumption) | refine Xt.Nw.setCell ?_ (by simp [go_sem] <;> omega) _))⟩
set_option maxRecDepth 20000 in
set_option maxHeartbeats 4000000 in
theorem check_6 (w : World) : Calls Tryd.prog 28 #[op7 6 4 0 0 0 0 0] w fun e w' => e = .returned (.int .i64 0) ∧ Nw w w' := by
  go_enter Tryd.func28, Tryd.ntmps28
  go_wp2
  go_ret
  exact ⟨rfl, (by repeat (first | exact Xt.Nw.refl _ | refine Xt.Nw.drew ?_ | refine Xt.Nw.drewN ?_ _ | refine Xt.Nw.alloc ?_ _ | refine Xt.Nw.joined ?_ | refine Xt.Nw.drewd ?_ | refine Xt.Nw.drewdN ?_ | refine Xt.Nw.ext ?_ | refine Xt.Nw.ext_some ?_ (by assumption) | refine Xt.Nw.setCell ?_ (by simp [go_sem] <;> omega) _))⟩
set_option maxRecDepth 20000 in
set_option maxHeartbeats 4000000 in
theorem check_4 (w : World) : Calls Tryd.prog 28 #[op7 4 4 0 2 0 0 0] w fun e w' => e = .returned (.int .i64 0) ∧ Nw w w' := by
  go_enter Tryd.func28, Tryd.ntmps28
  go_upto_region 9 with (fail)
  go_region
  go_wp2
  go_ret
  exact ⟨rfl, (by repeat (first | exact Xt.Nw.refl _ | refine Xt.Nw.drew ?_ | refine Xt.Nw.drewN ?_ _ | refine Xt.Nw.alloc ?_ _ | refine Xt.Nw.joined ?_ | refine Xt.Nw.drewd ?_ | refine Xt.Nw.drewdN ?_ | refine Xt.Nw.ext ?_ | refine Xt.Nw.ext_some ?_ (by assumption) | refine Xt.Nw.setCell ?_ (by simp [go_sem] <;> omega) _))⟩
set_option maxRecDepth 20000 in
set_option maxHeartbeats 4000000 in
theorem check_2 (w : World) : Calls Tryd.prog 28 #[op7 2 0 0 0 0 0 0] w fun e w' => e = .returned (.int .i64 0) ∧ Nw w w' := by
  go_enter Tryd.func28, Tryd.ntmps28
  go_wp2
  go_ret
  exact ⟨rfl, (by repeat (first | exact Xt.Nw.refl _ | refine Xt.Nw.drew ?_ | refine Xt.Nw.drewN ?_ _ | refine Xt.Nw.alloc ?_ _ | refine Xt.Nw.joined ?_ | refine Xt.Nw.drewd ?_ | refine Xt.Nw.drewdN ?_ | refine Xt.Nw.ext ?_ | refine Xt.Nw.ext_some ?_ (by assumption) | refine Xt.Nw.setCell ?_ (by simp [go_sem] <;> omega) _))⟩
set_option maxRecDepth 20000 in
set_option maxHeartbeats 4000000 in
theorem check_10 (w : World) : Calls Tryd.prog 28 #[op7 10 0 0 0 0 0 0] w fun e w' => e = .returned (.int .i64 0) ∧ Nw w w' := by
  go_enter Tryd.func28, Tryd.ntmps28
  go_wp2
  go_ret
  exact ⟨rfl, (by repeat (first | exact Xt.Nw.refl _ | refine Xt.Nw.drew ?_ | refine Xt.Nw.drewN ?_ _ | refine Xt.Nw.alloc ?_ _ | refine Xt.Nw.joined ?_ | refine Xt.Nw.drewd ?_ | refine Xt.Nw.drewdN ?_ | refine Xt.Nw.ext ?_ | refine Xt.Nw.ext_some ?_ (by assumption) | refine Xt.Nw.setCell ?_ (by simp [go_sem] <;> omega) _))⟩
end Go.Proofs.YtahagplegmcaaaaDoor
namespace Go.Proofs.YtahagplegmcaaaaDoor
open Go.RowKit Go.Xt
/-! Refusals. -/
theorem thr_len (b : List Bool) : (thr b).length = b.length * 5 := by
  induction b with
  | nil => rfl
  | cons x b ih => rw [thr, List.flatMap_cons, List.length_append, ← thr, ih, List.length_cons]; simp; omega
theorem thr_get : ∀ (b : List Bool) (k : Nat) (s : Bool), b[k]? = some s → (thr b)[k * 5]? = some (.bool false) ∧ (thr b)[k * 5 + 1]? = some (.bool false) ∧ (thr b)[k * 5 + 2]? = some (.int .u64 0) ∧ (thr b)[k * 5 + 3]? = some (.int .u64 0) ∧ (thr b)[k * 5 + 4]? = some (.bool s)
  | [], k, s, h => by simp at h
  | x :: b, 0, s, h => by simp at h; subst h; exact ⟨rfl, rfl, rfl, rfl, rfl⟩
  | x :: b, k + 1, s, h => by
    have h2 := thr_get b k s (by simpa using h)
    have e : ∀ j, (thr (x :: b))[(k + 1) * 5 + j]? = (thr b)[k * 5 + j]? := fun j => by
      rw [show (k + 1) * 5 + j = (k * 5 + j) + 5 by omega]; rfl
    exact ⟨(e 0).trans h2.1, (e 1).trans h2.2.1, (e 2).trans h2.2.2.1, (e 3).trans h2.2.2.2.1, (e 4).trans h2.2.2.2.2⟩
theorem thr_set : ∀ (b : List Bool) (k : Nat) (v : Bool), k < b.length → thr (b.set k v) = (thr b).set (k * 5 + 4) (.bool v)
  | [], k, v, h => by simp at h
  | x :: b, 0, v, h => rfl
  | x :: b, k + 1, v, h => by
    have h2 := thr_set b k v (by simpa using h)
    rw [List.set_cons_succ, thr, List.flatMap_cons, ← thr, h2, show (k + 1) * 5 + 4 = (k * 5 + 4) + 1 + 1 + 1 + 1 + 1 by omega]; rfl
theorem Mdl.cells {base : Nat} {W : World} {gm gt gp : Nat} {slots : Int} {b : List Bool} {L : Value} (h : Mdl base W gm gt gp slots b L) {k : Nat} {s : Bool} (hk : b[k]? = some s) :
    W.cell? ⟨gt, k * 5, none⟩ = some (.bool false) ∧ W.cell? ⟨gt, k * 5 + 1, none⟩ = some (.bool false) ∧ W.cell? ⟨gt, k * 5 + 2, none⟩ = some (.int .u64 0) ∧ W.cell? ⟨gt, k * 5 + 3, none⟩ = some (.int .u64 0) ∧ W.cell? ⟨gt, k * 5 + 4, none⟩ = some (.bool s) := by
  obtain ⟨p, _⟩ := List.getElem?_eq_some_iff.1 hk
  obtain ⟨g0, g1, g2, g3, g4⟩ := thr_get b k s hk
  exact ⟨(h.th.cellAt _ (by omega)).trans g0, (h.th.cellAt _ (by omega)).trans g1, (h.th.cellAt _ (by omega)).trans g2, (h.th.cellAt _ (by omega)).trans g3, (h.th.cellAt _ (by omega)).trans g4⟩
set_option maxRecDepth 20000 in
set_option maxHeartbeats 4000000 in
theorem refuse_1_ff (base : Nat) (w : World) (gm gt gp : Nat) (slots : Int) (b : List Bool) (L : Value) (h : Mdl base w gm gt gp slots b L) (t : Nat) (ht : b[t]? = some false) :
    Calls Tryd.prog 16 #[.pointer (some ⟨gm, 0, none⟩), .int .i64 t, op7 1 0 0 0 0 0 0] w fun e w' => e = .returned (.int .i64 0) ∧ Nw w w' := by
  obtain ⟨p, _⟩ := List.getElem?_eq_some_iff.1 ht
  obtain ⟨c0, c1, c2, c3, c4⟩ := h.cells ht
  have m2 := h.m2
  haveI : In gm w := ⟨h.im⟩
  haveI : In gt w := ⟨h.it⟩
  obtain ⟨n, hn⟩ : ∃ n, n = b.length := ⟨_, rfl⟩
  rw [← hn] at m2 p
  have t0 : (0 : Int) ≤ (t : Int) := by omega
  have t1 : (t : Int) < (n : Int) := by omega
  have d0 : decide ((t : Int) < 0) = false := by rw [decide_eq_false_iff_not]; omega
  have d1 : decide ((n : Int) ≤ (t : Int)) = false := by rw [decide_eq_false_iff_not]; omega
  clear h ht hn
  go_enter Tryd.func16, Tryd.ntmps16
  go_wp2_with (go_at_call 28; refine (check_1 _).mono ?_; rintro e w' ⟨rfl, dW, rfl⟩)
  (refine wp_region_nw (by kernel_rfl) (by kernel_rfl) ?_; (repeat (go_big_quiet_step (fail))); refine wpQuiet_nil ?_; intro _ hreg; obtain ⟨dW, rfl⟩ : Nw _ _ := hreg)
  go_wp2
  go_ret
  exact ⟨rfl, (by repeat (first | exact Xt.Nw.refl _ | refine Xt.Nw.drew ?_ | refine Xt.Nw.drewN ?_ _ | refine Xt.Nw.alloc ?_ _ | refine Xt.Nw.joined ?_ | refine Xt.Nw.drewd ?_ | refine Xt.Nw.drewdN ?_ | refine Xt.Nw.ext ?_ | refine Xt.Nw.ext_some ?_ (by assumption) | refine Xt.Nw.setCell ?_ (by simp [go_sem] <;> omega) _))⟩
set_option maxRecDepth 20000 in
set_option maxHeartbeats 4000000 in
theorem refuse_1_tt (base : Nat) (w : World) (gm gt gp : Nat) (slots : Int) (b : List Bool) (L : Value) (h : Mdl base w gm gt gp slots b L) (t : Nat) (ht : b[t]? = some true) :
    Calls Tryd.prog 16 #[.pointer (some ⟨gm, 0, none⟩), .int .i64 t, op7 1 0 0 0 0 0 0] w fun e w' => e = .returned (.int .i64 8) ∧ Nw w w' := by
  obtain ⟨p, _⟩ := List.getElem?_eq_some_iff.1 ht
  obtain ⟨c0, c1, c2, c3, c4⟩ := h.cells ht
  have m2 := h.m2
  haveI : In gm w := ⟨h.im⟩
  haveI : In gt w := ⟨h.it⟩
  obtain ⟨n, hn⟩ : ∃ n, n = b.length := ⟨_, rfl⟩
  rw [← hn] at m2 p
  have t0 : (0 : Int) ≤ (t : Int) := by omega
  have t1 : (t : Int) < (n : Int) := by omega
  have d0 : decide ((t : Int) < 0) = false := by rw [decide_eq_false_iff_not]; omega
  have d1 : decide ((n : Int) ≤ (t : Int)) = false := by rw [decide_eq_false_iff_not]; omega
  clear h ht hn
  go_enter Tryd.func16, Tryd.ntmps16
  go_wp2_with (go_at_call 28; refine (check_1 _).mono ?_; rintro e w' ⟨rfl, dW, rfl⟩)
  go_ret
  exact ⟨rfl, (by repeat (first | exact Xt.Nw.refl _ | refine Xt.Nw.drew ?_ | refine Xt.Nw.drewN ?_ _ | refine Xt.Nw.alloc ?_ _ | refine Xt.Nw.joined ?_ | refine Xt.Nw.drewd ?_ | refine Xt.Nw.drewdN ?_ | refine Xt.Nw.ext ?_ | refine Xt.Nw.ext_some ?_ (by assumption) | refine Xt.Nw.setCell ?_ (by simp [go_sem] <;> omega) _))⟩
set_option maxRecDepth 20000 in
set_option maxHeartbeats 4000000 in
theorem refuse_2_tt (base : Nat) (w : World) (gm gt gp : Nat) (slots : Int) (b : List Bool) (L : Value) (h : Mdl base w gm gt gp slots b L) (t : Nat) (ht : b[t]? = some true) :
    Calls Tryd.prog 16 #[.pointer (some ⟨gm, 0, none⟩), .int .i64 t, op7 2 0 0 0 0 0 0] w fun e w' => e = .returned (.int .i64 0) ∧ Nw w w' := by
  obtain ⟨p, _⟩ := List.getElem?_eq_some_iff.1 ht
  obtain ⟨c0, c1, c2, c3, c4⟩ := h.cells ht
  have m2 := h.m2
  haveI : In gm w := ⟨h.im⟩
  haveI : In gt w := ⟨h.it⟩
  obtain ⟨n, hn⟩ : ∃ n, n = b.length := ⟨_, rfl⟩
  rw [← hn] at m2 p
  have t0 : (0 : Int) ≤ (t : Int) := by omega
  have t1 : (t : Int) < (n : Int) := by omega
  have d0 : decide ((t : Int) < 0) = false := by rw [decide_eq_false_iff_not]; omega
  have d1 : decide ((n : Int) ≤ (t : Int)) = false := by rw [decide_eq_false_iff_not]; omega
  clear h ht hn
  go_enter Tryd.func16, Tryd.ntmps16
  go_wp2_with (go_at_call 28; refine (check_2 _).mono ?_; rintro e w' ⟨rfl, dW, rfl⟩)
  (refine wp_region_nw (by kernel_rfl) (by kernel_rfl) ?_; (repeat (go_big_quiet_step (fail))); refine wpQuiet_nil ?_; intro _ hreg; obtain ⟨dW, rfl⟩ : Nw _ _ := hreg)
  go_wp2
  go_ret
  exact ⟨rfl, (by repeat (first | exact Xt.Nw.refl _ | refine Xt.Nw.drew ?_ | refine Xt.Nw.drewN ?_ _ | refine Xt.Nw.alloc ?_ _ | refine Xt.Nw.joined ?_ | refine Xt.Nw.drewd ?_ | refine Xt.Nw.drewdN ?_ | refine Xt.Nw.ext ?_ | refine Xt.Nw.ext_some ?_ (by assumption) | refine Xt.Nw.setCell ?_ (by simp [go_sem] <;> omega) _))⟩
set_option maxRecDepth 20000 in
set_option maxHeartbeats 4000000 in
theorem refuse_2_ff (base : Nat) (w : World) (gm gt gp : Nat) (slots : Int) (b : List Bool) (L : Value) (h : Mdl base w gm gt gp slots b L) (t : Nat) (ht : b[t]? = some false) :
    Calls Tryd.prog 16 #[.pointer (some ⟨gm, 0, none⟩), .int .i64 t, op7 2 0 0 0 0 0 0] w fun e w' => e = .returned (.int .i64 10) ∧ Nw w w' := by
  obtain ⟨p, _⟩ := List.getElem?_eq_some_iff.1 ht
  obtain ⟨c0, c1, c2, c3, c4⟩ := h.cells ht
  have m2 := h.m2
  haveI : In gm w := ⟨h.im⟩
  haveI : In gt w := ⟨h.it⟩
  obtain ⟨n, hn⟩ : ∃ n, n = b.length := ⟨_, rfl⟩
  rw [← hn] at m2 p
  have t0 : (0 : Int) ≤ (t : Int) := by omega
  have t1 : (t : Int) < (n : Int) := by omega
  have d0 : decide ((t : Int) < 0) = false := by rw [decide_eq_false_iff_not]; omega
  have d1 : decide ((n : Int) ≤ (t : Int)) = false := by rw [decide_eq_false_iff_not]; omega
  clear h ht hn
  go_enter Tryd.func16, Tryd.ntmps16
  go_wp2_with (go_at_call 28; refine (check_2 _).mono ?_; rintro e w' ⟨rfl, dW, rfl⟩)
  go_ret
  exact ⟨rfl, (by repeat (first | exact Xt.Nw.refl _ | refine Xt.Nw.drew ?_ | refine Xt.Nw.drewN ?_ _ | refine Xt.Nw.alloc ?_ _ | refine Xt.Nw.joined ?_ | refine Xt.Nw.drewd ?_ | refine Xt.Nw.drewdN ?_ | refine Xt.Nw.ext ?_ | refine Xt.Nw.ext_some ?_ (by assumption) | refine Xt.Nw.setCell ?_ (by simp [go_sem] <;> omega) _))⟩
set_option maxRecDepth 20000 in
set_option maxHeartbeats 4000000 in
theorem refuse_4_tt (base : Nat) (w : World) (gm gt gp : Nat) (slots : Int) (b : List Bool) (L : Value) (h : Mdl base w gm gt gp slots b L) (t : Nat) (ht : b[t]? = some true) :
    Calls Tryd.prog 16 #[.pointer (some ⟨gm, 0, none⟩), .int .i64 t, op7 4 4 0 2 0 0 0] w fun e w' => e = .returned (.int .i64 0) ∧ Nw w w' := by
  obtain ⟨p, _⟩ := List.getElem?_eq_some_iff.1 ht
  obtain ⟨c0, c1, c2, c3, c4⟩ := h.cells ht
  have m2 := h.m2
  haveI : In gm w := ⟨h.im⟩
  haveI : In gt w := ⟨h.it⟩
  obtain ⟨n, hn⟩ : ∃ n, n = b.length := ⟨_, rfl⟩
  rw [← hn] at m2 p
  have t0 : (0 : Int) ≤ (t : Int) := by omega
  have t1 : (t : Int) < (n : Int) := by omega
  have d0 : decide ((t : Int) < 0) = false := by rw [decide_eq_false_iff_not]; omega
  have d1 : decide ((n : Int) ≤ (t : Int)) = false := by rw [decide_eq_false_iff_not]; omega
  clear h ht hn
  go_enter Tryd.func16, Tryd.ntmps16
  go_wp2_with (go_at_call 28; refine (check_4 _).mono ?_; rintro e w' ⟨rfl, dW, rfl⟩)
  (refine wp_region_nw (by kernel_rfl) (by kernel_rfl) ?_; (repeat (go_big_quiet_step (fail))); refine wpQuiet_nil ?_; intro _ hreg; obtain ⟨dW, rfl⟩ : Nw _ _ := hreg)
  go_wp2
  go_ret
  exact ⟨rfl, (by repeat (first | exact Xt.Nw.refl _ | refine Xt.Nw.drew ?_ | refine Xt.Nw.drewN ?_ _ | refine Xt.Nw.alloc ?_ _ | refine Xt.Nw.joined ?_ | refine Xt.Nw.drewd ?_ | refine Xt.Nw.drewdN ?_ | refine Xt.Nw.ext ?_ | refine Xt.Nw.ext_some ?_ (by assumption) | refine Xt.Nw.setCell ?_ (by simp [go_sem] <;> omega) _))⟩
set_option maxRecDepth 20000 in
set_option maxHeartbeats 4000000 in
theorem refuse_6_tt (base : Nat) (w : World) (gm gt gp : Nat) (slots : Int) (b : List Bool) (L : Value) (h : Mdl base w gm gt gp slots b L) (t : Nat) (ht : b[t]? = some true) :
    Calls Tryd.prog 16 #[.pointer (some ⟨gm, 0, none⟩), .int .i64 t, op7 6 4 0 0 0 0 0] w fun e w' => e = .returned (.int .i64 0) ∧ Nw w w' := by
  obtain ⟨p, _⟩ := List.getElem?_eq_some_iff.1 ht
  obtain ⟨c0, c1, c2, c3, c4⟩ := h.cells ht
  have m2 := h.m2
  haveI : In gm w := ⟨h.im⟩
  haveI : In gt w := ⟨h.it⟩
  obtain ⟨n, hn⟩ : ∃ n, n = b.length := ⟨_, rfl⟩
  rw [← hn] at m2 p
  have t0 : (0 : Int) ≤ (t : Int) := by omega
  have t1 : (t : Int) < (n : Int) := by omega
  have d0 : decide ((t : Int) < 0) = false := by rw [decide_eq_false_iff_not]; omega
  have d1 : decide ((n : Int) ≤ (t : Int)) = false := by rw [decide_eq_false_iff_not]; omega
  clear h ht hn
  go_enter Tryd.func16, Tryd.ntmps16
  go_wp2_with (go_at_call 28; refine (check_6 _).mono ?_; rintro e w' ⟨rfl, dW, rfl⟩)
  (refine wp_region_nw (by kernel_rfl) (by kernel_rfl) ?_; (repeat (go_big_quiet_step (fail))); refine wpQuiet_nil ?_; intro _ hreg; obtain ⟨dW, rfl⟩ : Nw _ _ := hreg)
  go_wp2
  go_ret
  exact ⟨rfl, (by repeat (first | exact Xt.Nw.refl _ | refine Xt.Nw.drew ?_ | refine Xt.Nw.drewN ?_ _ | refine Xt.Nw.alloc ?_ _ | refine Xt.Nw.joined ?_ | refine Xt.Nw.drewd ?_ | refine Xt.Nw.drewdN ?_ | refine Xt.Nw.ext ?_ | refine Xt.Nw.ext_some ?_ (by assumption) | refine Xt.Nw.setCell ?_ (by simp [go_sem] <;> omega) _))⟩
set_option maxRecDepth 20000 in
set_option maxHeartbeats 4000000 in
theorem refuse_10_tt (base : Nat) (w : World) (gm gt gp : Nat) (slots : Int) (b : List Bool) (L : Value) (h : Mdl base w gm gt gp slots b L) (t : Nat) (ht : b[t]? = some true) :
    Calls Tryd.prog 16 #[.pointer (some ⟨gm, 0, none⟩), .int .i64 t, op7 10 0 0 0 0 0 0] w fun e w' => e = .returned (.int .i64 0) ∧ Nw w w' := by
  obtain ⟨p, _⟩ := List.getElem?_eq_some_iff.1 ht
  obtain ⟨c0, c1, c2, c3, c4⟩ := h.cells ht
  have m2 := h.m2
  haveI : In gm w := ⟨h.im⟩
  haveI : In gt w := ⟨h.it⟩
  obtain ⟨n, hn⟩ : ∃ n, n = b.length := ⟨_, rfl⟩
  rw [← hn] at m2 p
  have t0 : (0 : Int) ≤ (t : Int) := by omega
  have t1 : (t : Int) < (n : Int) := by omega
  have d0 : decide ((t : Int) < 0) = false := by rw [decide_eq_false_iff_not]; omega
  have d1 : decide ((n : Int) ≤ (t : Int)) = false := by rw [decide_eq_false_iff_not]; omega
  clear h ht hn
  go_enter Tryd.func16, Tryd.ntmps16
  go_wp2_with (go_at_call 28; refine (check_10 _).mono ?_; rintro e w' ⟨rfl, dW, rfl⟩)
  (refine wp_region_nw (by kernel_rfl) (by kernel_rfl) ?_; (repeat (go_big_quiet_step (fail))); refine wpQuiet_nil ?_; intro _ hreg; obtain ⟨dW, rfl⟩ : Nw _ _ := hreg)
  go_wp2
  go_ret
  exact ⟨rfl, (by repeat (first | exact Xt.Nw.refl _ | refine Xt.Nw.drew ?_ | refine Xt.Nw.drewN ?_ _ | refine Xt.Nw.alloc ?_ _ | refine Xt.Nw.joined ?_ | refine Xt.Nw.drewd ?_ | refine Xt.Nw.drewdN ?_ | refine Xt.Nw.ext ?_ | refine Xt.Nw.ext_some ?_ (by assumption) | refine Xt.Nw.setCell ?_ (by simp [go_sem] <;> omega) _))⟩
def cnt (b : List Bool) : Nat := b.count true
theorem cnt_snoc (b : List Bool) (x : Bool) : cnt (b ++ [x]) = cnt b + if x then 1 else 0 := by
  cases x <;> simp [cnt]
set_option maxRecDepth 20000 in
set_option maxHeartbeats 4000000 in
theorem sessions_any (base : Nat) (w : World) (gm gt gp : Nat) (slots : Int) (b : List Bool) (L : Value) (h : Mdl base w gm gt gp slots b L) (hb : b.length ≤ 1000) :
    Calls Tryd.prog 52 #[.pointer (some ⟨gm, 0, none⟩)] w fun e w' => e = .returned (.int .i64 (cnt b : Nat)) ∧ Nw w w' := by
  have H := Lib.hid h
  have m2 := h.m2
  haveI : In gm w := ⟨h.im⟩
  haveI : In gt w := ⟨h.it⟩
  obtain ⟨n, hn⟩ : ∃ n, n = b.length := ⟨_, rfl⟩
  rw [← hn] at m2 hb
  have HNL := Lib.hid hn
  have hcb : ∀ k, cnt (b.take k) ≤ k := fun k => Nat.le_trans List.count_le_length (by simp; omega)
  have HCB := Lib.hid hcb
  clear h hn hcb
  go_enter Tryd.func52, Tryd.ntmps52
  go_wp2
  go_loopw [3, 4, 10] (fun s _ i wr => ∃ (k m : Nat), k ≤ n ∧ s = .int .i64 (m : Int) ∧ i = .int .i64 k ∧ Hid (m = cnt (b.take k)) ∧ Nw w wr) (fun _ _ i _ => n - (intOf i).toNat)
  case atStart => exact ⟨0, 0, by omega, rfl, rfl, rfl, Nw.refl _⟩
  case round =>
    obtain ⟨k, m, hk, rfl, rfl, hm, d, rfl⟩ := hrel
    have hmk : m ≤ k := by rw [hm.out]; exact HCB.out k
    by_cases hlt : k < n
    · obtain ⟨x, hx⟩ : ∃ x, b[k]? = some x := ⟨_, List.getElem?_eq_getElem (by have := HNL.out; omega)⟩
      obtain ⟨c0, c1, c2, c3, c4⟩ := H.out.cells hx
      have hnx : cnt (b.take (k + 1)) = m + if x then 1 else 0 := by
        obtain ⟨p1, q1⟩ := List.getElem?_eq_some_iff.1 hx
        rw [List.take_succ_eq_append_getElem p1, q1, cnt_snoc, hm.out]
      have HX := Lib.hid hnx
      clear hx hnx hm c0 c1 c2 c3
      have k1 : (k : Int) < (n : Int) := by omega
      cases x with
      | true =>
        go_wp2
        exact ⟨⟨k + 1, m + 1, by omega, by go_num, by go_num, HX.out.symm, (by repeat (first | exact Xt.Nw.refl _ | refine Xt.Nw.drew ?_ | refine Xt.Nw.drewN ?_ _ | refine Xt.Nw.alloc ?_ _ | refine Xt.Nw.joined ?_ | refine Xt.Nw.drewd ?_ | refine Xt.Nw.drewdN ?_ | refine Xt.Nw.ext ?_ | refine Xt.Nw.ext_some ?_ (by assumption) | refine Xt.Nw.setCell ?_ (by simp [go_sem] <;> omega) _))⟩, by simp [intOf]; omega⟩
      | false =>
        go_wp2
        exact ⟨⟨k + 1, m, by omega, by go_num, by go_num, HX.out.symm, (by repeat (first | exact Xt.Nw.refl _ | refine Xt.Nw.drew ?_ | refine Xt.Nw.drewN ?_ _ | refine Xt.Nw.alloc ?_ _ | refine Xt.Nw.joined ?_ | refine Xt.Nw.drewd ?_ | refine Xt.Nw.drewdN ?_ | refine Xt.Nw.ext ?_ | refine Xt.Nw.ext_some ?_ (by assumption) | refine Xt.Nw.setCell ?_ (by simp [go_sem] <;> omega) _))⟩, by simp [intOf]; omega⟩
    · have k1 : ¬ (k : Int) < (n : Int) := by omega
      go_wp2
      go_ret
      exact ⟨by rw [hm.out, List.take_of_length_le (by have := HNL.out; omega)]; rfl, (by repeat (first | exact Xt.Nw.refl _ | refine Xt.Nw.drew ?_ | refine Xt.Nw.drewN ?_ _ | refine Xt.Nw.alloc ?_ _ | refine Xt.Nw.joined ?_ | refine Xt.Nw.drewd ?_ | refine Xt.Nw.drewdN ?_ | refine Xt.Nw.ext ?_ | refine Xt.Nw.ext_some ?_ (by assumption) | refine Xt.Nw.setCell ?_ (by simp [go_sem] <;> omega) _))⟩
end Go.Proofs.YtahagplegmcaaaaDoor
