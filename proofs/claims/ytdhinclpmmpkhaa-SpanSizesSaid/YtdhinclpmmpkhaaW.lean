import Derived.Test.YtdhinclpmmpkhaaV
namespace Go.Proofs.Ytdhinclpmmpkhaa
open Go.RowKit Go.Xt
set_option maxRecDepth 20000 in
set_option maxHeartbeats 1000000 in
theorem sz_tq (a b c d p q x y : Int) (w : World) (e1 : decide (b < a) = false) (e2 : decide (d < c) = false) (HH : Hid (∀ w, Calls Try.prog 20 #[sp a b, sp c d] w fun e w' => e = .returned (vSE (p, q, 0)) ∧ Nw w w'))
    (HM : Hid (∀ w, Calls Try.prog 18 #[sp a b, sp c d] w fun e w' => e = .returned (vSB (x, y, true)) ∧ Nw w w'))
    (HO : Hid (∀ w, Calls Try.prog 24 #[sp a b, sp c d] w fun e w' => e = .returned (.bool true) ∧ Nw w w'))
    (HA : Hid (∀ w, Calls Try.prog 12 #[sp a b] w fun e w' => e = .returned (vSize (n1 a b, n1 a b == 0, 0)) ∧ Nw w w'))
    (HB : Hid (∀ w, Calls Try.prog 12 #[sp c d] w fun e w' => e = .returned (vSize (n1 c d, n1 c d == 0, 0)) ∧ Nw w w'))
    (HZ : Hid (∀ w, Calls Try.prog 12 #[sp p q] w fun e w' => e = .returned (vSize (n1 p q, n1 p q == 0, 0)) ∧ Nw w w'))
    (HX : Hid (∀ w, Calls Try.prog 12 #[sp x y] w fun e w' => e = .returned (vSize (n1 x y, n1 x y == 0, 0)) ∧ Nw w w'))
    (f1 : p = 0) (f2 : (q == 18446744073709551615) = false)
    (t1 : a ≤ d) (t2 : c ≤ b)
    (hx : (n1 x y == 0) = false)
    (hs : IntKind.u64.wrap (n1 a b + n1 c d) = IntKind.u64.wrap (n1 p q + n1 x y))
    : Calls Try.prog 9 #[sp a b, sp c d] w fun e w' => e = .returned (.bool true) ∧ Nw w w' := by
  go_enter Try.func9, Try.ntmps9
  subst f1
  (go_wp2_with fail); refine (HH.out _).mono ?_; rintro e w' ⟨rfl, dW, rfl⟩
  (go_wp2_with fail); refine (HM.out _).mono ?_; rintro e w' ⟨rfl, dW, rfl⟩
  (go_wp2_with fail); refine (HO.out _).mono ?_; rintro e w' ⟨rfl, dW, rfl⟩
  (go_wp2_with fail); refine (HA.out _).mono ?_; rintro e w' ⟨rfl, dW, rfl⟩
  (go_wp2_with fail); refine (HB.out _).mono ?_; rintro e w' ⟨rfl, dW, rfl⟩
  (go_wp2_with fail); refine (HZ.out _).mono ?_; rintro e w' ⟨rfl, dW, rfl⟩
  (go_wp2_with fail); refine (HX.out _).mono ?_; rintro e w' ⟨rfl, dW, rfl⟩
  go_wp2_with (go_at_call 26; refine (known_any _).mono ?_; rintro e w' ⟨rfl, dW, rfl⟩)
  go_ret
  exact ⟨rfl, (by repeat (first | exact Xt.Nw.refl _ | refine Xt.Nw.drew ?_ | refine Xt.Nw.drewN ?_ _ | refine Xt.Nw.alloc ?_ _ | refine Xt.Nw.joined ?_ | refine Xt.Nw.drewd ?_ | refine Xt.Nw.drewdN ?_ | refine Xt.Nw.ext ?_ | refine Xt.Nw.ext_some ?_ (by assumption) | refine Xt.Nw.setCell ?_ (by simp [go_sem] <;> omega) _))⟩
set_option maxRecDepth 20000 in
set_option maxHeartbeats 1000000 in
theorem sz_kqa (a b c d p q x y : Int) (w : World) (e1 : decide (b < a) = false) (e2 : decide (d < c) = false) (HH : Hid (∀ w, Calls Try.prog 20 #[sp a b, sp c d] w fun e w' => e = .returned (vSE (p, q, 0)) ∧ Nw w w'))
    (HM : Hid (∀ w, Calls Try.prog 18 #[sp a b, sp c d] w fun e w' => e = .returned (vSB (0, 0, false)) ∧ Nw w w'))
    (HO : Hid (∀ w, Calls Try.prog 24 #[sp a b, sp c d] w fun e w' => e = .returned (.bool false) ∧ Nw w w'))
    (HA : Hid (∀ w, Calls Try.prog 12 #[sp a b] w fun e w' => e = .returned (vSize (n1 a b, n1 a b == 0, 0)) ∧ Nw w w'))
    (HB : Hid (∀ w, Calls Try.prog 12 #[sp c d] w fun e w' => e = .returned (vSize (n1 c d, n1 c d == 0, 0)) ∧ Nw w w'))
    (HZ : Hid (∀ w, Calls Try.prog 12 #[sp p q] w fun e w' => e = .returned (vSize (n1 p q, n1 p q == 0, 0)) ∧ Nw w w'))
    (HX : Hid (∀ w, Calls Try.prog 12 #[sp x y] w fun e w' => e = .returned (vSize (n1 x y, n1 x y == 0, 0)) ∧ Nw w w'))
    (f1 : p = 0) (f2 : (q == 18446744073709551615) = false)
    (t1 : decide (a ≤ d) = false)
    (g1 : (IntKind.u64.wrap (b + 1) != c) = true) (g2 : (IntKind.u64.wrap (d + 1) != a) = true)
    : Calls Try.prog 9 #[sp a b, sp c d] w fun e w' => e = .returned (.bool true) ∧ Nw w w' := by
  go_enter Try.func9, Try.ntmps9
  subst f1
  (go_wp2_with fail); refine (HH.out _).mono ?_; rintro e w' ⟨rfl, dW, rfl⟩
  (go_wp2_with fail); refine (HM.out _).mono ?_; rintro e w' ⟨rfl, dW, rfl⟩
  (go_wp2_with fail); refine (HO.out _).mono ?_; rintro e w' ⟨rfl, dW, rfl⟩
  go_wp2_with (go_at_call 26; refine (known_any _).mono ?_; rintro e w' ⟨rfl, dW, rfl⟩)
  go_ret
  exact ⟨rfl, (by repeat (first | exact Xt.Nw.refl _ | refine Xt.Nw.drew ?_ | refine Xt.Nw.drewN ?_ _ | refine Xt.Nw.alloc ?_ _ | refine Xt.Nw.joined ?_ | refine Xt.Nw.drewd ?_ | refine Xt.Nw.drewdN ?_ | refine Xt.Nw.ext ?_ | refine Xt.Nw.ext_some ?_ (by assumption) | refine Xt.Nw.setCell ?_ (by simp [go_sem] <;> omega) _))⟩
set_option maxRecDepth 20000 in
set_option maxHeartbeats 1000000 in
theorem sz_1qa (a b c d p q x y : Int) (w : World) (e1 : decide (b < a) = false) (e2 : decide (d < c) = false) (HH : Hid (∀ w, Calls Try.prog 20 #[sp a b, sp c d] w fun e w' => e = .returned (vSE (p, q, 0)) ∧ Nw w w'))
    (HM : Hid (∀ w, Calls Try.prog 18 #[sp a b, sp c d] w fun e w' => e = .returned (vSB (0, 0, false)) ∧ Nw w w'))
    (HO : Hid (∀ w, Calls Try.prog 24 #[sp a b, sp c d] w fun e w' => e = .returned (.bool false) ∧ Nw w w'))
    (HA : Hid (∀ w, Calls Try.prog 12 #[sp a b] w fun e w' => e = .returned (vSize (n1 a b, n1 a b == 0, 0)) ∧ Nw w w'))
    (HB : Hid (∀ w, Calls Try.prog 12 #[sp c d] w fun e w' => e = .returned (vSize (n1 c d, n1 c d == 0, 0)) ∧ Nw w w'))
    (HZ : Hid (∀ w, Calls Try.prog 12 #[sp p q] w fun e w' => e = .returned (vSize (n1 p q, n1 p q == 0, 0)) ∧ Nw w w'))
    (HX : Hid (∀ w, Calls Try.prog 12 #[sp x y] w fun e w' => e = .returned (vSize (n1 x y, n1 x y == 0, 0)) ∧ Nw w w'))
    (f1 : p = 0) (f2 : (q == 18446744073709551615) = false)
    (t1 : decide (a ≤ d) = false)
    (g1 : (IntKind.u64.wrap (b + 1) != c) = false)
    (hs : IntKind.u64.wrap (n1 a b + n1 c d) = IntKind.u64.wrap (n1 p q + 0))
    : Calls Try.prog 9 #[sp a b, sp c d] w fun e w' => e = .returned (.bool true) ∧ Nw w w' := by
  go_enter Try.func9, Try.ntmps9
  subst f1
  (go_wp2_with fail); refine (HH.out _).mono ?_; rintro e w' ⟨rfl, dW, rfl⟩
  (go_wp2_with fail); refine (HM.out _).mono ?_; rintro e w' ⟨rfl, dW, rfl⟩
  (go_wp2_with fail); refine (HO.out _).mono ?_; rintro e w' ⟨rfl, dW, rfl⟩
  (go_wp2_with fail); refine (HA.out _).mono ?_; rintro e w' ⟨rfl, dW, rfl⟩
  (go_wp2_with fail); refine (HB.out _).mono ?_; rintro e w' ⟨rfl, dW, rfl⟩
  (go_wp2_with fail); refine (HZ.out _).mono ?_; rintro e w' ⟨rfl, dW, rfl⟩
  go_wp2_with (go_at_call 26; refine (known_any _).mono ?_; rintro e w' ⟨rfl, dW, rfl⟩)
  go_ret
  exact ⟨rfl, (by repeat (first | exact Xt.Nw.refl _ | refine Xt.Nw.drew ?_ | refine Xt.Nw.drewN ?_ _ | refine Xt.Nw.alloc ?_ _ | refine Xt.Nw.joined ?_ | refine Xt.Nw.drewd ?_ | refine Xt.Nw.drewdN ?_ | refine Xt.Nw.ext ?_ | refine Xt.Nw.ext_some ?_ (by assumption) | refine Xt.Nw.setCell ?_ (by simp [go_sem] <;> omega) _))⟩
set_option maxRecDepth 20000 in
set_option maxHeartbeats 1000000 in
theorem sz_2qa (a b c d p q x y : Int) (w : World) (e1 : decide (b < a) = false) (e2 : decide (d < c) = false) (HH : Hid (∀ w, Calls Try.prog 20 #[sp a b, sp c d] w fun e w' => e = .returned (vSE (p, q, 0)) ∧ Nw w w'))
    (HM : Hid (∀ w, Calls Try.prog 18 #[sp a b, sp c d] w fun e w' => e = .returned (vSB (0, 0, false)) ∧ Nw w w'))
    (HO : Hid (∀ w, Calls Try.prog 24 #[sp a b, sp c d] w fun e w' => e = .returned (.bool false) ∧ Nw w w'))
    (HA : Hid (∀ w, Calls Try.prog 12 #[sp a b] w fun e w' => e = .returned (vSize (n1 a b, n1 a b == 0, 0)) ∧ Nw w w'))
    (HB : Hid (∀ w, Calls Try.prog 12 #[sp c d] w fun e w' => e = .returned (vSize (n1 c d, n1 c d == 0, 0)) ∧ Nw w w'))
    (HZ : Hid (∀ w, Calls Try.prog 12 #[sp p q] w fun e w' => e = .returned (vSize (n1 p q, n1 p q == 0, 0)) ∧ Nw w w'))
    (HX : Hid (∀ w, Calls Try.prog 12 #[sp x y] w fun e w' => e = .returned (vSize (n1 x y, n1 x y == 0, 0)) ∧ Nw w w'))
    (f1 : p = 0) (f2 : (q == 18446744073709551615) = false)
    (t1 : decide (a ≤ d) = false)
    (g1 : (IntKind.u64.wrap (b + 1) != c) = true) (g2 : (IntKind.u64.wrap (d + 1) != a) = false)
    (hs : IntKind.u64.wrap (n1 a b + n1 c d) = IntKind.u64.wrap (n1 p q + 0))
    : Calls Try.prog 9 #[sp a b, sp c d] w fun e w' => e = .returned (.bool true) ∧ Nw w w' := by
  go_enter Try.func9, Try.ntmps9
  subst f1
  (go_wp2_with fail); refine (HH.out _).mono ?_; rintro e w' ⟨rfl, dW, rfl⟩
  (go_wp2_with fail); refine (HM.out _).mono ?_; rintro e w' ⟨rfl, dW, rfl⟩
  (go_wp2_with fail); refine (HO.out _).mono ?_; rintro e w' ⟨rfl, dW, rfl⟩
  (go_wp2_with fail); refine (HA.out _).mono ?_; rintro e w' ⟨rfl, dW, rfl⟩
  (go_wp2_with fail); refine (HB.out _).mono ?_; rintro e w' ⟨rfl, dW, rfl⟩
  (go_wp2_with fail); refine (HZ.out _).mono ?_; rintro e w' ⟨rfl, dW, rfl⟩
  go_wp2_with (go_at_call 26; refine (known_any _).mono ?_; rintro e w' ⟨rfl, dW, rfl⟩)
  go_ret
  exact ⟨rfl, (by repeat (first | exact Xt.Nw.refl _ | refine Xt.Nw.drew ?_ | refine Xt.Nw.drewN ?_ _ | refine Xt.Nw.alloc ?_ _ | refine Xt.Nw.joined ?_ | refine Xt.Nw.drewd ?_ | refine Xt.Nw.drewdN ?_ | refine Xt.Nw.ext ?_ | refine Xt.Nw.ext_some ?_ (by assumption) | refine Xt.Nw.setCell ?_ (by simp [go_sem] <;> omega) _))⟩
set_option maxRecDepth 20000 in
set_option maxHeartbeats 1000000 in
theorem sz_kqb (a b c d p q x y : Int) (w : World) (e1 : decide (b < a) = false) (e2 : decide (d < c) = false) (HH : Hid (∀ w, Calls Try.prog 20 #[sp a b, sp c d] w fun e w' => e = .returned (vSE (p, q, 0)) ∧ Nw w w'))
    (HM : Hid (∀ w, Calls Try.prog 18 #[sp a b, sp c d] w fun e w' => e = .returned (vSB (0, 0, false)) ∧ Nw w w'))
    (HO : Hid (∀ w, Calls Try.prog 24 #[sp a b, sp c d] w fun e w' => e = .returned (.bool false) ∧ Nw w w'))
    (HA : Hid (∀ w, Calls Try.prog 12 #[sp a b] w fun e w' => e = .returned (vSize (n1 a b, n1 a b == 0, 0)) ∧ Nw w w'))
    (HB : Hid (∀ w, Calls Try.prog 12 #[sp c d] w fun e w' => e = .returned (vSize (n1 c d, n1 c d == 0, 0)) ∧ Nw w w'))
    (HZ : Hid (∀ w, Calls Try.prog 12 #[sp p q] w fun e w' => e = .returned (vSize (n1 p q, n1 p q == 0, 0)) ∧ Nw w w'))
    (HX : Hid (∀ w, Calls Try.prog 12 #[sp x y] w fun e w' => e = .returned (vSize (n1 x y, n1 x y == 0, 0)) ∧ Nw w w'))
    (f1 : p = 0) (f2 : (q == 18446744073709551615) = false)
    (t1 : a ≤ d) (t2 : decide (c ≤ b) = false)
    (g1 : (IntKind.u64.wrap (b + 1) != c) = true) (g2 : (IntKind.u64.wrap (d + 1) != a) = true)
    : Calls Try.prog 9 #[sp a b, sp c d] w fun e w' => e = .returned (.bool true) ∧ Nw w w' := by
  go_enter Try.func9, Try.ntmps9
  subst f1
  (go_wp2_with fail); refine (HH.out _).mono ?_; rintro e w' ⟨rfl, dW, rfl⟩
  (go_wp2_with fail); refine (HM.out _).mono ?_; rintro e w' ⟨rfl, dW, rfl⟩
  (go_wp2_with fail); refine (HO.out _).mono ?_; rintro e w' ⟨rfl, dW, rfl⟩
  go_wp2_with (go_at_call 26; refine (known_any _).mono ?_; rintro e w' ⟨rfl, dW, rfl⟩)
  go_ret
  exact ⟨rfl, (by repeat (first | exact Xt.Nw.refl _ | refine Xt.Nw.drew ?_ | refine Xt.Nw.drewN ?_ _ | refine Xt.Nw.alloc ?_ _ | refine Xt.Nw.joined ?_ | refine Xt.Nw.drewd ?_ | refine Xt.Nw.drewdN ?_ | refine Xt.Nw.ext ?_ | refine Xt.Nw.ext_some ?_ (by assumption) | refine Xt.Nw.setCell ?_ (by simp [go_sem] <;> omega) _))⟩
set_option maxRecDepth 20000 in
set_option maxHeartbeats 1000000 in
theorem sz_1qb (a b c d p q x y : Int) (w : World) (e1 : decide (b < a) = false) (e2 : decide (d < c) = false) (HH : Hid (∀ w, Calls Try.prog 20 #[sp a b, sp c d] w fun e w' => e = .returned (vSE (p, q, 0)) ∧ Nw w w'))
    (HM : Hid (∀ w, Calls Try.prog 18 #[sp a b, sp c d] w fun e w' => e = .returned (vSB (0, 0, false)) ∧ Nw w w'))
    (HO : Hid (∀ w, Calls Try.prog 24 #[sp a b, sp c d] w fun e w' => e = .returned (.bool false) ∧ Nw w w'))
    (HA : Hid (∀ w, Calls Try.prog 12 #[sp a b] w fun e w' => e = .returned (vSize (n1 a b, n1 a b == 0, 0)) ∧ Nw w w'))
    (HB : Hid (∀ w, Calls Try.prog 12 #[sp c d] w fun e w' => e = .returned (vSize (n1 c d, n1 c d == 0, 0)) ∧ Nw w w'))
    (HZ : Hid (∀ w, Calls Try.prog 12 #[sp p q] w fun e w' => e = .returned (vSize (n1 p q, n1 p q == 0, 0)) ∧ Nw w w'))
    (HX : Hid (∀ w, Calls Try.prog 12 #[sp x y] w fun e w' => e = .returned (vSize (n1 x y, n1 x y == 0, 0)) ∧ Nw w w'))
    (f1 : p = 0) (f2 : (q == 18446744073709551615) = false)
    (t1 : a ≤ d) (t2 : decide (c ≤ b) = false)
    (g1 : (IntKind.u64.wrap (b + 1) != c) = false)
    (hs : IntKind.u64.wrap (n1 a b + n1 c d) = IntKind.u64.wrap (n1 p q + 0))
    : Calls Try.prog 9 #[sp a b, sp c d] w fun e w' => e = .returned (.bool true) ∧ Nw w w' := by
  go_enter Try.func9, Try.ntmps9
  subst f1
  (go_wp2_with fail); refine (HH.out _).mono ?_; rintro e w' ⟨rfl, dW, rfl⟩
  (go_wp2_with fail); refine (HM.out _).mono ?_; rintro e w' ⟨rfl, dW, rfl⟩
  (go_wp2_with fail); refine (HO.out _).mono ?_; rintro e w' ⟨rfl, dW, rfl⟩
  (go_wp2_with fail); refine (HA.out _).mono ?_; rintro e w' ⟨rfl, dW, rfl⟩
  (go_wp2_with fail); refine (HB.out _).mono ?_; rintro e w' ⟨rfl, dW, rfl⟩
  (go_wp2_with fail); refine (HZ.out _).mono ?_; rintro e w' ⟨rfl, dW, rfl⟩
  go_wp2_with (go_at_call 26; refine (known_any _).mono ?_; rintro e w' ⟨rfl, dW, rfl⟩)
  go_ret
  exact ⟨rfl, (by repeat (first | exact Xt.Nw.refl _ | refine Xt.Nw.drew ?_ | refine Xt.Nw.drewN ?_ _ | refine Xt.Nw.alloc ?_ _ | refine Xt.Nw.joined ?_ | refine Xt.Nw.drewd ?_ | refine Xt.Nw.drewdN ?_ | refine Xt.Nw.ext ?_ | refine Xt.Nw.ext_some ?_ (by assumption) | refine Xt.Nw.setCell ?_ (by simp [go_sem] <;> omega) _))⟩
set_option maxRecDepth 20000 in
set_option maxHeartbeats 1000000 in
theorem sz_2qb (a b c d p q x y : Int) (w : World) (e1 : decide (b < a) = false) (e2 : decide (d < c) = false) (HH : Hid (∀ w, Calls Try.prog 20 #[sp a b, sp c d] w fun e w' => e = .returned (vSE (p, q, 0)) ∧ Nw w w'))
    (HM : Hid (∀ w, Calls Try.prog 18 #[sp a b, sp c d] w fun e w' => e = .returned (vSB (0, 0, false)) ∧ Nw w w'))
    (HO : Hid (∀ w, Calls Try.prog 24 #[sp a b, sp c d] w fun e w' => e = .returned (.bool false) ∧ Nw w w'))
    (HA : Hid (∀ w, Calls Try.prog 12 #[sp a b] w fun e w' => e = .returned (vSize (n1 a b, n1 a b == 0, 0)) ∧ Nw w w'))
    (HB : Hid (∀ w, Calls Try.prog 12 #[sp c d] w fun e w' => e = .returned (vSize (n1 c d, n1 c d == 0, 0)) ∧ Nw w w'))
    (HZ : Hid (∀ w, Calls Try.prog 12 #[sp p q] w fun e w' => e = .returned (vSize (n1 p q, n1 p q == 0, 0)) ∧ Nw w w'))
    (HX : Hid (∀ w, Calls Try.prog 12 #[sp x y] w fun e w' => e = .returned (vSize (n1 x y, n1 x y == 0, 0)) ∧ Nw w w'))
    (f1 : p = 0) (f2 : (q == 18446744073709551615) = false)
    (t1 : a ≤ d) (t2 : decide (c ≤ b) = false)
    (g1 : (IntKind.u64.wrap (b + 1) != c) = true) (g2 : (IntKind.u64.wrap (d + 1) != a) = false)
    (hs : IntKind.u64.wrap (n1 a b + n1 c d) = IntKind.u64.wrap (n1 p q + 0))
    : Calls Try.prog 9 #[sp a b, sp c d] w fun e w' => e = .returned (.bool true) ∧ Nw w w' := by
  go_enter Try.func9, Try.ntmps9
  subst f1
  (go_wp2_with fail); refine (HH.out _).mono ?_; rintro e w' ⟨rfl, dW, rfl⟩
  (go_wp2_with fail); refine (HM.out _).mono ?_; rintro e w' ⟨rfl, dW, rfl⟩
  (go_wp2_with fail); refine (HO.out _).mono ?_; rintro e w' ⟨rfl, dW, rfl⟩
  (go_wp2_with fail); refine (HA.out _).mono ?_; rintro e w' ⟨rfl, dW, rfl⟩
  (go_wp2_with fail); refine (HB.out _).mono ?_; rintro e w' ⟨rfl, dW, rfl⟩
  (go_wp2_with fail); refine (HZ.out _).mono ?_; rintro e w' ⟨rfl, dW, rfl⟩
  go_wp2_with (go_at_call 26; refine (known_any _).mono ?_; rintro e w' ⟨rfl, dW, rfl⟩)
  go_ret
  exact ⟨rfl, (by repeat (first | exact Xt.Nw.refl _ | refine Xt.Nw.drew ?_ | refine Xt.Nw.drewN ?_ _ | refine Xt.Nw.alloc ?_ _ | refine Xt.Nw.joined ?_ | refine Xt.Nw.drewd ?_ | refine Xt.Nw.drewdN ?_ | refine Xt.Nw.ext ?_ | refine Xt.Nw.ext_some ?_ (by assumption) | refine Xt.Nw.setCell ?_ (by simp [go_sem] <;> omega) _))⟩
set_option maxHeartbeats 1000000 in
theorem sizes_any (a b c d : Int) (w : World) (ha : 0 ≤ a) (hb : 0 ≤ b) (hb' : b ≤ 18446744073709551615) (hc : 0 ≤ c) (hd : 0 ≤ d) (hd' : d ≤ 18446744073709551615) :
    Calls Try.prog 9 #[sp a b, sp c d] w fun e w' => e = .returned (.bool true) ∧ Nw w w' := by
  by_cases h1 : b < a
  · clear ha hb hb' hc hd hd'
    go_enter Try.func9, Try.ntmps9
    go_wp2_with (go_at_call 26; refine (known_any _).mono ?_; rintro e w' ⟨rfl, dW, rfl⟩)
    go_ret
    exact ⟨rfl, (by repeat (first | exact Xt.Nw.refl _ | refine Xt.Nw.drew ?_ | refine Xt.Nw.drewN ?_ _ | refine Xt.Nw.alloc ?_ _ | refine Xt.Nw.joined ?_ | refine Xt.Nw.drewd ?_ | refine Xt.Nw.drewdN ?_ | refine Xt.Nw.ext ?_ | refine Xt.Nw.ext_some ?_ (by assumption) | refine Xt.Nw.setCell ?_ (by simp [go_sem] <;> omega) _))⟩
  by_cases h2 : d < c
  · clear ha hb hb' hc hd hd'
    have e1 : decide (b < a) = false := by simp; omega
    go_enter Try.func9, Try.ntmps9
    go_wp2_with (go_at_call 26; refine (known_any _).mono ?_; rintro e w' ⟨rfl, dW, rfl⟩)
    go_ret
    exact ⟨rfl, (by repeat (first | exact Xt.Nw.refl _ | refine Xt.Nw.drew ?_ | refine Xt.Nw.drewN ?_ _ | refine Xt.Nw.alloc ?_ _ | refine Xt.Nw.joined ?_ | refine Xt.Nw.drewd ?_ | refine Xt.Nw.drewdN ?_ | refine Xt.Nw.ext ?_ | refine Xt.Nw.ext_some ?_ (by assumption) | refine Xt.Nw.setCell ?_ (by simp [go_sem] <;> omega) _))⟩
  have e1 : decide (b < a) = false := by simp; omega
  have e2 : decide (d < c) = false := by simp; omega
  have h1' : a ≤ b := by omega
  have h2' : c ≤ d := by omega
  obtain ⟨p, q, hh, k1, k2⟩ := hull_tuple a b c d h1' h2'
  have HH := fun w => hull_any a b c d w
  rw [hh] at HH
  have HM := fun w => meet_any a b c d w
  have HO := fun w => overlap_any a b c d w
  have HA := fun w => size_ok a b w h1'
  have HB := fun w => size_ok c d w h2'
  have HZ := fun w => size_ok p q w k1
  rcases meet_tuple a b c d h1' h2' with ⟨m1, m2⟩ | ⟨⟨m1, m1'⟩, x, y, m2, m3, m4⟩
  · rw [m2] at HM HO
    have HX := fun w => size_ok 0 0 w (by omega)
    have hab : decide (a ≤ d) = false ∨ a ≤ d ∧ decide (c ≤ b) = false := by
      by_cases h : a ≤ d
      · exact .inr ⟨h, by simp; exact Int.not_le.1 fun h' => m1 ⟨h, h'⟩⟩
      · exact .inl (by simp; omega)
    by_cases hp : p = 0
    · by_cases hq : q = 18446744073709551615
      · rcases hab with h | ⟨h, h'⟩
        · exact sz_full_na a b c d p q 0 0 w e1 e2 HH HM HO HA HB HZ HX hp hq h
        · exact sz_full_nb a b c d p q 0 0 w e1 e2 HH HM HO HA HB HZ HX hp hq h h'
      · have f2 : (q == 18446744073709551615) = false := by simpa using hq
        by_cases g1 : IntKind.u64.wrap (b + 1) = c
        · have hs := sum_next a b c d p q ha h1' hb' hc h2' hd' (fun h => hq h.2) m1 k2 (.inl (by rw [← IntKind.wrap_u64]; exact g1))
          have g1' : (IntKind.u64.wrap (b + 1) != c) = false := by simpa using g1
          rcases hab with h | ⟨h, h'⟩
          · exact sz_1qa a b c d p q 0 0 w e1 e2 HH HM HO HA HB HZ HX hp f2 h g1' hs
          · exact sz_1qb a b c d p q 0 0 w e1 e2 HH HM HO HA HB HZ HX hp f2 h h' g1' hs
        · have g1' : (IntKind.u64.wrap (b + 1) != c) = true := by simpa using g1
          by_cases g2 : IntKind.u64.wrap (d + 1) = a
          · have hs := sum_next a b c d p q ha h1' hb' hc h2' hd' (fun h => hq h.2) m1 k2 (.inr (by rw [← IntKind.wrap_u64]; exact g2))
            have g2' : (IntKind.u64.wrap (d + 1) != a) = false := by simpa using g2
            rcases hab with h | ⟨h, h'⟩
            · exact sz_2qa a b c d p q 0 0 w e1 e2 HH HM HO HA HB HZ HX hp f2 h g1' g2' hs
            · exact sz_2qb a b c d p q 0 0 w e1 e2 HH HM HO HA HB HZ HX hp f2 h h' g1' g2' hs
          · have g2' : (IntKind.u64.wrap (d + 1) != a) = true := by simpa using g2
            rcases hab with h | ⟨h, h'⟩
            · exact sz_kqa a b c d p q 0 0 w e1 e2 HH HM HO HA HB HZ HX hp f2 h g1' g2'
            · exact sz_kqb a b c d p q 0 0 w e1 e2 HH HM HO HA HB HZ HX hp f2 h h' g1' g2'
    · have f1 : (p == 0) = false := by simpa using hp
      by_cases g1 : IntKind.u64.wrap (b + 1) = c
      · have hs := sum_next a b c d p q ha h1' hb' hc h2' hd' (fun h => hp h.1) m1 k2 (.inl (by rw [← IntKind.wrap_u64]; exact g1))
        have g1' : (IntKind.u64.wrap (b + 1) != c) = false := by simpa using g1
        rcases hab with h | ⟨h, h'⟩
        · exact sz_1pa a b c d p q 0 0 w e1 e2 HH HM HO HA HB HZ HX f1 h g1' hs
        · exact sz_1pb a b c d p q 0 0 w e1 e2 HH HM HO HA HB HZ HX f1 h h' g1' hs
      · have g1' : (IntKind.u64.wrap (b + 1) != c) = true := by simpa using g1
        by_cases g2 : IntKind.u64.wrap (d + 1) = a
        · have hs := sum_next a b c d p q ha h1' hb' hc h2' hd' (fun h => hp h.1) m1 k2 (.inr (by rw [← IntKind.wrap_u64]; exact g2))
          have g2' : (IntKind.u64.wrap (d + 1) != a) = false := by simpa using g2
          rcases hab with h | ⟨h, h'⟩
          · exact sz_2pa a b c d p q 0 0 w e1 e2 HH HM HO HA HB HZ HX f1 h g1' g2' hs
          · exact sz_2pb a b c d p q 0 0 w e1 e2 HH HM HO HA HB HZ HX f1 h h' g1' g2' hs
        · have g2' : (IntKind.u64.wrap (d + 1) != a) = true := by simpa using g2
          rcases hab with h | ⟨h, h'⟩
          · exact sz_kpa a b c d p q 0 0 w e1 e2 HH HM HO HA HB HZ HX f1 h g1' g2'
          · exact sz_kpb a b c d p q 0 0 w e1 e2 HH HM HO HA HB HZ HX f1 h h' g1' g2'
  · rw [m2] at HM HO
    have HX := fun w => size_ok x y w m3
    have hs := sum_touch a b c d p q x y k2 m4
    by_cases hf : p = 0 ∧ q = 18446744073709551615
    · exact sz_full_t a b c d p q x y w e1 e2 HH HM HO HA HB HZ HX hf.1 hf.2 m1 m1'
    · have hx0 : (n1 x y == 0) = false := by
        rw [beq_eq_false_iff_ne, n1_eq, Int.emod_eq_of_lt (by omega) (by omega)]; omega
      by_cases hp : p = 0
      · have f2 : (q == 18446744073709551615) = false := by simpa using fun h => hf ⟨hp, h⟩
        exact sz_tq a b c d p q x y w e1 e2 HH HM HO HA HB HZ HX hp f2 m1 m1' hx0 hs
      · have f1 : (p == 0) = false := by simpa using hp
        exact sz_tp a b c d p q x y w e1 e2 HH HM HO HA HB HZ HX f1 m1 m1' hx0 hs
end Go.Proofs.Ytdhinclpmmpkhaa
