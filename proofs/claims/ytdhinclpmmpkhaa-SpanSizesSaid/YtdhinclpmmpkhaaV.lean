import Derived.Test.YtdhinclpmmpkhaaU
namespace Go.Proofs.Ytdhinclpmmpkhaa
open Go.RowKit Go.Xt
set_option maxRecDepth 20000 in
set_option maxHeartbeats 1000000 in
theorem sz_tp (a b c d p q x y : Int) (w : World) (e1 : decide (b < a) = false) (e2 : decide (d < c) = false) (HH : Hid (∀ w, Calls Try.prog 20 #[sp a b, sp c d] w fun e w' => e = .returned (vSE (p, q, 0)) ∧ Nw w w'))
    (HM : Hid (∀ w, Calls Try.prog 18 #[sp a b, sp c d] w fun e w' => e = .returned (vSB (x, y, true)) ∧ Nw w w'))
    (HO : Hid (∀ w, Calls Try.prog 24 #[sp a b, sp c d] w fun e w' => e = .returned (.bool true) ∧ Nw w w'))
    (HA : Hid (∀ w, Calls Try.prog 12 #[sp a b] w fun e w' => e = .returned (vSize (n1 a b, n1 a b == 0, 0)) ∧ Nw w w'))
    (HB : Hid (∀ w, Calls Try.prog 12 #[sp c d] w fun e w' => e = .returned (vSize (n1 c d, n1 c d == 0, 0)) ∧ Nw w w'))
    (HZ : Hid (∀ w, Calls Try.prog 12 #[sp p q] w fun e w' => e = .returned (vSize (n1 p q, n1 p q == 0, 0)) ∧ Nw w w'))
    (HX : Hid (∀ w, Calls Try.prog 12 #[sp x y] w fun e w' => e = .returned (vSize (n1 x y, n1 x y == 0, 0)) ∧ Nw w w'))
    (f1 : (p == 0) = false)
    (t1 : a ≤ d) (t2 : c ≤ b)
    (hx : (n1 x y == 0) = false)
    (hs : IntKind.u64.wrap (n1 a b + n1 c d) = IntKind.u64.wrap (n1 p q + n1 x y))
    : Calls Try.prog 9 #[sp a b, sp c d] w fun e w' => e = .returned (.bool true) ∧ Nw w w' := by
  go_enter Try.func9, Try.ntmps9
  (go_wp2_with fail); refine (HH.out _).mono ?_; rintro e w' ⟨rfl, dW, rfl⟩
  (go_wp2_with fail); refine (HM.out _).mono ?_; rintro e w' ⟨rfl, dW, rfl⟩
  (go_wp2_with fail); refine (HO.out _).mono ?_; rintro e w' ⟨rfl, dW, rfl⟩
  (go_wp2_with fail); refine (HA.out _).mono ?_; rintro e w' ⟨rfl, dW, rfl⟩
  (go_wp2_with fail); refine (HB.out _).mono ?_; rintro e w' ⟨rfl, dW, rfl⟩
  (go_wp2_with fail); refine (HZ.out _).mono ?_; rintro e w' ⟨rfl, dW, rfl⟩
  (go_wp2_with fail); refine (HX.out _).mono ?_; rintro e w' ⟨rfl, dW, rfl⟩
  go_wp2_with (go_at_call 26; refine (known_any _).mono ?_; rintro e w' ⟨rfl, dW, rfl⟩)
  go_ret
  exact ⟨rfl, (by repeat (first | exact Xt.Nw.refl _ | refine Xt.Nw.drew ?_ | refine Xt.Nw.drewN ?_ _ | refine Xt.Nw.alloc ?_ _ | refine Xt.Nw.joined ?_ | refine Xt.Nw.drewd ?_ | refine Xt.Nw.drewdN ?_ | refine Xt.Nw.ext ?_ | refine Xt.Nw.ext_some ?_ (by assumption) | refine Xt.Nw.setCell ?_ (by simp [go_sem] <;> omega) _))⟩
set_option maxRecDepth 20000 in
set_option maxHeartbeats 1000000 in
theorem sz_kpa (a b c d p q x y : Int) (w : World) (e1 : decide (b < a) = false) (e2 : decide (d < c) = false) (HH : Hid (∀ w, Calls Try.prog 20 #[sp a b, sp c d] w fun e w' => e = .returned (vSE (p, q, 0)) ∧ Nw w w'))
    (HM : Hid (∀ w, Calls Try.prog 18 #[sp a b, sp c d] w fun e w' => e = .returned (vSB (0, 0, false)) ∧ Nw w w'))
    (HO : Hid (∀ w, Calls Try.prog 24 #[sp a b, sp c d] w fun e w' => e = .returned (.bool false) ∧ Nw w w'))
    (HA : Hid (∀ w, Calls Try.prog 12 #[sp a b] w fun e w' => e = .returned (vSize (n1 a b, n1 a b == 0, 0)) ∧ Nw w w'))
    (HB : Hid (∀ w, Calls Try.prog 12 #[sp c d] w fun e w' => e = .returned (vSize (n1 c d, n1 c d == 0, 0)) ∧ Nw w w'))
    (HZ : Hid (∀ w, Calls Try.prog 12 #[sp p q] w fun e w' => e = .returned (vSize (n1 p q, n1 p q == 0, 0)) ∧ Nw w w'))
    (HX : Hid (∀ w, Calls Try.prog 12 #[sp x y] w fun e w' => e = .returned (vSize (n1 x y, n1 x y == 0, 0)) ∧ Nw w w'))
    (f1 : (p == 0) = false)
    (t1 : decide (a ≤ d) = false)
    (g1 : (IntKind.u64.wrap (b + 1) != c) = true) (g2 : (IntKind.u64.wrap (d + 1) != a) = true)
    : Calls Try.prog 9 #[sp a b, sp c d] w fun e w' => e = .returned (.bool true) ∧ Nw w w' := by
  go_enter Try.func9, Try.ntmps9
  (go_wp2_with fail); refine (HH.out _).mono ?_; rintro e w' ⟨rfl, dW, rfl⟩
  (go_wp2_with fail); refine (HM.out _).mono ?_; rintro e w' ⟨rfl, dW, rfl⟩
  (go_wp2_with fail); refine (HO.out _).mono ?_; rintro e w' ⟨rfl, dW, rfl⟩
  go_wp2_with (go_at_call 26; refine (known_any _).mono ?_; rintro e w' ⟨rfl, dW, rfl⟩)
  go_ret
  exact ⟨rfl, (by repeat (first | exact Xt.Nw.refl _ | refine Xt.Nw.drew ?_ | refine Xt.Nw.drewN ?_ _ | refine Xt.Nw.alloc ?_ _ | refine Xt.Nw.joined ?_ | refine Xt.Nw.drewd ?_ | refine Xt.Nw.drewdN ?_ | refine Xt.Nw.ext ?_ | refine Xt.Nw.ext_some ?_ (by assumption) | refine Xt.Nw.setCell ?_ (by simp [go_sem] <;> omega) _))⟩
set_option maxRecDepth 20000 in
set_option maxHeartbeats 1000000 in
theorem sz_1pa (a b c d p q x y : Int) (w : World) (e1 : decide (b < a) = false) (e2 : decide (d < c) = false) (HH : Hid (∀ w, Calls Try.prog 20 #[sp a b, sp c d] w fun e w' => e = .returned (vSE (p, q, 0)) ∧ Nw w w'))
    (HM : Hid (∀ w, Calls Try.prog 18 #[sp a b, sp c d] w fun e w' => e = .returned (vSB (0, 0, false)) ∧ Nw w w'))
    (HO : Hid (∀ w, Calls Try.prog 24 #[sp a b, sp c d] w fun e w' => e = .returned (.bool false) ∧ Nw w w'))
    (HA : Hid (∀ w, Calls Try.prog 12 #[sp a b] w fun e w' => e = .returned (vSize (n1 a b, n1 a b == 0, 0)) ∧ Nw w w'))
    (HB : Hid (∀ w, Calls Try.prog 12 #[sp c d] w fun e w' => e = .returned (vSize (n1 c d, n1 c d == 0, 0)) ∧ Nw w w'))
    (HZ : Hid (∀ w, Calls Try.prog 12 #[sp p q] w fun e w' => e = .returned (vSize (n1 p q, n1 p q == 0, 0)) ∧ Nw w w'))
    (HX : Hid (∀ w, Calls Try.prog 12 #[sp x y] w fun e w' => e = .returned (vSize (n1 x y, n1 x y == 0, 0)) ∧ Nw w w'))
    (f1 : (p == 0) = false)
    (t1 : decide (a ≤ d) = false)
    (g1 : (IntKind.u64.wrap (b + 1) != c) = false)
    (hs : IntKind.u64.wrap (n1 a b + n1 c d) = IntKind.u64.wrap (n1 p q + 0))
    : Calls Try.prog 9 #[sp a b, sp c d] w fun e w' => e = .returned (.bool true) ∧ Nw w w' := by
  go_enter Try.func9, Try.ntmps9
  (go_wp2_with fail); refine (HH.out _).mono ?_; rintro e w' ⟨rfl, dW, rfl⟩
  (go_wp2_with fail); refine (HM.out _).mono ?_; rintro e w' ⟨rfl, dW, rfl⟩
  (go_wp2_with fail); refine (HO.out _).mono ?_; rintro e w' ⟨rfl, dW, rfl⟩
  (go_wp2_with fail); refine (HA.out _).mono ?_; rintro e w' ⟨rfl, dW, rfl⟩
  (go_wp2_with fail); refine (HB.out _).mono ?_; rintro e w' ⟨rfl, dW, rfl⟩
  (go_wp2_with fail); refine (HZ.out _).mono ?_; rintro e w' ⟨rfl, dW, rfl⟩
  go_wp2_with (go_at_call 26; refine (known_any _).mono ?_; rintro e w' ⟨rfl, dW, rfl⟩)
  go_ret
  exact ⟨rfl, (by repeat (first | exact Xt.Nw.refl _ | refine Xt.Nw.drew ?_ | refine Xt.Nw.drewN ?_ _ | refine Xt.Nw.alloc ?_ _ | refine Xt.Nw.joined ?_ | refine Xt.Nw.drewd ?_ | refine Xt.Nw.drewdN ?_ | refine Xt.Nw.ext ?_ | refine Xt.Nw.ext_some ?_ (by assumption) | refine Xt.Nw.setCell ?_ (by simp [go_sem] <;> omega) _))⟩
set_option maxRecDepth 20000 in
set_option maxHeartbeats 1000000 in
theorem sz_2pa (a b c d p q x y : Int) (w : World) (e1 : decide (b < a) = false) (e2 : decide (d < c) = false) (HH : Hid (∀ w, Calls Try.prog 20 #[sp a b, sp c d] w fun e w' => e = .returned (vSE (p, q, 0)) ∧ Nw w w'))
    (HM : Hid (∀ w, Calls Try.prog 18 #[sp a b, sp c d] w fun e w' => e = .returned (vSB (0, 0, false)) ∧ Nw w w'))
    (HO : Hid (∀ w, Calls Try.prog 24 #[sp a b, sp c d] w fun e w' => e = .returned (.bool false) ∧ Nw w w'))
    (HA : Hid (∀ w, Calls Try.prog 12 #[sp a b] w fun e w' => e = .returned (vSize (n1 a b, n1 a b == 0, 0)) ∧ Nw w w'))
    (HB : Hid (∀ w, Calls Try.prog 12 #[sp c d] w fun e w' => e = .returned (vSize (n1 c d, n1 c d == 0, 0)) ∧ Nw w w'))
    (HZ : Hid (∀ w, Calls Try.prog 12 #[sp p q] w fun e w' => e = .returned (vSize (n1 p q, n1 p q == 0, 0)) ∧ Nw w w'))
    (HX : Hid (∀ w, Calls Try.prog 12 #[sp x y] w fun e w' => e = .returned (vSize (n1 x y, n1 x y == 0, 0)) ∧ Nw w w'))
    (f1 : (p == 0) = false)
    (t1 : decide (a ≤ d) = false)
    (g1 : (IntKind.u64.wrap (b + 1) != c) = true) (g2 : (IntKind.u64.wrap (d + 1) != a) = false)
    (hs : IntKind.u64.wrap (n1 a b + n1 c d) = IntKind.u64.wrap (n1 p q + 0))
    : Calls Try.prog 9 #[sp a b, sp c d] w fun e w' => e = .returned (.bool true) ∧ Nw w w' := by
  go_enter Try.func9, Try.ntmps9
  (go_wp2_with fail); refine (HH.out _).mono ?_; rintro e w' ⟨rfl, dW, rfl⟩
  (go_wp2_with fail); refine (HM.out _).mono ?_; rintro e w' ⟨rfl, dW, rfl⟩
  (go_wp2_with fail); refine (HO.out _).mono ?_; rintro e w' ⟨rfl, dW, rfl⟩
  (go_wp2_with fail); refine (HA.out _).mono ?_; rintro e w' ⟨rfl, dW, rfl⟩
  (go_wp2_with fail); refine (HB.out _).mono ?_; rintro e w' ⟨rfl, dW, rfl⟩
  (go_wp2_with fail); refine (HZ.out _).mono ?_; rintro e w' ⟨rfl, dW, rfl⟩
  go_wp2_with (go_at_call 26; refine (known_any _).mono ?_; rintro e w' ⟨rfl, dW, rfl⟩)
  go_ret
  exact ⟨rfl, (by repeat (first | exact Xt.Nw.refl _ | refine Xt.Nw.drew ?_ | refine Xt.Nw.drewN ?_ _ | refine Xt.Nw.alloc ?_ _ | refine Xt.Nw.joined ?_ | refine Xt.Nw.drewd ?_ | refine Xt.Nw.drewdN ?_ | refine Xt.Nw.ext ?_ | refine Xt.Nw.ext_some ?_ (by assumption) | refine Xt.Nw.setCell ?_ (by simp [go_sem] <;> omega) _))⟩
set_option maxRecDepth 20000 in
set_option maxHeartbeats 1000000 in
theorem sz_kpb (a b c d p q x y : Int) (w : World) (e1 : decide (b < a) = false) (e2 : decide (d < c) = false) (HH : Hid (∀ w, Calls Try.prog 20 #[sp a b, sp c d] w fun e w' => e = .returned (vSE (p, q, 0)) ∧ Nw w w'))
    (HM : Hid (∀ w, Calls Try.prog 18 #[sp a b, sp c d] w fun e w' => e = .returned (vSB (0, 0, false)) ∧ Nw w w'))
    (HO : Hid (∀ w, Calls Try.prog 24 #[sp a b, sp c d] w fun e w' => e = .returned (.bool false) ∧ Nw w w'))
    (HA : Hid (∀ w, Calls Try.prog 12 #[sp a b] w fun e w' => e = .returned (vSize (n1 a b, n1 a b == 0, 0)) ∧ Nw w w'))
    (HB : Hid (∀ w, Calls Try.prog 12 #[sp c d] w fun e w' => e = .returned (vSize (n1 c d, n1 c d == 0, 0)) ∧ Nw w w'))
    (HZ : Hid (∀ w, Calls Try.prog 12 #[sp p q] w fun e w' => e = .returned (vSize (n1 p q, n1 p q == 0, 0)) ∧ Nw w w'))
    (HX : Hid (∀ w, Calls Try.prog 12 #[sp x y] w fun e w' => e = .returned (vSize (n1 x y, n1 x y == 0, 0)) ∧ Nw w w'))
    (f1 : (p == 0) = false)
    (t1 : a ≤ d) (t2 : decide (c ≤ b) = false)
    (g1 : (IntKind.u64.wrap (b + 1) != c) = true) (g2 : (IntKind.u64.wrap (d + 1) != a) = true)
    : Calls Try.prog 9 #[sp a b, sp c d] w fun e w' => e = .returned (.bool true) ∧ Nw w w' := by
  go_enter Try.func9, Try.ntmps9
  (go_wp2_with fail); refine (HH.out _).mono ?_; rintro e w' ⟨rfl, dW, rfl⟩
  (go_wp2_with fail); refine (HM.out _).mono ?_; rintro e w' ⟨rfl, dW, rfl⟩
  (go_wp2_with fail); refine (HO.out _).mono ?_; rintro e w' ⟨rfl, dW, rfl⟩
  go_wp2_with (go_at_call 26; refine (known_any _).mono ?_; rintro e w' ⟨rfl, dW, rfl⟩)
  go_ret
  exact ⟨rfl, (by repeat (first | exact Xt.Nw.refl _ | refine Xt.Nw.drew ?_ | refine Xt.Nw.drewN ?_ _ | refine Xt.Nw.alloc ?_ _ | refine Xt.Nw.joined ?_ | refine Xt.Nw.drewd ?_ | refine Xt.Nw.drewdN ?_ | refine Xt.Nw.ext ?_ | refine Xt.Nw.ext_some ?_ (by assumption) | refine Xt.Nw.setCell ?_ (by simp [go_sem] <;> omega) _))⟩
set_option maxRecDepth 20000 in
set_option maxHeartbeats 1000000 in
theorem sz_1pb (a b c d p q x y : Int) (w : World) (e1 : decide (b < a) = false) (e2 : decide (d < c) = false) (HH : Hid (∀ w, Calls Try.prog 20 #[sp a b, sp c d] w fun e w' => e = .returned (vSE (p, q, 0)) ∧ Nw w w'))
    (HM : Hid (∀ w, Calls Try.prog 18 #[sp a b, sp c d] w fun e w' => e = .returned (vSB (0, 0, false)) ∧ Nw w w'))
    (HO : Hid (∀ w, Calls Try.prog 24 #[sp a b, sp c d] w fun e w' => e = .returned (.bool false) ∧ Nw w w'))
    (HA : Hid (∀ w, Calls Try.prog 12 #[sp a b] w fun e w' => e = .returned (vSize (n1 a b, n1 a b == 0, 0)) ∧ Nw w w'))
    (HB : Hid (∀ w, Calls Try.prog 12 #[sp c d] w fun e w' => e = .returned (vSize (n1 c d, n1 c d == 0, 0)) ∧ Nw w w'))
    (HZ : Hid (∀ w, Calls Try.prog 12 #[sp p q] w fun e w' => e = .returned (vSize (n1 p q, n1 p q == 0, 0)) ∧ Nw w w'))
    (HX : Hid (∀ w, Calls Try.prog 12 #[sp x y] w fun e w' => e = .returned (vSize (n1 x y, n1 x y == 0, 0)) ∧ Nw w w'))
    (f1 : (p == 0) = false)
    (t1 : a ≤ d) (t2 : decide (c ≤ b) = false)
    (g1 : (IntKind.u64.wrap (b + 1) != c) = false)
    (hs : IntKind.u64.wrap (n1 a b + n1 c d) = IntKind.u64.wrap (n1 p q + 0))
    : Calls Try.prog 9 #[sp a b, sp c d] w fun e w' => e = .returned (.bool true) ∧ Nw w w' := by
  go_enter Try.func9, Try.ntmps9
  (go_wp2_with fail); refine (HH.out _).mono ?_; rintro e w' ⟨rfl, dW, rfl⟩
  (go_wp2_with fail); refine (HM.out _).mono ?_; rintro e w' ⟨rfl, dW, rfl⟩
  (go_wp2_with fail); refine (HO.out _).mono ?_; rintro e w' ⟨rfl, dW, rfl⟩
  (go_wp2_with fail); refine (HA.out _).mono ?_; rintro e w' ⟨rfl, dW, rfl⟩
  (go_wp2_with fail); refine (HB.out _).mono ?_; rintro e w' ⟨rfl, dW, rfl⟩
  (go_wp2_with fail); refine (HZ.out _).mono ?_; rintro e w' ⟨rfl, dW, rfl⟩
  go_wp2_with (go_at_call 26; refine (known_any _).mono ?_; rintro e w' ⟨rfl, dW, rfl⟩)
  go_ret
  exact ⟨rfl, (by repeat (first | exact Xt.Nw.refl _ | refine Xt.Nw.drew ?_ | refine Xt.Nw.drewN ?_ _ | refine Xt.Nw.alloc ?_ _ | refine Xt.Nw.joined ?_ | refine Xt.Nw.drewd ?_ | refine Xt.Nw.drewdN ?_ | refine Xt.Nw.ext ?_ | refine Xt.Nw.ext_some ?_ (by assumption) | refine Xt.Nw.setCell ?_ (by simp [go_sem] <;> omega) _))⟩
set_option maxRecDepth 20000 in
set_option maxHeartbeats 1000000 in
theorem sz_2pb (a b c d p q x y : Int) (w : World) (e1 : decide (b < a) = false) (e2 : decide (d < c) = false) (HH : Hid (∀ w, Calls Try.prog 20 #[sp a b, sp c d] w fun e w' => e = .returned (vSE (p, q, 0)) ∧ Nw w w'))
    (HM : Hid (∀ w, Calls Try.prog 18 #[sp a b, sp c d] w fun e w' => e = .returned (vSB (0, 0, false)) ∧ Nw w w'))
    (HO : Hid (∀ w, Calls Try.prog 24 #[sp a b, sp c d] w fun e w' => e = .returned (.bool false) ∧ Nw w w'))
    (HA : Hid (∀ w, Calls Try.prog 12 #[sp a b] w fun e w' => e = .returned (vSize (n1 a b, n1 a b == 0, 0)) ∧ Nw w w'))
    (HB : Hid (∀ w, Calls Try.prog 12 #[sp c d] w fun e w' => e = .returned (vSize (n1 c d, n1 c d == 0, 0)) ∧ Nw w w'))
    (HZ : Hid (∀ w, Calls Try.prog 12 #[sp p q] w fun e w' => e = .returned (vSize (n1 p q, n1 p q == 0, 0)) ∧ Nw w w'))
    (HX : Hid (∀ w, Calls Try.prog 12 #[sp x y] w fun e w' => e = .returned (vSize (n1 x y, n1 x y == 0, 0)) ∧ Nw w w'))
    (f1 : (p == 0) = false)
    (t1 : a ≤ d) (t2 : decide (c ≤ b) = false)
    (g1 : (IntKind.u64.wrap (b + 1) != c) = true) (g2 : (IntKind.u64.wrap (d + 1) != a) = false)
    (hs : IntKind.u64.wrap (n1 a b + n1 c d) = IntKind.u64.wrap (n1 p q + 0))
    : Calls Try.prog 9 #[sp a b, sp c d] w fun e w' => e = .returned (.bool true) ∧ Nw w w' := by
  go_enter Try.func9, Try.ntmps9
  (go_wp2_with fail); refine (HH.out _).mono ?_; rintro e w' ⟨rfl, dW, rfl⟩
  (go_wp2_with fail); refine (HM.out _).mono ?_; rintro e w' ⟨rfl, dW, rfl⟩
  (go_wp2_with fail); refine (HO.out _).mono ?_; rintro e w' ⟨rfl, dW, rfl⟩
  (go_wp2_with fail); refine (HA.out _).mono ?_; rintro e w' ⟨rfl, dW, rfl⟩
  (go_wp2_with fail); refine (HB.out _).mono ?_; rintro e w' ⟨rfl, dW, rfl⟩
  (go_wp2_with fail); refine (HZ.out _).mono ?_; rintro e w' ⟨rfl, dW, rfl⟩
  go_wp2_with (go_at_call 26; refine (known_any _).mono ?_; rintro e w' ⟨rfl, dW, rfl⟩)
  go_ret
  exact ⟨rfl, (by repeat (first | exact Xt.Nw.refl _ | refine Xt.Nw.drew ?_ | refine Xt.Nw.drewN ?_ _ | refine Xt.Nw.alloc ?_ _ | refine Xt.Nw.joined ?_ | refine Xt.Nw.drewd ?_ | refine Xt.Nw.drewdN ?_ | refine Xt.Nw.ext ?_ | refine Xt.Nw.ext_some ?_ (by assumption) | refine Xt.Nw.setCell ?_ (by simp [go_sem] <;> omega) _))⟩
end Go.Proofs.Ytdhinclpmmpkhaa
