import Derived.Test.YtdhinclpmmpkhaaR
namespace Go.Proofs.Ytdhinclpmmpkhaa
open Go.RowKit Go.Xt
theorem meet_tuple (a b c d : Int) (h1 : a ≤ b) (h2 : c ≤ d) :
    (¬ (a ≤ d ∧ c ≤ b) ∧ meetF a b c d = (0, 0, false)) ∨ ((a ≤ d ∧ c ≤ b) ∧ ∃ p q, meetF a b c d = (p, q, true) ∧ p ≤ q ∧ (p = a ∨ p = c) ∧ a ≤ p ∧ c ≤ p ∧ (q = b ∨ q = d) ∧ q ≤ b ∧ q ≤ d) := by
  have hx : (mx a c = a ∨ mx a c = c) ∧ a ≤ mx a c ∧ c ≤ mx a c := by unfold mx; split <;> omega
  have hn : (mn b d = b ∨ mn b d = d) ∧ mn b d ≤ b ∧ mn b d ≤ d := by unfold mn; split <;> omega
  unfold meetF
  by_cases h : mn b d < mx a c
  · left; rw [if_pos h]
    exact ⟨by omega, rfl⟩
  · right; rw [if_neg h]
    exact ⟨by omega, mx a c, mn b d, rfl, by omega, hx.1, hx.2.1, hx.2.2, hn⟩
theorem hull_tuple (a b c d : Int) (h1 : a ≤ b) (h2 : c ≤ d) :
    ∃ p q, hullF a b c d = (p, q, 0) ∧ p ≤ q ∧ (p = a ∨ p = c) ∧ p ≤ a ∧ p ≤ c ∧ (q = b ∨ q = d) ∧ b ≤ q ∧ d ≤ q := by
  have hx : (mx b d = b ∨ mx b d = d) ∧ b ≤ mx b d ∧ d ≤ mx b d := by unfold mx; split <;> omega
  have hn : (mn a c = a ∨ mn a c = c) ∧ mn a c ≤ a ∧ mn a c ≤ c := by unfold mn; split <;> omega
  unfold hullF
  rw [if_neg (by omega)]
  exact ⟨mn a c, mx b d, rfl, by omega, hn.1, hn.2.1, hn.2.2, hx⟩
theorem n1_eq (lo hi : Int) : n1 lo hi = (hi - lo + 1) % 18446744073709551616 := by
  unfold n1; rw [IntKind.wrap_u64, IntKind.wrap_u64, Int.emod_add_emod]
theorem sum_touch (a b c d p q x y : Int)
    (h : (p = a ∨ p = c) ∧ p ≤ a ∧ p ≤ c ∧ (q = b ∨ q = d) ∧ b ≤ q ∧ d ≤ q) (h' : (x = a ∨ x = c) ∧ a ≤ x ∧ c ≤ x ∧ (y = b ∨ y = d) ∧ y ≤ b ∧ y ≤ d) :
    IntKind.u64.wrap (n1 a b + n1 c d) = IntKind.u64.wrap (n1 p q + n1 x y) := by
  rw [IntKind.wrap_u64, IntKind.wrap_u64, n1_eq, n1_eq, n1_eq, n1_eq, ← Int.add_emod, ← Int.add_emod]
  congr 1
  omega
theorem sum_next (a b c d p q : Int) (ha : 0 ≤ a) (hab : a ≤ b) (hb : b ≤ 18446744073709551615) (hc : 0 ≤ c) (hcd : c ≤ d) (hd : d ≤ 18446744073709551615)
    (hf : ¬ (p = 0 ∧ q = 18446744073709551615)) (hn : ¬ (a ≤ d ∧ c ≤ b))
    (h : (p = a ∨ p = c) ∧ p ≤ a ∧ p ≤ c ∧ (q = b ∨ q = d) ∧ b ≤ q ∧ d ≤ q) (hw : (b + 1) % 18446744073709551616 = c ∨ (d + 1) % 18446744073709551616 = a) :
    IntKind.u64.wrap (n1 a b + n1 c d) = IntKind.u64.wrap (n1 p q + 0) := by
  have e : (b - a + 1) + (d - c + 1) = q - p + 1 := by
    rcases hw with hw | hw
    · by_cases hbm : b = 18446744073709551615
      · subst hbm; simp at hw; omega
      · rw [Int.emod_eq_of_lt (by omega) (by omega)] at hw; omega
    · by_cases hbm : d = 18446744073709551615
      · subst hbm; simp at hw; omega
      · rw [Int.emod_eq_of_lt (by omega) (by omega)] at hw; omega
  rw [Int.add_zero, IntKind.wrap_u64, IntKind.wrap_u64, n1_eq, n1_eq, n1_eq, ← Int.add_emod, e, Int.emod_emod]
set_option maxRecDepth 20000 in
set_option maxHeartbeats 1000000 in
theorem sz_full_t (a b c d p q x y : Int) (w : World) (e1 : decide (b < a) = false) (e2 : decide (d < c) = false) (HH : Hid (∀ w, Calls Try.prog 20 #[sp a b, sp c d] w fun e w' => e = .returned (vSE (p, q, 0)) ∧ Nw w w'))
    (HM : Hid (∀ w, Calls Try.prog 18 #[sp a b, sp c d] w fun e w' => e = .returned (vSB (x, y, true)) ∧ Nw w w'))
    (HO : Hid (∀ w, Calls Try.prog 24 #[sp a b, sp c d] w fun e w' => e = .returned (.bool true) ∧ Nw w w'))
    (HA : Hid (∀ w, Calls Try.prog 12 #[sp a b] w fun e w' => e = .returned (vSize (n1 a b, n1 a b == 0, 0)) ∧ Nw w w'))
    (HB : Hid (∀ w, Calls Try.prog 12 #[sp c d] w fun e w' => e = .returned (vSize (n1 c d, n1 c d == 0, 0)) ∧ Nw w w'))
    (HZ : Hid (∀ w, Calls Try.prog 12 #[sp p q] w fun e w' => e = .returned (vSize (n1 p q, n1 p q == 0, 0)) ∧ Nw w w'))
    (HX : Hid (∀ w, Calls Try.prog 12 #[sp x y] w fun e w' => e = .returned (vSize (n1 x y, n1 x y == 0, 0)) ∧ Nw w w'))
    (f1 : p = 0) (f2 : q = 18446744073709551615)
    (t1 : a ≤ d) (t2 : c ≤ b)
    : Calls Try.prog 9 #[sp a b, sp c d] w fun e w' => e = .returned (.bool true) ∧ Nw w w' := by
  go_enter Try.func9, Try.ntmps9
  subst f1
  (go_wp2_with fail); refine (HH.out _).mono ?_; rintro e w' ⟨rfl, dW, rfl⟩
  (go_wp2_with fail); refine (HM.out _).mono ?_; rintro e w' ⟨rfl, dW, rfl⟩
  (go_wp2_with fail); refine (HO.out _).mono ?_; rintro e w' ⟨rfl, dW, rfl⟩
  go_wp2_with (go_at_call 26; refine (known_any _).mono ?_; rintro e w' ⟨rfl, dW, rfl⟩)
  go_ret
  exact ⟨rfl, (by repeat (first | exact Xt.Nw.refl _ | refine Xt.Nw.drew ?_ | refine Xt.Nw.drewN ?_ _ | refine Xt.Nw.alloc ?_ _ | refine Xt.Nw.joined ?_ | refine Xt.Nw.drewd ?_ | refine Xt.Nw.drewdN ?_ | refine Xt.Nw.ext ?_ | refine Xt.Nw.ext_some ?_ (by assumption) | refine Xt.Nw.setCell ?_ (by simp [go_sem] <;> omega) _))⟩
set_option maxRecDepth 20000 in
set_option maxHeartbeats 1000000 in
theorem sz_full_na (a b c d p q x y : Int) (w : World) (e1 : decide (b < a) = false) (e2 : decide (d < c) = false) (HH : Hid (∀ w, Calls Try.prog 20 #[sp a b, sp c d] w fun e w' => e = .returned (vSE (p, q, 0)) ∧ Nw w w'))
    (HM : Hid (∀ w, Calls Try.prog 18 #[sp a b, sp c d] w fun e w' => e = .returned (vSB (0, 0, false)) ∧ Nw w w'))
    (HO : Hid (∀ w, Calls Try.prog 24 #[sp a b, sp c d] w fun e w' => e = .returned (.bool false) ∧ Nw w w'))
    (HA : Hid (∀ w, Calls Try.prog 12 #[sp a b] w fun e w' => e = .returned (vSize (n1 a b, n1 a b == 0, 0)) ∧ Nw w w'))
    (HB : Hid (∀ w, Calls Try.prog 12 #[sp c d] w fun e w' => e = .returned (vSize (n1 c d, n1 c d == 0, 0)) ∧ Nw w w'))
    (HZ : Hid (∀ w, Calls Try.prog 12 #[sp p q] w fun e w' => e = .returned (vSize (n1 p q, n1 p q == 0, 0)) ∧ Nw w w'))
    (HX : Hid (∀ w, Calls Try.prog 12 #[sp x y] w fun e w' => e = .returned (vSize (n1 x y, n1 x y == 0, 0)) ∧ Nw w w'))
    (f1 : p = 0) (f2 : q = 18446744073709551615)
    (t1 : decide (a ≤ d) = false)
    : Calls Try.prog 9 #[sp a b, sp c d] w fun e w' => e = .returned (.bool true) ∧ Nw w w' := by
  go_enter Try.func9, Try.ntmps9
  subst f1
  (go_wp2_with fail); refine (HH.out _).mono ?_; rintro e w' ⟨rfl, dW, rfl⟩
  (go_wp2_with fail); refine (HM.out _).mono ?_; rintro e w' ⟨rfl, dW, rfl⟩
  (go_wp2_with fail); refine (HO.out _).mono ?_; rintro e w' ⟨rfl, dW, rfl⟩
  go_wp2_with (go_at_call 26; refine (known_any _).mono ?_; rintro e w' ⟨rfl, dW, rfl⟩)
  go_ret
  exact ⟨rfl, (by repeat (first | exact Xt.Nw.refl _ | refine Xt.Nw.drew ?_ | refine Xt.Nw.drewN ?_ _ | refine Xt.Nw.alloc ?_ _ | refine Xt.Nw.joined ?_ | refine Xt.Nw.drewd ?_ | refine Xt.Nw.drewdN ?_ | refine Xt.Nw.ext ?_ | refine Xt.Nw.ext_some ?_ (by assumption) | refine Xt.Nw.setCell ?_ (by simp [go_sem] <;> omega) _))⟩
set_option maxRecDepth 20000 in
set_option maxHeartbeats 1000000 in
theorem sz_full_nb (a b c d p q x y : Int) (w : World) (e1 : decide (b < a) = false) (e2 : decide (d < c) = false) (HH : Hid (∀ w, Calls Try.prog 20 #[sp a b, sp c d] w fun e w' => e = .returned (vSE (p, q, 0)) ∧ Nw w w'))
    (HM : Hid (∀ w, Calls Try.prog 18 #[sp a b, sp c d] w fun e w' => e = .returned (vSB (0, 0, false)) ∧ Nw w w'))
    (HO : Hid (∀ w, Calls Try.prog 24 #[sp a b, sp c d] w fun e w' => e = .returned (.bool false) ∧ Nw w w'))
    (HA : Hid (∀ w, Calls Try.prog 12 #[sp a b] w fun e w' => e = .returned (vSize (n1 a b, n1 a b == 0, 0)) ∧ Nw w w'))
    (HB : Hid (∀ w, Calls Try.prog 12 #[sp c d] w fun e w' => e = .returned (vSize (n1 c d, n1 c d == 0, 0)) ∧ Nw w w'))
    (HZ : Hid (∀ w, Calls Try.prog 12 #[sp p q] w fun e w' => e = .returned (vSize (n1 p q, n1 p q == 0, 0)) ∧ Nw w w'))
    (HX : Hid (∀ w, Calls Try.prog 12 #[sp x y] w fun e w' => e = .returned (vSize (n1 x y, n1 x y == 0, 0)) ∧ Nw w w'))
    (f1 : p = 0) (f2 : q = 18446744073709551615)
    (t1 : a ≤ d) (t2 : decide (c ≤ b) = false)
    : Calls Try.prog 9 #[sp a b, sp c d] w fun e w' => e = .returned (.bool true) ∧ Nw w w' := by
  go_enter Try.func9, Try.ntmps9
  subst f1
  (go_wp2_with fail); refine (HH.out _).mono ?_; rintro e w' ⟨rfl, dW, rfl⟩
  (go_wp2_with fail); refine (HM.out _).mono ?_; rintro e w' ⟨rfl, dW, rfl⟩
  (go_wp2_with fail); refine (HO.out _).mono ?_; rintro e w' ⟨rfl, dW, rfl⟩
  go_wp2_with (go_at_call 26; refine (known_any _).mono ?_; rintro e w' ⟨rfl, dW, rfl⟩)
  go_ret
  exact ⟨rfl, (by repeat (first | exact Xt.Nw.refl _ | refine Xt.Nw.drew ?_ | refine Xt.Nw.drewN ?_ _ | refine Xt.Nw.alloc ?_ _ | refine Xt.Nw.joined ?_ | refine Xt.Nw.drewd ?_ | refine Xt.Nw.drewdN ?_ | refine Xt.Nw.ext ?_ | refine Xt.Nw.ext_some ?_ (by assumption) | refine Xt.Nw.setCell ?_ (by simp [go_sem] <;> omega) _))⟩
end Go.Proofs.Ytdhinclpmmpkhaa
