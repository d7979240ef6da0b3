import Derived.Test.YtdhinclpmmpkhaaM
import Derived.Test.YtdhinclpmmpkhaaP
namespace Go.Proofs.Ytdhinclpmmpkhaa
open Go.RowKit Go.Xt
theorem shift_cases (a b n : Int) : shiftF a b n = (0, 0, 13) ∨ shiftF a b n = (0, 0, 12) ∨ (a ≤ b ∧ b + n ≤ 18446744073709551615 ∧ shiftF a b n = (a + n, b + n, 0)) := by
  unfold shiftF
  by_cases h : b < a
  · left; rw [if_pos h]
  · by_cases h' : 18446744073709551615 - b < n
    · right; left; rw [if_neg h, if_pos h']
    · right; right; rw [if_neg h, if_neg h']; exact ⟨by omega, by omega, rfl⟩
theorem n1_shift (a b n : Int) : n1 (a + n) (b + n) = n1 a b := by
  unfold n1; rw [show b + n - (a + n) = b - a by omega]
theorem meet_shift (a b c d n : Int) (h1 : a ≤ b) (h2 : c ≤ d) : (meetF a b c d = (0, 0, false) ∧ meetF (a + n) (b + n) (c + n) (d + n) = (0, 0, false)) ∨ ∃ p q, meetF a b c d = (p, q, true) ∧ meetF (a + n) (b + n) (c + n) (d + n) = (p + n, q + n, true) ∧ a ≤ p ∧ p ≤ q ∧ q ≤ b := by
  have e1 : mx (a + n) (c + n) = mx a c + n := by unfold mx; (repeat' split) <;> omega
  have e2 : mn (b + n) (d + n) = mn b d + n := by unfold mn; (repeat' split) <;> omega
  unfold meetF
  rw [e1, e2]
  by_cases h : mn b d < mx a c
  · left; rw [if_pos h, if_pos (by omega)]; exact ⟨rfl, rfl⟩
  · right; rw [if_neg h, if_neg (by omega)]
    exact ⟨_, _, rfl, rfl, by unfold mx; split <;> omega, by omega, by unfold mn; split <;> omega⟩
theorem size_ok (lo hi : Int) (w : World) (h : lo ≤ hi) :
    Calls Try.prog 12 #[sp lo hi] w fun e w' => e = .returned (vSize (n1 lo hi, n1 lo hi == 0, 0)) ∧ Nw w w' := by
  have h1 := size_any lo hi w
  rw [sizeF, if_neg (by omega)] at h1
  exact h1
theorem shift_ok (a b n : Int) (w : World) (ha : 0 ≤ a) (hb : a ≤ b) (hn : 0 ≤ n) (hb' : b + n ≤ 18446744073709551615) :
    Calls Try.prog 22 #[sp a b, .int .u64 n] w fun e w' => e = .returned (vSE (a + n, b + n, 0)) ∧ Nw w w' := by
  have h1 := shift_any a b n w ha (by omega) (by omega) hn
  rw [shiftF, if_neg (by omega), if_neg (by omega)] at h1
  exact h1
set_option maxRecDepth 20000 in
set_option maxHeartbeats 1000000 in
theorem shifts_any (a b c d x y : Int) (w : World) (ha : 0 ≤ a) (hb : 0 ≤ b) (hb' : b ≤ 18446744073709551615) (hc : 0 ≤ c) (hd : 0 ≤ d) (hd' : d ≤ 18446744073709551615) (hx : 0 ≤ x) (hy : 0 ≤ y) (hx' : x ≤ 18446744073709551615) (hy' : y ≤ 18446744073709551615) :
    Calls Try.prog 8 #[sp a b, sp c d, .agg #[.int .u64 x, .int .u64 y]] w fun e w' => e = .returned (.bool true) ∧ Nw w w' := by
  have hsy : IntKind.u64.wrap (18446744073709551615 - y) = 18446744073709551615 - y := by rw [IntKind.wrap_u64]; omega
  by_cases hov : 18446744073709551615 - y < x
  · clear ha hb hb' hc hd hd'
    go_enter Try.func8, Try.ntmps8
    go_wp2_with ((go_at_call 26; refine (known_any _).mono ?_; rintro e w' ⟨rfl, dW, rfl⟩))
    go_ret
    exact ⟨rfl, (by repeat (first | exact Xt.Nw.refl _ | refine Xt.Nw.drew ?_ | refine Xt.Nw.drewN ?_ _ | refine Xt.Nw.alloc ?_ _ | refine Xt.Nw.joined ?_ | refine Xt.Nw.drewd ?_ | refine Xt.Nw.drewdN ?_ | refine Xt.Nw.ext ?_ | refine Xt.Nw.ext_some ?_ (by assumption) | refine Xt.Nw.setCell ?_ (by simp [go_sem] <;> omega) _))⟩
  · have hov' : decide (18446744073709551615 - y < x) = false := by simp; omega
    have hxy : IntKind.u64.wrap (x + y) = x + y := by rw [IntKind.wrap_u64]; omega
    have hs1 := fun w => shift_any a b (x + y) w ha hb hb' (by omega)
    have hs2 := fun w => shift_any c d (x + y) w hc hd hd' (by omega)
    rcases shift_cases a b (x + y) with h1 | h1 | ⟨h1, h2, h3⟩
    · rw [h1] at hs1
      have HS1 := Lib.hid hs1
      have HS2 := Lib.hid hs2
      clear hs1 hs2 ha hb hb' hc hd hd' hx hy hx' hy' hov h1
      go_enter Try.func8, Try.ntmps8
      (go_wp2_with fail); refine (HS1.out _).mono ?_; rintro e w' ⟨rfl, dW, rfl⟩
      (go_wp2_with fail); refine (HS2.out _).mono ?_; rintro e w' ⟨rfl, dW, rfl⟩
      go_wp2_with (go_at_call 26; refine (known_any _).mono ?_; rintro e w' ⟨rfl, dW, rfl⟩)
      go_ret
      exact ⟨rfl, (by repeat (first | exact Xt.Nw.refl _ | refine Xt.Nw.drew ?_ | refine Xt.Nw.drewN ?_ _ | refine Xt.Nw.alloc ?_ _ | refine Xt.Nw.joined ?_ | refine Xt.Nw.drewd ?_ | refine Xt.Nw.drewdN ?_ | refine Xt.Nw.ext ?_ | refine Xt.Nw.ext_some ?_ (by assumption) | refine Xt.Nw.setCell ?_ (by simp [go_sem] <;> omega) _))⟩
    · rw [h1] at hs1
      have HS1 := Lib.hid hs1
      have HS2 := Lib.hid hs2
      clear hs1 hs2 ha hb hb' hc hd hd' hx hy hx' hy' hov h1
      go_enter Try.func8, Try.ntmps8
      (go_wp2_with fail); refine (HS1.out _).mono ?_; rintro e w' ⟨rfl, dW, rfl⟩
      (go_wp2_with fail); refine (HS2.out _).mono ?_; rintro e w' ⟨rfl, dW, rfl⟩
      go_wp2_with (go_at_call 26; refine (known_any _).mono ?_; rintro e w' ⟨rfl, dW, rfl⟩)
      go_ret
      exact ⟨rfl, (by repeat (first | exact Xt.Nw.refl _ | refine Xt.Nw.drew ?_ | refine Xt.Nw.drewN ?_ _ | refine Xt.Nw.alloc ?_ _ | refine Xt.Nw.joined ?_ | refine Xt.Nw.drewd ?_ | refine Xt.Nw.drewdN ?_ | refine Xt.Nw.ext ?_ | refine Xt.Nw.ext_some ?_ (by assumption) | refine Xt.Nw.setCell ?_ (by simp [go_sem] <;> omega) _))⟩
    · rcases shift_cases c d (x + y) with g1 | g1 | ⟨g1, g2, g3⟩
      · rw [h3] at hs1; rw [g1] at hs2
        have HS1 := Lib.hid hs1
        have HS2 := Lib.hid hs2
        clear hs1 hs2 ha hb hb' hc hd hd' hx hy hx' hy' hov h1 h2 h3 g1
        go_enter Try.func8, Try.ntmps8
        (go_wp2_with fail); refine (HS1.out _).mono ?_; rintro e w' ⟨rfl, dW, rfl⟩
        (go_wp2_with fail); refine (HS2.out _).mono ?_; rintro e w' ⟨rfl, dW, rfl⟩
        go_wp2_with (go_at_call 26; refine (known_any _).mono ?_; rintro e w' ⟨rfl, dW, rfl⟩)
        go_ret
        exact ⟨rfl, (by repeat (first | exact Xt.Nw.refl _ | refine Xt.Nw.drew ?_ | refine Xt.Nw.drewN ?_ _ | refine Xt.Nw.alloc ?_ _ | refine Xt.Nw.joined ?_ | refine Xt.Nw.drewd ?_ | refine Xt.Nw.drewdN ?_ | refine Xt.Nw.ext ?_ | refine Xt.Nw.ext_some ?_ (by assumption) | refine Xt.Nw.setCell ?_ (by simp [go_sem] <;> omega) _))⟩
      · rw [h3] at hs1; rw [g1] at hs2
        have HS1 := Lib.hid hs1
        have HS2 := Lib.hid hs2
        clear hs1 hs2 ha hb hb' hc hd hd' hx hy hx' hy' hov h1 h2 h3 g1
        go_enter Try.func8, Try.ntmps8
        (go_wp2_with fail); refine (HS1.out _).mono ?_; rintro e w' ⟨rfl, dW, rfl⟩
        (go_wp2_with fail); refine (HS2.out _).mono ?_; rintro e w' ⟨rfl, dW, rfl⟩
        go_wp2_with (go_at_call 26; refine (known_any _).mono ?_; rintro e w' ⟨rfl, dW, rfl⟩)
        go_ret
        exact ⟨rfl, (by repeat (first | exact Xt.Nw.refl _ | refine Xt.Nw.drew ?_ | refine Xt.Nw.drewN ?_ _ | refine Xt.Nw.alloc ?_ _ | refine Xt.Nw.joined ?_ | refine Xt.Nw.drewd ?_ | refine Xt.Nw.drewdN ?_ | refine Xt.Nw.ext ?_ | refine Xt.Nw.ext_some ?_ (by assumption) | refine Xt.Nw.setCell ?_ (by simp [go_sem] <;> omega) _))⟩
      · rw [h3] at hs1; rw [g3] at hs2
        have HS1 := Lib.hid hs1
        have HS2 := Lib.hid hs2
        have HS3 := Lib.hid fun w => shift_ok a b x w ha h1 hx (by omega)
        have hs4 := fun w => shift_ok (a + x) (b + x) y w (by omega) (by omega) hy (by omega)
        rw [Int.add_assoc, Int.add_assoc] at hs4
        have HS4 := Lib.hid hs4
        have HZ1 := Lib.hid fun w => size_ok a b w h1
        have hz2 := fun w => size_ok (a + (x + y)) (b + (x + y)) w (by omega)
        rw [n1_shift] at hz2
        have HZ2 := Lib.hid hz2
        rcases meet_shift a b c d (x + y) h1 g1 with ⟨k1, k2⟩ | ⟨p, q, k1, k2, k3, k4, k5⟩
        · have hm1 := fun w => meet_any a b c d w
          have hm2 := fun w => meet_any (a + (x + y)) (b + (x + y)) (c + (x + y)) (d + (x + y)) w
          rw [k1] at hm1
          rw [k2] at hm2
          have HM1 := Lib.hid hm1
          have HM2 := Lib.hid hm2
          clear hm1 hm2 k1 k2 hs1 hs2 hs4 hz2 ha hb hb' hc hd hd' hx hy hx' hy' hov h1 h2 h3 g1 g2 g3
          go_enter Try.func8, Try.ntmps8
          (go_wp2_with fail); refine (HS1.out _).mono ?_; rintro e w' ⟨rfl, dW, rfl⟩
          (go_wp2_with fail); refine (HS2.out _).mono ?_; rintro e w' ⟨rfl, dW, rfl⟩
          (go_wp2_with fail); refine (HS3.out _).mono ?_; rintro e w' ⟨rfl, dW, rfl⟩
          (go_wp2_with fail); refine (HS4.out _).mono ?_; rintro e w' ⟨rfl, dW, rfl⟩
          (go_wp2_with fail); refine (HZ1.out _).mono ?_; rintro e w' ⟨rfl, dW, rfl⟩
          (go_wp2_with fail); refine (HZ2.out _).mono ?_; rintro e w' ⟨rfl, dW, rfl⟩
          (go_wp2_with fail); refine (HM1.out _).mono ?_; rintro e w' ⟨rfl, dW, rfl⟩
          (go_wp2_with fail); refine (HM2.out _).mono ?_; rintro e w' ⟨rfl, dW, rfl⟩
          go_wp2_with (go_at_call 26; refine (known_any _).mono ?_; rintro e w' ⟨rfl, dW, rfl⟩)
          go_ret
          exact ⟨rfl, (by repeat (first | exact Xt.Nw.refl _ | refine Xt.Nw.drew ?_ | refine Xt.Nw.drewN ?_ _ | refine Xt.Nw.alloc ?_ _ | refine Xt.Nw.joined ?_ | refine Xt.Nw.drewd ?_ | refine Xt.Nw.drewdN ?_ | refine Xt.Nw.ext ?_ | refine Xt.Nw.ext_some ?_ (by assumption) | refine Xt.Nw.setCell ?_ (by simp [go_sem] <;> omega) _))⟩
        · have hm1 := fun w => meet_any a b c d w
          have hm2 := fun w => meet_any (a + (x + y)) (b + (x + y)) (c + (x + y)) (d + (x + y)) w
          rw [k1] at hm1
          rw [k2] at hm2
          have HM1 := Lib.hid hm1
          have HM2 := Lib.hid hm2
          have hw1 : IntKind.u64.wrap (p + (x + y) - p) = x + y := by rw [IntKind.wrap_u64]; omega
          have hw2 : IntKind.u64.wrap (q + (x + y) - q) = x + y := by rw [IntKind.wrap_u64]; omega
          clear hm1 hm2 k1 k2 hs1 hs2 hs4 hz2 ha hb hb' hc hd hd' hx hy hx' hy' hov h1 h2 h3 g1 g2 g3
          go_enter Try.func8, Try.ntmps8
          (go_wp2_with fail); refine (HS1.out _).mono ?_; rintro e w' ⟨rfl, dW, rfl⟩
          (go_wp2_with fail); refine (HS2.out _).mono ?_; rintro e w' ⟨rfl, dW, rfl⟩
          (go_wp2_with fail); refine (HS3.out _).mono ?_; rintro e w' ⟨rfl, dW, rfl⟩
          (go_wp2_with fail); refine (HS4.out _).mono ?_; rintro e w' ⟨rfl, dW, rfl⟩
          (go_wp2_with fail); refine (HZ1.out _).mono ?_; rintro e w' ⟨rfl, dW, rfl⟩
          (go_wp2_with fail); refine (HZ2.out _).mono ?_; rintro e w' ⟨rfl, dW, rfl⟩
          (go_wp2_with fail); refine (HM1.out _).mono ?_; rintro e w' ⟨rfl, dW, rfl⟩
          (go_wp2_with fail); refine (HM2.out _).mono ?_; rintro e w' ⟨rfl, dW, rfl⟩
          go_wp2_with (go_at_call 26; refine (known_any _).mono ?_; rintro e w' ⟨rfl, dW, rfl⟩)
          go_ret
          exact ⟨rfl, (by repeat (first | exact Xt.Nw.refl _ | refine Xt.Nw.drew ?_ | refine Xt.Nw.drewN ?_ _ | refine Xt.Nw.alloc ?_ _ | refine Xt.Nw.joined ?_ | refine Xt.Nw.drewd ?_ | refine Xt.Nw.drewdN ?_ | refine Xt.Nw.ext ?_ | refine Xt.Nw.ext_some ?_ (by assumption) | refine Xt.Nw.setCell ?_ (by simp [go_sem] <;> omega) _))⟩
end Go.Proofs.Ytdhinclpmmpkhaa
