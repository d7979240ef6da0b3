import Derived.Test.YtdhinclpmmpkhaaD
namespace Go.Proofs.Ytdhinclpmmpkhaa
open Go.RowKit Go.Xt
theorem Ok1 (a b : Int) : Ok [(a, b)] = decide (a ≤ b) := by simp [Ok]
theorem Ok2 (a b c d : Int) : Ok [(a, b), (c, d)] = (decide (a ≤ b) && decide (c ≤ d)) := by simp [Ok]
set_option maxHeartbeats 400000 in
theorem hull_any (a b c d : Int) (w : World) :
    Calls Try.prog 20 #[sp a b, sp c d] w fun e w' => e = .returned (vSE (hullF a b c d)) ∧ Nw w w' := by
  go_enter Try.func20, Try.ntmps20
  go_wp2_with (go_at_call 35; refine (valid_any _ _ _ [(a, b), (c, d)] _ (by omega) (Sp_two _ _ (by simp) _ _ _ _ _)).mono ?_; rintro e w' ⟨rfl, dW, rfl⟩)
  all_goals (refine bodyPost_ret (v := vSE (hullF a b c d)) ?_ rfl ⟨rfl, (by repeat (first | exact Xt.Nw.refl _ | refine Xt.Nw.drew ?_ | refine Xt.Nw.drewN ?_ _ | refine Xt.Nw.alloc ?_ _ | refine Xt.Nw.joined ?_ | refine Xt.Nw.drewd ?_ | refine Xt.Nw.drewdN ?_ | refine Xt.Nw.ext ?_ | refine Xt.Nw.ext_some ?_ (by assumption) | refine Xt.Nw.setCell ?_ (by simp [go_sem] <;> omega) _))⟩)
  all_goals (simp only [hullF, mx, mn]; simp [results, Try.results20, go_sem]; simp [Ok2] at *)
  all_goals ((repeat' split) <;> simp_all <;> omega)
set_option maxHeartbeats 800000 in
theorem rhull_any (a b c d : Int) (w : World) :
    Calls Try.prog 21 #[sp a b, sp c d] w fun e w' => e = .returned (vSE (hullF a b c d)) ∧ Nw w w' := by
  go_enter Try.func21, Try.ntmps21
  go_wp2
  all_goals (refine bodyPost_ret (v := vSE (hullF a b c d)) ?_ rfl ⟨rfl, (by repeat (first | exact Xt.Nw.refl _ | refine Xt.Nw.drew ?_ | refine Xt.Nw.drewN ?_ _ | refine Xt.Nw.alloc ?_ _ | refine Xt.Nw.joined ?_ | refine Xt.Nw.drewd ?_ | refine Xt.Nw.drewdN ?_ | refine Xt.Nw.ext ?_ | refine Xt.Nw.ext_some ?_ (by assumption) | refine Xt.Nw.setCell ?_ (by simp [go_sem] <;> omega) _))⟩)
  all_goals (simp only [hullF, mx, mn]; simp [results, Try.results21, go_sem])
  all_goals ((repeat' split) <;> simp_all <;> omega)
set_option maxHeartbeats 400000 in
theorem shift_any (a b n : Int) (w : World) (ha : 0 ≤ a) (hb : 0 ≤ b) (hb' : b ≤ 18446744073709551615) (hn : 0 ≤ n) :
    Calls Try.prog 22 #[sp a b, .int .u64 n] w fun e w' => e = .returned (vSE (shiftF a b n)) ∧ Nw w w' := by
  go_enter Try.func22, Try.ntmps22
  by_cases hab : a ≤ b
  · have hk : (!Ok [(a, b)]) = false := by simp [Ok1, hab]
    by_cases hs : 18446744073709551615 - b < n
    · go_wp2_with (go_at_call 35; refine (valid_any _ _ _ [(a, b)] _ (by omega) (Sp_one _ _ (by simp) _ _ _)).mono ?_; rintro e w' ⟨rfl, dW, rfl⟩)
      refine bodyPost_ret (v := vSE (shiftF a b n)) ?_ rfl ⟨rfl, (by repeat (first | exact Xt.Nw.refl _ | refine Xt.Nw.drew ?_ | refine Xt.Nw.drewN ?_ _ | refine Xt.Nw.alloc ?_ _ | refine Xt.Nw.joined ?_ | refine Xt.Nw.drewd ?_ | refine Xt.Nw.drewdN ?_ | refine Xt.Nw.ext ?_ | refine Xt.Nw.ext_some ?_ (by assumption) | refine Xt.Nw.setCell ?_ (by simp [go_sem] <;> omega) _))⟩
      rw [shiftF, if_neg (by omega), if_pos hs]
      simp [results, Try.results22, go_sem]
    · go_wp2_with (go_at_call 35; refine (valid_any _ _ _ [(a, b)] _ (by omega) (Sp_one _ _ (by simp) _ _ _)).mono ?_; rintro e w' ⟨rfl, dW, rfl⟩)
      refine bodyPost_ret (v := vSE (shiftF a b n)) ?_ rfl ⟨rfl, (by repeat (first | exact Xt.Nw.refl _ | refine Xt.Nw.drew ?_ | refine Xt.Nw.drewN ?_ _ | refine Xt.Nw.alloc ?_ _ | refine Xt.Nw.joined ?_ | refine Xt.Nw.drewd ?_ | refine Xt.Nw.drewdN ?_ | refine Xt.Nw.ext ?_ | refine Xt.Nw.ext_some ?_ (by assumption) | refine Xt.Nw.setCell ?_ (by simp [go_sem] <;> omega) _))⟩
      rw [shiftF, if_neg (by omega), if_neg (by omega)]
      simp [results, Try.results22, go_sem]
  · have hk : (!Ok [(a, b)]) = true := by simp [Ok1]; omega
    go_wp2_with (go_at_call 35; refine (valid_any _ _ _ [(a, b)] _ (by omega) (Sp_one _ _ (by simp) _ _ _)).mono ?_; rintro e w' ⟨rfl, dW, rfl⟩)
    refine bodyPost_ret (v := vSE (shiftF a b n)) ?_ rfl ⟨rfl, (by repeat (first | exact Xt.Nw.refl _ | refine Xt.Nw.drew ?_ | refine Xt.Nw.drewN ?_ _ | refine Xt.Nw.alloc ?_ _ | refine Xt.Nw.joined ?_ | refine Xt.Nw.drewd ?_ | refine Xt.Nw.drewdN ?_ | refine Xt.Nw.ext ?_ | refine Xt.Nw.ext_some ?_ (by assumption) | refine Xt.Nw.setCell ?_ (by simp [go_sem] <;> omega) _))⟩
    rw [shiftF, if_pos (by omega)]
    simp [results, Try.results22, go_sem]
set_option maxHeartbeats 400000 in
theorem rshift_any (a b n : Int) (w : World) (ha : 0 ≤ a) (hb : 0 ≤ b) (hb' : b ≤ 18446744073709551615) (hn : 0 ≤ n) :
    Calls Try.prog 23 #[sp a b, .int .u64 n] w fun e w' => e = .returned (vSE (shiftF a b n)) ∧ Nw w w' := by
  go_enter Try.func23, Try.ntmps23
  by_cases hab : b < a
  · go_wp2
    refine bodyPost_ret (v := vSE (shiftF a b n)) ?_ rfl ⟨rfl, (by repeat (first | exact Xt.Nw.refl _ | refine Xt.Nw.drew ?_ | refine Xt.Nw.drewN ?_ _ | refine Xt.Nw.alloc ?_ _ | refine Xt.Nw.joined ?_ | refine Xt.Nw.drewd ?_ | refine Xt.Nw.drewdN ?_ | refine Xt.Nw.ext ?_ | refine Xt.Nw.ext_some ?_ (by assumption) | refine Xt.Nw.setCell ?_ (by simp [go_sem] <;> omega) _))⟩
    rw [shiftF, if_pos hab]
    simp [results, Try.results23, go_sem]
  · by_cases hs : 18446744073709551615 - b < n
    · go_wp2
      refine bodyPost_ret (v := vSE (shiftF a b n)) ?_ rfl ⟨rfl, (by repeat (first | exact Xt.Nw.refl _ | refine Xt.Nw.drew ?_ | refine Xt.Nw.drewN ?_ _ | refine Xt.Nw.alloc ?_ _ | refine Xt.Nw.joined ?_ | refine Xt.Nw.drewd ?_ | refine Xt.Nw.drewdN ?_ | refine Xt.Nw.ext ?_ | refine Xt.Nw.ext_some ?_ (by assumption) | refine Xt.Nw.setCell ?_ (by simp [go_sem] <;> omega) _))⟩
      rw [shiftF, if_neg (by omega), if_pos hs]
      simp [results, Try.results23, go_sem]
    · go_wp2
      refine bodyPost_ret (v := vSE (shiftF a b n)) ?_ rfl ⟨rfl, (by repeat (first | exact Xt.Nw.refl _ | refine Xt.Nw.drew ?_ | refine Xt.Nw.drewN ?_ _ | refine Xt.Nw.alloc ?_ _ | refine Xt.Nw.joined ?_ | refine Xt.Nw.drewd ?_ | refine Xt.Nw.drewdN ?_ | refine Xt.Nw.ext ?_ | refine Xt.Nw.ext_some ?_ (by assumption) | refine Xt.Nw.setCell ?_ (by simp [go_sem] <;> omega) _))⟩
      rw [shiftF, if_neg (by omega), if_neg (by omega)]
      simp [results, Try.results23, go_sem]
set_option maxHeartbeats 400000 in
theorem overlap_any (a b c d : Int) (w : World) :
    Calls Try.prog 24 #[sp a b, sp c d] w fun e w' => e = .returned (.bool (meetF a b c d).2.2) ∧ Nw w w' := by
  go_enter Try.func24, Try.ntmps24
  go_wp2_with (go_at_call 18; refine (meet_any _ _ _ _ _).mono ?_; rintro e w' ⟨rfl, dW, rfl⟩)
  go_ret
  exact ⟨rfl, (by repeat (first | exact Xt.Nw.refl _ | refine Xt.Nw.drew ?_ | refine Xt.Nw.drewN ?_ _ | refine Xt.Nw.alloc ?_ _ | refine Xt.Nw.joined ?_ | refine Xt.Nw.drewd ?_ | refine Xt.Nw.drewdN ?_ | refine Xt.Nw.ext ?_ | refine Xt.Nw.ext_some ?_ (by assumption) | refine Xt.Nw.setCell ?_ (by simp [go_sem] <;> omega) _))⟩
set_option maxHeartbeats 400000 in
theorem roverlap_any (a b c d : Int) (w : World) :
    Calls Try.prog 25 #[sp a b, sp c d] w fun e w' => e = .returned (.bool (meetF a b c d).2.2) ∧ Nw w w' := by
  go_enter Try.func25, Try.ntmps25
  go_wp2_with (go_at_call 19; refine (rmeet_any _ _ _ _ _).mono ?_; rintro e w' ⟨rfl, dW, rfl⟩)
  go_ret
  exact ⟨rfl, (by repeat (first | exact Xt.Nw.refl _ | refine Xt.Nw.drew ?_ | refine Xt.Nw.drewN ?_ _ | refine Xt.Nw.alloc ?_ _ | refine Xt.Nw.joined ?_ | refine Xt.Nw.drewd ?_ | refine Xt.Nw.drewdN ?_ | refine Xt.Nw.ext ?_ | refine Xt.Nw.ext_some ?_ (by assumption) | refine Xt.Nw.setCell ?_ (by simp [go_sem] <;> omega) _))⟩
end Go.Proofs.Ytdhinclpmmpkhaa
