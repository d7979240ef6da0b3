import Derived.Test.YtdhinclpmmpkhaaE
namespace Go.Proofs.Ytdhinclpmmpkhaa
open Go.RowKit Go.Xt
set_option maxHeartbeats 1000000 in
theorem pairs_walk (a b c d n : Int) (w : World) (ha : 0 ≤ a) (hb : 0 ≤ b) (hb' : b ≤ 18446744073709551615) (hn : 0 ≤ n) :
    Calls Try.prog 4 #[sp a b, sp c d, .int .u64 n] w fun e w' => e = .returned (.bool true) ∧ Nw w w' := by
  go_enter Try.func4, Try.ntmps4
  have A := Lib.hid ha; have B := Lib.hid hb; have B' := Lib.hid hb'; have N := Lib.hid hn; clear ha hb hb' hn
  go_wp2_with (first | (go_at_call 18; refine (meet_any _ _ _ _ _).mono ?_; rintro e w' ⟨rfl, dW, rfl⟩) | (go_at_call 19; refine (rmeet_any _ _ _ _ _).mono ?_; rintro e w' ⟨rfl, dW, rfl⟩) | (go_at_call 20; refine (hull_any _ _ _ _ _).mono ?_; rintro e w' ⟨rfl, dW, rfl⟩) | (go_at_call 21; refine (rhull_any _ _ _ _ _).mono ?_; rintro e w' ⟨rfl, dW, rfl⟩) | (go_at_call 22; refine (shift_any _ _ _ _ A.out B.out B'.out N.out).mono ?_; rintro e w' ⟨rfl, dW, rfl⟩) | (go_at_call 23; refine (rshift_any _ _ _ _ A.out B.out B'.out N.out).mono ?_; rintro e w' ⟨rfl, dW, rfl⟩))
  (refine wp_region_nw (by kernel_rfl) (by kernel_rfl) ?_; (repeat (go_big_quiet_step (first | (go_at_call 24; exact quiet_of (overlap_any _ _ _ _ _)) | (go_at_call 25; exact quiet_of (roverlap_any _ _ _ _ _))))); refine wpQuiet_nil ?_; intro _ hreg; obtain ⟨dW, rfl⟩ : Nw _ _ := hreg)
  go_wp2
  go_ret
  exact ⟨rfl, (by repeat (first | exact Xt.Nw.refl _ | refine Xt.Nw.drew ?_ | refine Xt.Nw.drewN ?_ _ | refine Xt.Nw.alloc ?_ _ | refine Xt.Nw.ext ?_ | refine Xt.Nw.ext_some ?_ (by assumption) | refine Xt.Nw.setCell ?_ (by simp [go_sem] <;> omega) _))⟩
end Go.Proofs.Ytdhinclpmmpkhaa
