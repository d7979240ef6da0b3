import Derived.Test.YtdhinclpmmpkhaaC
namespace Go.Proofs.Ytdhinclpmmpkhaa
open Go.RowKit Go.Xt
set_option maxHeartbeats 400000 in
theorem checks_walk (lo hi k : Int) (w : World) (h0 : 0 ≤ lo) (h3 : hi < 18446744073709551616) :
    Calls Try.prog 3 #[sp lo hi, .int .u64 k] w fun e w' => e = .returned (.bool true) ∧ Nw w w' := by
  go_enter Try.func3, Try.ntmps3
  have H0 := Lib.hid h0; have H3 := Lib.hid h3; clear h0 h3
  go_wp2_with (first | (go_at_call 12; refine (size_any _ _ _).mono ?_; rintro e w' ⟨rfl, d, rfl⟩) | (go_at_call 13; refine (rsize_any _ _ _ H0.out H3.out).mono ?_; rintro e w' ⟨rfl, d, rfl⟩))
  refine wp_region_nw (by kernel_rfl) (by kernel_rfl) ?_
  repeat (go_big_quiet_step (first | (go_at_call 14; exact quiet_of (check_any _ _ _)) | (go_at_call 15; exact quiet_of (rcheck_any _ _ _)) | (go_at_call 16; exact quiet_of (has_any _ _ _ _)) | (go_at_call 17; exact quiet_of (rhas_any _ _ _ _))))
  refine wpQuiet_nil ?_
  rintro _ ⟨d, rfl⟩
  go_wp2
  go_ret
  exact ⟨rfl, (by repeat (first | exact Xt.Nw.refl _ | refine Xt.Nw.drew ?_ | refine Xt.Nw.drewN ?_ _ | refine Xt.Nw.alloc ?_ _ | refine Xt.Nw.ext ?_ | refine Xt.Nw.ext_some ?_ (by assumption) | refine Xt.Nw.setCell ?_ (by simp [go_sem] <;> omega) _))⟩
end Go.Proofs.Ytdhinclpmmpkhaa
