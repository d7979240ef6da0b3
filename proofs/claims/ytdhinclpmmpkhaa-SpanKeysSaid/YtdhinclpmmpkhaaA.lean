import Derived.Test.YtdhinclpmmpkhaaProg
import Derived.Test.YtdhinclpmmpkhaaLib
namespace Go.Proofs.Ytdhinclpmmpkhaa
open Go.RowKit Go.Xt
abbrev sp (lo hi : Int) : Value := .agg #[.int .u64 lo, .int .u64 hi]
def chk (lo hi : Int) : Int := if hi < lo then 13 else 0

set_option maxHeartbeats 400000 in
theorem check_any (lo hi : Int) (w : World) :
    Calls Try.prog 14 #[sp lo hi] w fun e w' => e = .returned (.int .i64 (chk lo hi)) ∧ Nw w w' := by
  go_enter Try.func14, Try.ntmps14
  go_wp2
  all_goals (go_ret; exact ⟨by simp [chk] <;> omega, (by repeat (first | exact Xt.Nw.refl _ | refine Xt.Nw.drew ?_ | refine Xt.Nw.drewN ?_ _ | refine Xt.Nw.alloc ?_ _ | refine Xt.Nw.joined ?_ | refine Xt.Nw.drewd ?_ | refine Xt.Nw.drewdN ?_ | refine Xt.Nw.ext ?_ | refine Xt.Nw.ext_some ?_ (by assumption) | refine Xt.Nw.setCell ?_ (by simp [go_sem] <;> omega) _))⟩)
set_option maxHeartbeats 400000 in
theorem rcheck_any (lo hi : Int) (w : World) :
    Calls Try.prog 15 #[sp lo hi] w fun e w' => e = .returned (.int .i64 (chk lo hi)) ∧ Nw w w' := by
  go_enter Try.func15, Try.ntmps15
  go_wp2
  all_goals (go_ret; exact ⟨by simp [chk] <;> omega, (by repeat (first | exact Xt.Nw.refl _ | refine Xt.Nw.drew ?_ | refine Xt.Nw.drewN ?_ _ | refine Xt.Nw.alloc ?_ _ | refine Xt.Nw.joined ?_ | refine Xt.Nw.drewd ?_ | refine Xt.Nw.drewdN ?_ | refine Xt.Nw.ext ?_ | refine Xt.Nw.ext_some ?_ (by assumption) | refine Xt.Nw.setCell ?_ (by simp [go_sem] <;> omega) _))⟩)
def has (lo hi k : Int) : Bool := decide (lo ≤ k) && decide (k ≤ hi)
set_option maxHeartbeats 400000 in
theorem has_any (lo hi k : Int) (w : World) :
    Calls Try.prog 16 #[sp lo hi, .int .u64 k] w fun e w' => e = .returned (.bool (has lo hi k)) ∧ Nw w w' := by
  go_enter Try.func16, Try.ntmps16
  go_wp2
  all_goals (go_ret; exact ⟨by simp [has] <;> omega, (by repeat (first | exact Xt.Nw.refl _ | refine Xt.Nw.drew ?_ | refine Xt.Nw.drewN ?_ _ | refine Xt.Nw.alloc ?_ _ | refine Xt.Nw.joined ?_ | refine Xt.Nw.drewd ?_ | refine Xt.Nw.drewdN ?_ | refine Xt.Nw.ext ?_ | refine Xt.Nw.ext_some ?_ (by assumption) | refine Xt.Nw.setCell ?_ (by simp [go_sem] <;> omega) _))⟩)
set_option maxHeartbeats 400000 in
theorem rhas_any (lo hi k : Int) (w : World) :
    Calls Try.prog 17 #[sp lo hi, .int .u64 k] w fun e w' => e = .returned (.bool (has lo hi k)) ∧ Nw w w' := by
  go_enter Try.func17, Try.ntmps17
  go_wp2
  all_goals (go_ret; exact ⟨by simp [has] <;> omega, (by repeat (first | exact Xt.Nw.refl _ | refine Xt.Nw.drew ?_ | refine Xt.Nw.drewN ?_ _ | refine Xt.Nw.alloc ?_ _ | refine Xt.Nw.joined ?_ | refine Xt.Nw.drewd ?_ | refine Xt.Nw.drewdN ?_ | refine Xt.Nw.ext ?_ | refine Xt.Nw.ext_some ?_ (by assumption) | refine Xt.Nw.setCell ?_ (by simp [go_sem] <;> omega) _))⟩)
end Go.Proofs.Ytdhinclpmmpkhaa
