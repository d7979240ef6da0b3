import Derived.Test.YtdhinclpmmpkhaaC
namespace Go.Proofs.Ytdhinclpmmpkhaa
open Go.RowKit Go.Xt
abbrev vSB (x : Int × Int × Bool) : Value := .tuple #[.agg #[.int .u64 x.1, .int .u64 x.2.1], .bool x.2.2]
abbrev vSE (x : Int × Int × Int) : Value := .tuple #[.agg #[.int .u64 x.1, .int .u64 x.2.1], .int .i64 x.2.2]
def mx (a b : Int) : Int := if a < b then b else a
def mn (a b : Int) : Int := if b < a then b else a
def meetF (a b c d : Int) : Int × Int × Bool := if mn b d < mx a c then (0, 0, false) else (mx a c, mn b d, true)
def hullF (a b c d : Int) : Int × Int × Int := if b < a ∨ d < c then (0, 0, 13) else (mn a c, mx b d, 0)
def shiftF (a b n : Int) : Int × Int × Int := if b < a then (0, 0, 13) else if 18446744073709551615 - b < n then (0, 0, 12) else (a + n, b + n, 0)
set_option maxHeartbeats 400000 in
theorem meet_any (a b c d : Int) (w : World) :
    Calls Try.prog 18 #[sp a b, sp c d] w fun e w' => e = .returned (vSB (meetF a b c d)) ∧ Nw w w' := by
  go_enter Try.func18, Try.ntmps18
  go_wp2
  all_goals (refine bodyPost_ret (v := vSB (meetF a b c d)) ?_ rfl ⟨rfl, (by repeat (first | exact Xt.Nw.refl _ | refine Xt.Nw.drew ?_ | refine Xt.Nw.drewN ?_ _ | refine Xt.Nw.alloc ?_ _ | refine Xt.Nw.joined ?_ | refine Xt.Nw.drewd ?_ | refine Xt.Nw.drewdN ?_ | refine Xt.Nw.ext ?_ | refine Xt.Nw.ext_some ?_ (by assumption) | refine Xt.Nw.setCell ?_ (by simp [go_sem] <;> omega) _))⟩)
  all_goals (simp only [meetF, mx, mn]; simp [results, Try.results18, go_sem])
  all_goals ((repeat' split) <;> simp_all <;> omega)
set_option maxHeartbeats 800000 in
theorem rmeet_any (a b c d : Int) (w : World) :
    Calls Try.prog 19 #[sp a b, sp c d] w fun e w' => e = .returned (vSB (meetF a b c d)) ∧ Nw w w' := by
  go_enter Try.func19, Try.ntmps19
  go_wp2
  all_goals (refine bodyPost_ret (v := vSB (meetF a b c d)) ?_ rfl ⟨rfl, (by repeat (first | exact Xt.Nw.refl _ | refine Xt.Nw.drew ?_ | refine Xt.Nw.drewN ?_ _ | refine Xt.Nw.alloc ?_ _ | refine Xt.Nw.joined ?_ | refine Xt.Nw.drewd ?_ | refine Xt.Nw.drewdN ?_ | refine Xt.Nw.ext ?_ | refine Xt.Nw.ext_some ?_ (by assumption) | refine Xt.Nw.setCell ?_ (by simp [go_sem] <;> omega) _))⟩)
  all_goals (simp only [meetF, mx, mn]; simp [results, Try.results19, go_sem])
  all_goals ((repeat' split) <;> simp_all <;> omega)
end Go.Proofs.Ytdhinclpmmpkhaa
