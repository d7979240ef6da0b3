import Derived.Test.YtbhnhhhjjfiebaaDoorC
import Derived.Test.YtbhnhhhjjfiebaaDoorE
namespace Go.Proofs.YtbhnhhhjjfiebaaDoor
open Go.RowKit Go.Xt
set_option maxHeartbeats 1000000 in
theorem results_walk (e : Int) (f : Bool) (k v c : Int) (w : World) (H : FmtAt w) (he : -9223372036854775808 ≤ e ∧ e ≤ 9223372036854775807) (hk : 0 ≤ k ∧ k < 18446744073709551616) (hv : 0 ≤ v ∧ v < 18446744073709551616) (hc : -9223372036854775808 ≤ c ∧ c ≤ 9223372036854775807) :
    Calls Tryd.prog 3 #[vRes e f k v c] w fun en w' => en = .returned (.bool true) ∧ Nw w w' := by
  by_cases hb : Bad e c
  · go_enter Tryd.func3, Tryd.ntmps3
    go_wp2_with (first
      | (go_at_call 4; refine (result_bad e f k v c _ hb).mono ?_; rintro e w' ⟨rfl, dW, rfl⟩)
      | (go_at_call 5; refine (rresult_bad e f k v c _ hb).mono ?_; rintro e w' ⟨rfl, dW, rfl⟩))
    go_ret
    exact ⟨rfl, (by repeat (first | exact Xt.Nw.refl _ | refine Xt.Nw.drew ?_ | refine Xt.Nw.drewN ?_ _ | refine Xt.Nw.alloc ?_ _ | refine Xt.Nw.joined ?_ | refine Xt.Nw.drewd ?_ | refine Xt.Nw.drewdN ?_ | refine Xt.Nw.ext ?_ | refine Xt.Nw.ext_some ?_ (by assumption) | refine Xt.Nw.setCell ?_ (by simp [go_sem] <;> omega) _))⟩
  · have he' : 0 ≤ e ∧ e ≤ 23 := by unfold Bad at hb; omega
    have hc' : 0 ≤ c ∧ c ≤ 9223372036854775807 := by unfold Bad at hb; omega
    have HF := Lib.hid H
    clear H hb
    obtain ⟨B, hB⟩ : ∃ B, B = resB e f k v c := ⟨_, rfl⟩
    have h1 : ∀ W, Nw w W → Calls Tryd.prog 4 #[vRes e f k v c] W fun en w' => en = .returned (.tuple #[.string B, .int .i64 0]) ∧ Nw W w' := fun W hW => by
      rw [hB]; exact result_any e f k v c W (HF.out.nw hW) he' hk hv hc'
    have h2 : ∀ W, Calls Tryd.prog 5 #[vRes e f k v c] W fun en w' => en = .returned (.tuple #[.string B, .int .i64 0]) ∧ Nw W w' := fun W => by
      rw [hB]; exact rresult_any e f k v c W he' hk hv hc'
    have H1 := Lib.hid h1
    have H2 := Lib.hid h2
    clear h1 h2 hB
    go_enter Tryd.func3, Tryd.ntmps3
    go_wp2_with (first
      | (go_at_call 4; refine (H1.out _ ((by repeat (first | exact Xt.Nw.refl _ | refine Xt.Nw.drew ?_ | refine Xt.Nw.drewN ?_ _ | refine Xt.Nw.alloc ?_ _ | refine Xt.Nw.joined ?_ | refine Xt.Nw.drewd ?_ | refine Xt.Nw.drewdN ?_ | refine Xt.Nw.ext ?_ | refine Xt.Nw.ext_some ?_ (by assumption) | refine Xt.Nw.setCell ?_ (by simp [go_sem] <;> omega) _)))).mono ?_; rintro e w' ⟨rfl, dW, rfl⟩)
      | (go_at_call 5; refine (H2.out _).mono ?_; rintro e w' ⟨rfl, dW, rfl⟩))
    trace_state
    all_goals (go_ret; exact ⟨rfl, (by repeat (first | exact Xt.Nw.refl _ | refine Xt.Nw.drew ?_ | refine Xt.Nw.drewN ?_ _ | refine Xt.Nw.alloc ?_ _ | refine Xt.Nw.joined ?_ | refine Xt.Nw.drewd ?_ | refine Xt.Nw.drewdN ?_ | refine Xt.Nw.ext ?_ | refine Xt.Nw.ext_some ?_ (by assumption) | refine Xt.Nw.setCell ?_ (by simp [go_sem] <;> omega) _))⟩)
end Go.Proofs.YtbhnhhhjjfiebaaDoor
