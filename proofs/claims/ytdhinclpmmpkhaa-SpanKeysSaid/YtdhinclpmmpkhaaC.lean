import Derived.Test.YtdhinclpmmpkhaaB
namespace Go.Proofs.Ytdhinclpmmpkhaa
open Go.RowKit Go.Xt
theorem Sp_one (w : World) (g : Nat) (hg : g = w.heap.size) (lo hi : Int) (t : TypeId) : Sp (w.alloc (.cells #[.int .u64 lo, .int .u64 hi] t)) (some ⟨g, 0, none⟩) 1 [(lo, hi)] := by
  subst hg; exact ⟨rfl, fun _ => ⟨_, _, rfl, by simp, fun i x hx => by
    have : i = 0 := by have := (List.getElem?_eq_some_iff.1 hx).1; simp at this; omega
    subst this; simp at hx; subst hx; exact ⟨by simp, by simp⟩⟩⟩
theorem Sp_two (w : World) (g : Nat) (hg : g = w.heap.size) (lo hi lo' hi' : Int) (t : TypeId) : Sp (w.alloc (.cells #[.int .u64 lo, .int .u64 hi, .int .u64 lo', .int .u64 hi'] t)) (some ⟨g, 0, none⟩) 2 [(lo, hi), (lo', hi')] := by
  subst hg; exact ⟨rfl, fun _ => ⟨_, _, rfl, by simp, fun i x hx => by
    have : i = 0 ∨ i = 1 := by have := (List.getElem?_eq_some_iff.1 hx).1; simp at this; omega
    rcases this with rfl | rfl <;> simp at hx <;> subst hx <;> exact ⟨by simp, by simp⟩⟩⟩
def n1 (lo hi : Int) : Int := IntKind.u64.wrap (IntKind.u64.wrap (hi - lo) + 1)
def sizeF (lo hi : Int) : Int × Bool × Int := if hi < lo then (0, false, 13) else (n1 lo hi, n1 lo hi == 0, 0)
def rsizeF (lo hi : Int) : Int × Bool × Int := if hi < lo then (0, false, 13) else if lo = 0 ∧ hi = 18446744073709551615 then (0, true, 0) else (n1 lo hi, false, 0)
abbrev vSize (x : Int × Bool × Int) : Value := .tuple #[.int .u64 x.1, .bool x.2.1, .int .i64 x.2.2]
theorem sizeF_eq (lo hi : Int) (h0 : 0 ≤ lo) (h3 : hi < 18446744073709551616) : rsizeF lo hi = sizeF lo hi := by
  unfold sizeF rsizeF
  by_cases h : hi < lo
  · simp only [if_pos h]
  · simp only [if_neg h]
    have e : n1 lo hi = if hi - lo = 18446744073709551615 then 0 else hi - lo + 1 := by
      unfold n1; rw [IntKind.wrap_u64, IntKind.wrap_u64]; split <;> omega
    by_cases h' : lo = 0 ∧ hi = 18446744073709551615
    · simp only [if_pos h']
      obtain ⟨rfl, rfl⟩ := h'
      simp [e]
    · simp only [if_neg h', e]
      rw [if_neg (by omega)]
      have : (hi - lo + 1 == 0) = false := by rw [beq_eq_false_iff_ne]; omega
      rw [this]
set_option maxHeartbeats 400000 in
theorem size_any (lo hi : Int) (w : World) :
    Calls Try.prog 12 #[sp lo hi] w fun e w' => e = .returned (vSize (sizeF lo hi)) ∧ Nw w w' := by
  go_enter Try.func12, Try.ntmps12
  go_wp2_with (go_at_call 35; refine (valid_any _ _ _ [(lo, hi)] _ (by omega) (Sp_one _ _ (by simp) _ _ _)).mono ?_; rintro e w' ⟨rfl, d, rfl⟩)
  all_goals (refine bodyPost_ret (results_tmp3 rfl _ _ _) rfl ⟨ret_eq ?_, (by repeat (first | exact Xt.Nw.refl _ | refine Xt.Nw.drew ?_ | refine Xt.Nw.drewN ?_ _ | refine Xt.Nw.alloc ?_ _ | refine Xt.Nw.joined ?_ | refine Xt.Nw.drewd ?_ | refine Xt.Nw.drewdN ?_ | refine Xt.Nw.ext ?_ | refine Xt.Nw.ext_some ?_ (by assumption) | refine Xt.Nw.setCell ?_ (by simp [go_sem] <;> omega) _))⟩)
  · have h : hi < lo := by simpa [Ok] using ‹(!Ok [(lo, hi)]) = true›
    rw [sizeF, if_pos h]; rfl
  · have h : ¬ hi < lo := by simpa [Ok] using ‹(!Ok [(lo, hi)]) = false›
    rw [sizeF, if_neg h]; rfl
set_option maxHeartbeats 400000 in
theorem rsize_any0 (lo hi : Int) (w : World) :
    Calls Try.prog 13 #[sp lo hi] w fun e w' => e = .returned (vSize (rsizeF lo hi)) ∧ Nw w w' := by
  go_enter Try.func13, Try.ntmps13
  go_wp2
  all_goals (refine bodyPost_ret (results_tmp3 rfl _ _ _) rfl ⟨ret_eq ?_, (by repeat (first | exact Xt.Nw.refl _ | refine Xt.Nw.drew ?_ | refine Xt.Nw.drewN ?_ _ | refine Xt.Nw.alloc ?_ _ | refine Xt.Nw.joined ?_ | refine Xt.Nw.drewd ?_ | refine Xt.Nw.drewdN ?_ | refine Xt.Nw.ext ?_ | refine Xt.Nw.ext_some ?_ (by assumption) | refine Xt.Nw.setCell ?_ (by simp [go_sem] <;> omega) _))⟩)
  all_goals (simp only [rsizeF, n1]; (repeat' split) <;> simp_all <;> omega)
theorem rsize_any (lo hi : Int) (w : World) (h0 : 0 ≤ lo) (h3 : hi < 18446744073709551616) :
    Calls Try.prog 13 #[sp lo hi] w fun e w' => e = .returned (vSize (sizeF lo hi)) ∧ Nw w w' := by
  rw [← sizeF_eq lo hi h0 h3]; exact rsize_any0 lo hi w
end Go.Proofs.Ytdhinclpmmpkhaa
