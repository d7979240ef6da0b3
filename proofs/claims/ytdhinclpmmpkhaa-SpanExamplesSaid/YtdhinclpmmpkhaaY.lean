import Derived.Test.YtdhinclpmmpkhaaR
namespace Go.Proofs.Ytdhinclpmmpkhaa
open Go.RowKit Go.Xt
theorem Sp_four (w : World) (g : Nat) (hg : g = w.heap.size) (a b c d e f p q : Int) (t : TypeId) : Sp (w.alloc (.cells #[.int .u64 a, .int .u64 b, .int .u64 c, .int .u64 d, .int .u64 e, .int .u64 f, .int .u64 p, .int .u64 q] t)) (some ⟨g, 0, none⟩) 4 [(a, b), (c, d), (e, f), (p, q)] := by
  subst hg; exact ⟨rfl, fun _ => ⟨_, _, rfl, by simp, fun i x hx => by
    have : i = 0 ∨ i = 1 ∨ i = 2 ∨ i = 3 := by have := (List.getElem?_eq_some_iff.1 hx).1; simp at this; omega
    rcases this with rfl | rfl | rfl | rfl <;> simp at hx <;> subst hx <;> exact ⟨by simp, by simp⟩⟩⟩
set_option maxRecDepth 20000 in
set_option maxHeartbeats 1000000 in
theorem examples_any (w : World) : Calls Try.prog 11 #[] w fun e w' => e = .returned (.bool true) ∧ Nw w w' := by
  have a1 : chk 3 3 = 0 := by decide
  have a2 : chk 4 3 = 13 := by decide
  have a3 : has 3 5 5 = true := by decide
  have a4 : has 5 3 4 = false := by decide
  have a5 : meetF 1 6 4 9 = (4, 6, true) := by decide
  have a6 : meetF 1 2 4 9 = (0, 0, false) := by decide
  have a7 : meetF 9 1 0 9 = (0, 0, false) := by decide
  have a8 : meetF 1 4 4 9 = (4, 4, true) := by decide
  have a9 : hullF 1 2 8 9 = (1, 9, 0) := by decide
  have b1 : shiftF 3 5 4 = (7, 9, 0) := by decide
  have b2 : shiftF 3 5 18446744073709551611 = (0, 0, 12) := by decide
  have b3 : sizeF 0 18446744073709551615 = (0, true, 0) := by decide
  have b4 : sizeF 1 18446744073709551615 = (18446744073709551615, false, 0) := by decide
  have n0 : Hid (Nm.norm [(7, 9), (1, 2), (3, 4), (8, 12)] = [(1, 4), (7, 12)]) := by unfold Hid; decide
  have c1 : cov 2 9 (Nm.norm [(5, 9), (0, 4)]) = true := by decide
  have c2 : cov 2 9 (Nm.norm [(0, 4), (6, 9)]) = false := by decide
  go_enter Try.func11, Try.ntmps11
  go_wp2_with (first | (go_at_call 14; refine (check_any _ _ _).mono ?_; rintro e w' ⟨rfl, dW, rfl⟩) | (go_at_call 16; refine (has_any _ _ _ _).mono ?_; rintro e w' ⟨rfl, dW, rfl⟩) | (go_at_call 18; refine (meet_any _ _ _ _ _).mono ?_; rintro e w' ⟨rfl, dW, rfl⟩) | (go_at_call 24; refine (overlap_any _ _ _ _ _).mono ?_; rintro e w' ⟨rfl, dW, rfl⟩) | (go_at_call 20; refine (hull_any _ _ _ _ _).mono ?_; rintro e w' ⟨rfl, dW, rfl⟩) | (go_at_call 22; refine (shift_any _ _ _ _ (by omega) (by omega) (by omega) (by omega)).mono ?_; rintro e w' ⟨rfl, dW, rfl⟩))
  refine (norm_ok _ _ _ [(7, 9), (1, 2), (3, 4), (8, 12)] _ (by omega) (fun h => by cases h) (Sp_four _ _ (by simp) _ _ _ _ _ _ _ _ _) (by decide) (by intro s hs; simp at hs; rcases hs with rfl | rfl | rfl | rfl <;> simp)).mono ?_
  rintro e w' ⟨Aa, ca, rfl, hspa, hnila, hfra, hca, dW, rfl⟩
  rw [n0.out] at hspa
  rw [n0.out]
  have HA := Lib.hid hspa
  clear hspa hnila hfra hca
  (go_wp2_with fail)
  refine (norm_bad _ _ _ [(1, 2), (2, 1)] _ (by omega) (Sp_two _ _ (by simp) _ _ _ _ _) (by decide)).mono ?_; rintro e w' ⟨rfl, dX, rfl⟩
  (go_wp2_with fail)
  refine (same_any _ _ _ _ _ _ [(1, 4), (7, 12)] [(1, 4), (7, 12)] _ (by simp) (by omega) (HA.out.nw (by repeat (first | exact Xt.Nw.refl _ | refine Xt.Nw.drew ?_ | refine Xt.Nw.drewN ?_ _ | refine Xt.Nw.alloc ?_ _ | refine Xt.Nw.joined ?_ | refine Xt.Nw.drewd ?_ | refine Xt.Nw.drewdN ?_ | refine Xt.Nw.ext ?_ | refine Xt.Nw.ext_some ?_ (by assumption) | refine Xt.Nw.setCell ?_ (by simp [go_sem] <;> omega) _))) (Sp_two _ _ (by simp) _ _ _ _ _)).mono ?_; rintro e w' ⟨rfl, dY, rfl⟩
  (go_wp2_with fail)
  refine (covers_ok _ _ _ _ _ [(5, 9), (0, 4)] _ (by omega) (fun h => by cases h) (Sp_two _ _ (by simp) _ _ _ _ _) (by omega) (by decide) (by intro s hs; simp at hs; rcases hs with rfl | rfl <;> simp)).mono ?_; rintro e w' ⟨rfl, dC, rfl⟩
  (go_wp2_with fail)
  refine (covers_ok _ _ _ _ _ [(0, 4), (6, 9)] _ (by omega) (fun h => by cases h) (Sp_two _ _ (by simp) _ _ _ _ _) (by omega) (by decide) (by intro s hs; simp at hs; rcases hs with rfl | rfl <;> simp)).mono ?_; rintro e w' ⟨rfl, dD, rfl⟩
  go_wp2_with (first | (go_at_call 12; refine (size_any _ _ _).mono ?_; rintro e w' ⟨rfl, dW, rfl⟩) | (go_at_call 26; refine (known_any _).mono ?_; rintro e w' ⟨rfl, dW, rfl⟩))
  go_ret
  exact ⟨rfl, (by repeat (first | exact Xt.Nw.refl _ | refine Xt.Nw.drew ?_ | refine Xt.Nw.drewN ?_ _ | refine Xt.Nw.alloc ?_ _ | refine Xt.Nw.joined ?_ | refine Xt.Nw.drewd ?_ | refine Xt.Nw.drewdN ?_ | refine Xt.Nw.ext ?_ | refine Xt.Nw.ext_some ?_ (by assumption) | refine Xt.Nw.setCell ?_ (by simp [go_sem] <;> omega) _))⟩
end Go.Proofs.Ytdhinclpmmpkhaa
