import Derived.Test.YtdhinclpmmpkhaaS
import Derived.Test.YtdhinclpmmpkhaaG
namespace Go.Proofs.Ytdhinclpmmpkhaa
open Go.RowKit Go.Xt
theorem Sp.rd {w : World} {A : Option Addr} {n : Nat} {l : List (Int × Int)} (h : Sp w A n l) : Rd w 2 A n (cells l) := by
  refine ⟨by rw [cells_len, h.1], fun hn => ?_⟩
  obtain ⟨b, o, rfl, hb, hc⟩ := h.2 hn
  refine ⟨b, o, rfl, hb, fun j u hu => ?_⟩
  have hj : j < l.length * 2 := by have := (List.getElem?_eq_some_iff.1 hu).1; rwa [cells_len] at this
  have hi : j / 2 < l.length := by omega
  obtain ⟨c0, c1⟩ := hc (j / 2) l[j / 2] (List.getElem?_eq_getElem hi)
  obtain ⟨k0, k1⟩ := cells_get l (j / 2) l[j / 2] (List.getElem?_eq_getElem hi)
  rcases Nat.mod_two_eq_zero_or_one j with h0 | h1
  · have e : j / 2 * 2 = j := by omega
    rw [e] at c0 k0
    rw [hu] at k0; injection k0 with k0; rw [c0, k0]
  · have e : j / 2 * 2 + 1 = j := by omega
    rw [Nat.add_assoc, e] at c1
    rw [e] at k1
    rw [hu] at k1; injection k1 with k1; rw [c1, k1]
set_option maxHeartbeats 400000 in
theorem clone_any (A : Option Addr) (n c : Nat) (l : List (Int × Int)) (w : World) (hn : n ≤ 1000) (hc : A = none → c = 0) (hl : Sp w A n l) :
    Calls Try.prog 36 #[.slice A n c] w fun e w' => ∃ v, e = .returned v ∧ w'.ownsRow w.heap.size 24 2 v n (cells l) ∧ Nw w w' := by
  cases A with
  | none =>
    obtain rfl : c = 0 := hc rfl
    have h0 : n = 0 := by
      rcases Nat.eq_zero_or_pos n with h | h
      · exact h
      · obtain ⟨b, o, hh, _⟩ := hl.2 h; cases hh
    subst h0
    obtain rfl : l = [] := List.eq_nil_of_length_eq_zero hl.1
    have heq := Lib.run_eql_slice_nil (P := Try.prog)
    go_enter Try.func36, Try.ntmps36
    go_wp2
    go_ret
    exact ⟨_, rfl, World.ownsRow_nil _ _ _ _, (by repeat (first | exact Xt.Nw.refl _ | refine Xt.Nw.drew ?_ | refine Xt.Nw.drewN ?_ _ | refine Xt.Nw.alloc ?_ _ | refine Xt.Nw.joined ?_ | refine Xt.Nw.drewd ?_ | refine Xt.Nw.drewdN ?_ | refine Xt.Nw.ext ?_ | refine Xt.Nw.ext_some ?_ (by assumption) | refine Xt.Nw.setCell ?_ (by simp [go_sem] <;> omega) _))⟩
  | some a =>
    have heq := Lib.run_eql_slice_nil (P := Try.prog)
    go_enter Try.func36, Try.ntmps36
    have hrd := Lib.hid hl.rd
    have H1 := Lib.hid hl.1
    clear hl
    go_wp2_with (at_builtin; refine wpList_appS rfl _ _ 37 rfl 24 (.agg #[.int .u64 0, .int .u64 0]) 2 16 Try.underlying37 spanInfo rfl (by decide) w _ ((Nw.refl w).alloc _) _ 0 [] rfl (World.ownsRow_made _ _ _ (Nat.le_refl _) (by unfold maxLen; omega) rfl) _ n c (cells l) rfl (hrd.out.nw ((Nw.refl w).alloc _)) (cells_one l) (by unfold maxLen; omega) (by omega) ?_; intro v' d' hown' hnil)
    go_ret
    refine ⟨_, rfl, by simpa using hown', (by repeat (first | exact Xt.Nw.refl _ | refine Xt.Nw.drew ?_ | refine Xt.Nw.drewN ?_ _ | refine Xt.Nw.alloc ?_ _ | refine Xt.Nw.joined ?_ | refine Xt.Nw.drewd ?_ | refine Xt.Nw.drewdN ?_ | refine Xt.Nw.ext ?_ | refine Xt.Nw.ext_some ?_ (by assumption) | refine Xt.Nw.setCell ?_ (by simp [go_sem] <;> omega) _))⟩
end Go.Proofs.Ytdhinclpmmpkhaa
