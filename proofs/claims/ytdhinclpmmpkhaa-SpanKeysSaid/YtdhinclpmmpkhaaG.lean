import Derived.Test.YtdhinclpmmpkhaaF
namespace Go.Proofs.Ytdhinclpmmpkhaa
open Go.RowKit Go.Xt
theorem meet_touch (a1 a2 b1 b2 : Int) (ha : a1 ≤ a2) (hb : b1 ≤ b2) : (meetF a1 a2 b1 b2).2.2 = decide (a1 ≤ b2 ∧ b1 ≤ a2) := by
  simp only [meetF, mx, mn]
  (repeat' split) <;> simp_all <;> omega
set_option maxHeartbeats 1000000 in
theorem touch_any (a1 a2 b1 b2 : Int) (w : World) (ha : a1 ≤ a2) (hb : b1 ≤ b2) (ha0 : 0 ≤ a1) (hb0 : 0 ≤ b1) (ha1 : a2 ≤ 18446744073709551615) (hb1 : b2 ≤ 18446744073709551615) :
    Calls Try.prog 41 #[sp a1 a2, sp b1 b2] w fun e w' => e = .returned (.bool (Nm.touch (a1, a2) (b1, b2))) ∧ Nw w w' := by
  have c : ∀ w, Calls Try.prog 25 #[sp a1 a2, sp b1 b2] w fun e w' => e = .returned (.bool (decide (a1 ≤ b2 ∧ b1 ≤ a2))) ∧ Nw w w' := by
    intro w; rw [← meet_touch a1 a2 b1 b2 ha hb]; exact roverlap_any _ _ _ _ _
  have C := Lib.hid c
  clear c
  have hn : Hid (Nm.touch (a1, a2) (b1, b2) = (decide (a1 ≤ b2 ∧ b1 ≤ a2) || decide (a2 + 1 = b1) || decide (b2 + 1 = a1))) := rfl
  go_enter Try.func41, Try.ntmps41
  go_wp2_with ((go_at_call 25; refine (C.out _).mono ?_; rintro e w' ⟨rfl, dW, rfl⟩))
  all_goals (go_ret; refine ⟨ret_bool ?_, (by repeat (first | exact Xt.Nw.refl _ | refine Xt.Nw.drew ?_ | refine Xt.Nw.drewN ?_ _ | refine Xt.Nw.alloc ?_ _ | refine Xt.Nw.joined ?_ | refine Xt.Nw.drewd ?_ | refine Xt.Nw.drewdN ?_ | refine Xt.Nw.ext ?_ | refine Xt.Nw.ext_some ?_ (by assumption) | refine Xt.Nw.setCell ?_ (by simp [go_sem] <;> omega) _))⟩)
  all_goals (have h2 := hn.out; rw [h2]; clear h2 hn C; rw [Bool.eq_iff_iff]; simp only [Bool.or_eq_true, Bool.and_eq_true, bne_iff_ne, beq_iff_eq, decide_eq_true_eq, ne_eq]; (try simp only [true_iff]); omega)
/-! ### Same -/
def sameTo (a b : List (Int × Int)) (k : Nat) : Prop := a.take k = b.take k
set_option maxHeartbeats 1000000 in
theorem same_any (A A' : Option Addr) (n n' c c' : Nat) (l l' : List (Int × Int)) (w : World) (hn : n ≤ 9223372036854775807) (hn' : n' ≤ 9223372036854775807) (hl : Sp w A n l) (hl' : Sp w A' n' l') :
    Calls Try.prog 29 #[.slice A n c, .slice A' n' c'] w fun e w' => e = .returned (.bool (decide (l = l'))) ∧ Nw w w' := by
  have e1 := hl.1
  have e2 := hl'.1
  by_cases hlen : n = n'
  · subst hlen
    have E1 := Lib.hid e1; have E2 := Lib.hid e2
    clear e1 e2
    go_enter Try.func29, Try.ntmps29
    go_wp2
    go_loopw [5] (fun t wr => ∃ k : Nat, k ≤ n ∧ t = .int .i64 k ∧ l.take k = l'.take k ∧ Nw w wr) (fun t _ => n - (intOf t).toNat)
    case atStart => exact ⟨0, Nat.zero_le _, rfl, rfl, Nw.refl _⟩
    case round =>
      obtain ⟨k, hk, rfl, hok, d, rfl⟩ := hrel
      have Hok := Lib.hid hok
      clear hok
      by_cases hlt : k < n
      · obtain ⟨b, o, lo, hi, rfl, hb, hx, c0, c1⟩ := hl.get hlt
        obtain ⟨b', o', lo', hi', rfl, hb', hx', c0', c1'⟩ := hl'.get hlt
        have Hx := Lib.hid hx
        have Hx' := Lib.hid hx'
        clear hx hx'
        have hD : ¬ (lo = lo' ∧ hi = hi') → decide (l = l') = false := by
          intro hne
          rw [decide_eq_false_iff_not]
          rintro rfl
          have h1 := Hx.out; rw [Hx'.out] at h1
          simp only [Option.some.injEq, Prod.mk.injEq] at h1
          exact hne ⟨h1.1.symm, h1.2.symm⟩
        have HD := Lib.hid hD
        clear hD
        by_cases h1 : lo = lo'
        · subst h1
          by_cases h2 : hi = hi'
          · subst h2
            go_wp2
            (refine wp_region_nw (by kernel_rfl) (by kernel_rfl) ?_; (repeat (go_big_quiet_step (fail))); refine wpQuiet_nil ?_; intro _ hreg; obtain ⟨dW, rfl⟩ : Nw _ _ := hreg)
            go_wp2
            refine ⟨⟨k + 1, by omega, by go_num, ?_, (by repeat (first | exact Xt.Nw.refl _ | refine Xt.Nw.drew ?_ | refine Xt.Nw.drewN ?_ _ | refine Xt.Nw.alloc ?_ _ | refine Xt.Nw.joined ?_ | refine Xt.Nw.drewd ?_ | refine Xt.Nw.drewdN ?_ | refine Xt.Nw.ext ?_ | refine Xt.Nw.ext_some ?_ (by assumption) | refine Xt.Nw.setCell ?_ (by simp [go_sem] <;> omega) _))⟩, by simp [intOf]; omega⟩
            obtain ⟨p1, q1⟩ := List.getElem?_eq_some_iff.1 Hx.out
            obtain ⟨p2, q2⟩ := List.getElem?_eq_some_iff.1 Hx'.out
            rw [List.take_succ_eq_append_getElem p1, List.take_succ_eq_append_getElem p2, Hok.out, q1, q2]
          · go_wp2
            (refine wp_region_nw (by kernel_rfl) (by kernel_rfl) ?_; (repeat (go_big_quiet_step (fail))); refine wpQuiet_nil ?_; intro _ hreg; obtain ⟨dW, rfl⟩ : Nw _ _ := hreg)
            go_wp2
            go_ret
            exact ⟨ret_bool (HD.out (fun h => h2 h.2)).symm, (by repeat (first | exact Xt.Nw.refl _ | refine Xt.Nw.drew ?_ | refine Xt.Nw.drewN ?_ _ | refine Xt.Nw.alloc ?_ _ | refine Xt.Nw.joined ?_ | refine Xt.Nw.drewd ?_ | refine Xt.Nw.drewdN ?_ | refine Xt.Nw.ext ?_ | refine Xt.Nw.ext_some ?_ (by assumption) | refine Xt.Nw.setCell ?_ (by simp [go_sem] <;> omega) _))⟩
        · go_wp2
          (refine wp_region_nw (by kernel_rfl) (by kernel_rfl) ?_; (repeat (go_big_quiet_step (fail))); refine wpQuiet_nil ?_; intro _ hreg; obtain ⟨dW, rfl⟩ : Nw _ _ := hreg)
          go_wp2
          go_ret
          exact ⟨ret_bool (HD.out (fun h => h1 h.1)).symm, (by repeat (first | exact Xt.Nw.refl _ | refine Xt.Nw.drew ?_ | refine Xt.Nw.drewN ?_ _ | refine Xt.Nw.alloc ?_ _ | refine Xt.Nw.joined ?_ | refine Xt.Nw.drewd ?_ | refine Xt.Nw.drewdN ?_ | refine Xt.Nw.ext ?_ | refine Xt.Nw.ext_some ?_ (by assumption) | refine Xt.Nw.setCell ?_ (by simp [go_sem] <;> omega) _))⟩
      · go_wp2
        go_ret
        refine ⟨ret_bool ?_, (by repeat (first | exact Xt.Nw.refl _ | refine Xt.Nw.drew ?_ | refine Xt.Nw.drewN ?_ _ | refine Xt.Nw.alloc ?_ _ | refine Xt.Nw.joined ?_ | refine Xt.Nw.drewd ?_ | refine Xt.Nw.drewdN ?_ | refine Xt.Nw.ext ?_ | refine Xt.Nw.ext_some ?_ (by assumption) | refine Xt.Nw.setCell ?_ (by simp [go_sem] <;> omega) _))⟩
        have h := Hok.out
        rw [List.take_of_length_le (by have := E1.out; omega), List.take_of_length_le (by have := E2.out; omega)] at h
        simp [h]
  · have hne : ((n : Int) != n') = true := by simp; omega
    have hd : Hid (decide (l = l') = false) := by
      show _ = _
      rw [decide_eq_false_iff_not]; rintro rfl; omega
    clear e1 e2 hl hl'
    go_enter Try.func29, Try.ntmps29
    go_wp2
    go_ret
    exact ⟨ret_bool hd.out.symm, (by repeat (first | exact Xt.Nw.refl _ | refine Xt.Nw.drew ?_ | refine Xt.Nw.drewN ?_ _ | refine Xt.Nw.alloc ?_ _ | refine Xt.Nw.joined ?_ | refine Xt.Nw.drewd ?_ | refine Xt.Nw.drewdN ?_ | refine Xt.Nw.ext ?_ | refine Xt.Nw.ext_some ?_ (by assumption) | refine Xt.Nw.setCell ?_ (by simp [go_sem] <;> omega) _))⟩
end Go.Proofs.Ytdhinclpmmpkhaa
