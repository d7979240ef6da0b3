import Derived.Test.YtjpgechcfkhoaaaR
namespace Go.Proofs.Ytjpgechcfkhoaaa
open Go.RowKit Go.Xt
set_option maxRecDepth 20000 in
set_option maxHeartbeats 4000000 in
theorem equalCalls_any (A B : Option Addr) (n m c c' : Nat) (l r : List Cl) (w : World) (hn : n ≤ 1000) (hm : m ≤ 1000) (hl : Cs w A n l) (hr : Cs w B m r) :
    Calls Try.prog 21 #[.slice A n c, .slice B m c'] w fun e w' => e = .returned (.bool (decide (l = r))) ∧ Nw w w' := by
  have HL := Lib.hid hl
  have HR := Lib.hid hr
  have hln := hl.1
  have hrn := hr.1
  clear hl hr
  by_cases hnm : n = m
  · subst hnm
    go_enter Try.func21, Try.ntmps21
    go_wp2
    go_loopw [5] (fun i wr => ∃ k : Nat, k ≤ n ∧ i = .int .i64 k ∧ Hid (l.take k = r.take k) ∧ Nw w wr) (fun i _ => n - (intOf i).toNat)
    case atStart => exact ⟨0, by omega, rfl, rfl, Nw.refl _⟩
    case round =>
      obtain ⟨k, hk, rfl, heq, d, rfl⟩ := hrel
      by_cases hlt : k < n
      · obtain ⟨b, o, x, rfl, hb, hx, hcx⟩ := HL.out.get hlt
        obtain ⟨b', o', y, rfl, hb', hy, hcy⟩ := HR.out.get hlt
        haveI : CallAt w b (o + k * 18) x := ⟨hcx, hb⟩
        haveI : CallAt w b' (o' + k * 18) y := ⟨hcy, hb'⟩
        have HX := Lib.hid hx
        have HY := Lib.hid hy
        have hkn : (k : Int) < (n : Int) := by omega
        clear hx hy hcx hcy
        go_wp2
        by_cases he : x = y
        · have hd : decide (x = y) = true := by simpa using he
          have HE := Lib.hid he
          clear he
          (refine wp_region_nw (by kernel_rfl) (by kernel_rfl) ?_; (repeat (go_big_quiet_step (fail))); refine wpQuiet_nil ?_; intro _ hreg; obtain ⟨dW, rfl⟩ : Nw _ _ := hreg)
          go_wp2
          refine ⟨⟨k + 1, by omega, by go_num, ?_, (by repeat (first | exact Xt.Nw.refl _ | refine Xt.Nw.drew ?_ | refine Xt.Nw.drewN ?_ _ | refine Xt.Nw.alloc ?_ _ | refine Xt.Nw.joined ?_ | refine Xt.Nw.drewd ?_ | refine Xt.Nw.drewdN ?_ | refine Xt.Nw.ext ?_ | refine Xt.Nw.ext_some ?_ (by assumption) | refine Xt.Nw.setCell ?_ (by simp [go_sem] <;> omega) _))⟩, by simp [intOf]; omega⟩
          show _ = _
          obtain ⟨p1, q1⟩ := List.getElem?_eq_some_iff.1 HX.out
          obtain ⟨p2, q2⟩ := List.getElem?_eq_some_iff.1 HY.out
          rw [List.take_succ_eq_append_getElem p1, List.take_succ_eq_append_getElem p2, q1, q2, heq.out, HE.out]
        · have hd : decide (x = y) = false := by simpa using he
          have HE := Lib.hid he
          clear he
          (refine wp_region_nw (by kernel_rfl) (by kernel_rfl) ?_; (repeat (go_big_quiet_step (fail))); refine wpQuiet_nil ?_; intro _ hreg; obtain ⟨dW, rfl⟩ : Nw _ _ := hreg)
          go_wp2
          go_ret
          refine ⟨ret_bool ?_, (by repeat (first | exact Xt.Nw.refl _ | refine Xt.Nw.drew ?_ | refine Xt.Nw.drewN ?_ _ | refine Xt.Nw.alloc ?_ _ | refine Xt.Nw.joined ?_ | refine Xt.Nw.drewd ?_ | refine Xt.Nw.drewdN ?_ | refine Xt.Nw.ext ?_ | refine Xt.Nw.ext_some ?_ (by assumption) | refine Xt.Nw.setCell ?_ (by simp [go_sem] <;> omega) _))⟩
          symm
          rw [decide_eq_false_iff_not]
          intro e
          have h1 := HX.out
          rw [e, HY.out] at h1
          injection h1 with h1
          exact HE.out h1.symm
      · have hkn : k = n := by omega
        go_wp2
        go_ret
        refine ⟨ret_bool ?_, (by repeat (first | exact Xt.Nw.refl _ | refine Xt.Nw.drew ?_ | refine Xt.Nw.drewN ?_ _ | refine Xt.Nw.alloc ?_ _ | refine Xt.Nw.joined ?_ | refine Xt.Nw.drewd ?_ | refine Xt.Nw.drewdN ?_ | refine Xt.Nw.ext ?_ | refine Xt.Nw.ext_some ?_ (by assumption) | refine Xt.Nw.setCell ?_ (by simp [go_sem] <;> omega) _))⟩
        have h1 := heq.out
        rw [hkn, List.take_of_length_le (by omega), List.take_of_length_le (by omega)] at h1
        simp [h1]
  · have hd : decide (n = m) = false := by simpa using hnm
    have hd2 : ((n : Int) != (m : Int)) = true := by simp; omega
    go_enter Try.func21, Try.ntmps21
    go_wp2
    all_goals first
      | (exfalso; omega)
      | (go_ret; refine ⟨ret_bool ?_, (by repeat (first | exact Xt.Nw.refl _ | refine Xt.Nw.drew ?_ | refine Xt.Nw.drewN ?_ _ | refine Xt.Nw.alloc ?_ _ | refine Xt.Nw.joined ?_ | refine Xt.Nw.drewd ?_ | refine Xt.Nw.drewdN ?_ | refine Xt.Nw.ext ?_ | refine Xt.Nw.ext_some ?_ (by assumption) | refine Xt.Nw.setCell ?_ (by simp [go_sem] <;> omega) _))⟩; symm; rw [decide_eq_false_iff_not]; intro e; exact hnm (by rw [← hln, ← hrn, e]))
end Go.Proofs.Ytjpgechcfkhoaaa
