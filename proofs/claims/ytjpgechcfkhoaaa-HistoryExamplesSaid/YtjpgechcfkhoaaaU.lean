import Derived.Test.YtjpgechcfkhoaaaS
namespace Go.Proofs.Ytjpgechcfkhoaaa
open Go.RowKit Go.Xt
theorem ints_len (l : List Int) : (ints l).length = l.length := by simp [ints]
theorem ints_one (l : List Int) : ∀ u ∈ ints l, u.oneCell' = true := by
  intro u hu
  simp only [ints, List.mem_map] at hu
  obtain ⟨x, _, rfl⟩ := hu
  rfl
theorem Is.rd {w : World} {A : Option Addr} {n : Nat} {l : List Int} (h : Is w A n l) : Rd w 1 A n (ints l) :=
  ⟨by rw [ints_len, h.1]; omega, fun hn => by
    obtain ⟨b, o, rfl, hb, hc⟩ := h.2 hn
    refine ⟨b, o, rfl, hb, fun j u hu => ?_⟩
    simp only [ints, List.getElem?_map, Option.map_eq_some_iff] at hu
    obtain ⟨x, hx, rfl⟩ := hu
    exact hc j x hx⟩
set_option maxRecDepth 20000 in
set_option maxHeartbeats 4000000 in
theorem equalInts_any (A B : Option Addr) (n m c c' : Nat) (l r : List Int) (w : World) (hn : n ≤ 1000) (hm : m ≤ 1000) (hl : Is w A n l) (hr : Is w B m r) :
    Calls Try.prog 22 #[.slice A n c, .slice B m c'] w fun e w' => e = .returned (.bool (decide (l = r))) ∧ Nw w w' := by
  have HL := Lib.hid hl
  have HR := Lib.hid hr
  have hln := hl.1
  have hrn := hr.1
  clear hl hr
  by_cases hnm : n = m
  · subst hnm
    go_enter Try.func22, Try.ntmps22
    go_wp2
    go_loopw [5] (fun i wr => ∃ k : Nat, k ≤ n ∧ i = .int .i64 k ∧ Hid (l.take k = r.take k) ∧ Nw w wr) (fun i _ => n - (intOf i).toNat)
    case atStart => exact ⟨0, by omega, rfl, rfl, Nw.refl _⟩
    case round =>
      obtain ⟨k, hk, rfl, heq, d, rfl⟩ := hrel
      by_cases hlt : k < n
      · obtain ⟨b, o, x, rfl, hb, hx, hcx⟩ := HL.out.get hlt
        obtain ⟨b', o', y, rfl, hb', hy, hcy⟩ := HR.out.get hlt
        haveI : In b w := ⟨hb⟩
        haveI : In b' w := ⟨hb'⟩
        have HX := Lib.hid hx
        have HY := Lib.hid hy
        have hkn : (k : Int) < (n : Int) := by omega
        clear hx hy
        by_cases he : x = y
        · have hd : (x != y) = false := by simpa using he
          have HE := Lib.hid he
          clear he
          go_wp2
          (refine wp_region_nw (by kernel_rfl) (by kernel_rfl) ?_; (repeat (go_big_quiet_step (fail))); refine wpQuiet_nil ?_; intro _ hreg; obtain ⟨dW, rfl⟩ : Nw _ _ := hreg)
          go_wp2
          refine ⟨⟨k + 1, by omega, by go_num, ?_, (by repeat (first | exact Xt.Nw.refl _ | refine Xt.Nw.drew ?_ | refine Xt.Nw.drewN ?_ _ | refine Xt.Nw.alloc ?_ _ | refine Xt.Nw.joined ?_ | refine Xt.Nw.drewd ?_ | refine Xt.Nw.drewdN ?_ | refine Xt.Nw.ext ?_ | refine Xt.Nw.ext_some ?_ (by assumption) | refine Xt.Nw.setCell ?_ (by simp [go_sem] <;> omega) _))⟩, by simp [intOf]; omega⟩
          show _ = _
          obtain ⟨p1, q1⟩ := List.getElem?_eq_some_iff.1 HX.out
          obtain ⟨p2, q2⟩ := List.getElem?_eq_some_iff.1 HY.out
          rw [List.take_succ_eq_append_getElem p1, List.take_succ_eq_append_getElem p2, q1, q2, heq.out, HE.out]
        · have hd : (x != y) = true := by simpa using he
          have HE := Lib.hid he
          clear he
          go_wp2
          (refine wp_region_nw (by kernel_rfl) (by kernel_rfl) ?_; (repeat (go_big_quiet_step (fail))); refine wpQuiet_nil ?_; intro _ hreg; obtain ⟨dW, rfl⟩ : Nw _ _ := hreg)
          go_wp2
          go_ret
          refine ⟨ret_bool ?_, (by repeat (first | exact Xt.Nw.refl _ | refine Xt.Nw.drew ?_ | refine Xt.Nw.drewN ?_ _ | refine Xt.Nw.alloc ?_ _ | refine Xt.Nw.joined ?_ | refine Xt.Nw.drewd ?_ | refine Xt.Nw.drewdN ?_ | refine Xt.Nw.ext ?_ | refine Xt.Nw.ext_some ?_ (by assumption) | refine Xt.Nw.setCell ?_ (by simp [go_sem] <;> omega) _))⟩
          symm
          rw [decide_eq_false_iff_not]
          intro e
          have h1 := HX.out
          rw [e, HY.out] at h1
          injection h1 with h1
          exact HE.out h1.symm
      · have hkn : k = n := by omega
        go_wp2
        go_ret
        refine ⟨ret_bool ?_, (by repeat (first | exact Xt.Nw.refl _ | refine Xt.Nw.drew ?_ | refine Xt.Nw.drewN ?_ _ | refine Xt.Nw.alloc ?_ _ | refine Xt.Nw.joined ?_ | refine Xt.Nw.drewd ?_ | refine Xt.Nw.drewdN ?_ | refine Xt.Nw.ext ?_ | refine Xt.Nw.ext_some ?_ (by assumption) | refine Xt.Nw.setCell ?_ (by simp [go_sem] <;> omega) _))⟩
        have h1 := heq.out
        rw [hkn, List.take_of_length_le (by omega), List.take_of_length_le (by omega)] at h1
        simp [h1]
  · have hd2 : ((n : Int) != (m : Int)) = true := by simp; omega
    go_enter Try.func22, Try.ntmps22
    go_wp2
    all_goals first
      | (exfalso; omega)
      | (go_ret; refine ⟨ret_bool ?_, (by repeat (first | exact Xt.Nw.refl _ | refine Xt.Nw.drew ?_ | refine Xt.Nw.drewN ?_ _ | refine Xt.Nw.alloc ?_ _ | refine Xt.Nw.joined ?_ | refine Xt.Nw.drewd ?_ | refine Xt.Nw.drewdN ?_ | refine Xt.Nw.ext ?_ | refine Xt.Nw.ext_some ?_ (by assumption) | refine Xt.Nw.setCell ?_ (by simp [go_sem] <;> omega) _))⟩; symm; rw [decide_eq_false_iff_not]; intro e; exact hnm (by rw [← hln, ← hrn, e]))
set_option maxHeartbeats 2000000 in
theorem copyInts_any (A : Option Addr) (n c : Nat) (l : List Int) (w : World) (hn : n ≤ 1000) (hl : Is w A n l) :
    Calls Try.prog 24 #[.slice A n c] w fun e w' => ∃ v, e = .returned v ∧ OwnI w' w.heap.size v l ∧ Nw w w' := by
  have HL := Lib.hid hl
  have hlen := hl.1
  clear hl
  go_enter Try.func24, Try.ntmps24
  go_wp2_with (at_builtin; refine wpList_appS rfl _ _ 30 rfl 3 (.int .i64 0) 1 8 Try.underlying30 intInfo rfl (by decide) w _ (Nw.refl w) _ 0 [] rfl (World.ownsRow_nil _ _ _ _) _ n c (ints l) rfl HL.out.rd (ints_one l) (by unfold maxLen; omega) (by omega) ?_; intro vA dA hownA hnil)
  have h' : OwnI (w.ext none dA) w.heap.size vA l := OwnI.cast hownA (by omega) (by simp)
  refine bodyPost_ret (results_tmp rfl _ _ _) rfl ⟨vA, rfl, h', (by repeat (first | exact Xt.Nw.refl _ | refine Xt.Nw.drew ?_ | refine Xt.Nw.drewN ?_ _ | refine Xt.Nw.alloc ?_ _ | refine Xt.Nw.joined ?_ | refine Xt.Nw.drewd ?_ | refine Xt.Nw.drewdN ?_ | refine Xt.Nw.ext ?_ | refine Xt.Nw.ext_some ?_ (by assumption) | refine Xt.Nw.setCell ?_ (by simp [go_sem] <;> omega) _))⟩
set_option maxHeartbeats 2000000 in
theorem few_any (A : Option Addr) (n c : Nat) (l : List Cl) (w : World) (hnc : n ≤ c) (hc : c ≤ 9223372036854775807) (hl : Cs w A n l) :
    Calls Try.prog 10 #[.slice A n c] w fun e w' => ∃ v, e = .returned v ∧ OwnC w' w.heap.size v (l.take 40) ∧ Nw w w' := by
  have HL := Lib.hid hl
  have hlen := hl.1
  clear hl
  by_cases h40 : n ≤ 40
  · have hcc := copyCalls_any A n c l w (by omega) HL.out
    go_enter Try.func10, Try.ntmps10
    go_wp2_with (go_at_call 31; refine hcc.mono ?_; rintro e w' ⟨v, rfl, hv, dW, rfl⟩)
    have h' : OwnC (w.ext none dW) w.heap.size v (l.take 40) := by rw [List.take_of_length_le (by omega)]; exact hv
    refine bodyPost_ret (results_tmp rfl _ _ _) rfl ⟨v, rfl, h', (by repeat (first | exact Xt.Nw.refl _ | refine Xt.Nw.drew ?_ | refine Xt.Nw.drewN ?_ _ | refine Xt.Nw.alloc ?_ _ | refine Xt.Nw.joined ?_ | refine Xt.Nw.drewd ?_ | refine Xt.Nw.drewdN ?_ | refine Xt.Nw.ext ?_ | refine Xt.Nw.ext_some ?_ (by assumption) | refine Xt.Nw.setCell ?_ (by simp [go_sem] <;> omega) _))⟩
  · have hmin : min (n : Int) 40 = 40 := by omega
    have hcc := copyCalls_any A 40 c (l.take 40) w (by omega) (HL.out.take (by omega))
    go_enter Try.func10, Try.ntmps10
    go_wp2_with (go_at_call 31; refine hcc.mono ?_; rintro e w' ⟨v, rfl, hv, dW, rfl⟩)
    refine bodyPost_ret (results_tmp rfl _ _ _) rfl ⟨v, rfl, hv, (by repeat (first | exact Xt.Nw.refl _ | refine Xt.Nw.drew ?_ | refine Xt.Nw.drewN ?_ _ | refine Xt.Nw.alloc ?_ _ | refine Xt.Nw.joined ?_ | refine Xt.Nw.drewd ?_ | refine Xt.Nw.drewdN ?_ | refine Xt.Nw.ext ?_ | refine Xt.Nw.ext_some ?_ (by assumption) | refine Xt.Nw.setCell ?_ (by simp [go_sem] <;> omega) _))⟩
/-- Where a number lies in a list, counted from k, or -1. -/
def plF : List Int → Int → Nat → Int
  | [], _, _ => -1
  | y :: l, i, k => if y = i then (k : Int) else plF l i (k + 1)
set_option maxRecDepth 20000 in
set_option maxHeartbeats 2000000 in
theorem place_any (A : Option Addr) (n c : Nat) (l : List Int) (i : Int) (w : World) (hn : n ≤ 1000) (hl : Is w A n l) :
    Calls Try.prog 43 #[.slice A n c, .int .i64 i] w fun e w' => e = .returned (.int .i64 (plF l i 0)) ∧ Nw w w' := by
  have HL := Lib.hid hl
  have hlen := hl.1
  clear hl
  go_enter Try.func43, Try.ntmps43
  go_wp2
  go_loopw [5] (fun a wr => ∃ k : Nat, k ≤ n ∧ a = .int .i64 k ∧ Hid (plF l i 0 = plF (l.drop k) i k) ∧ Nw w wr) (fun i _ => n - (intOf i).toNat)
  case atStart => exact ⟨0, by omega, rfl, rfl, Nw.refl _⟩
  case round =>
    obtain ⟨k, hk, rfl, heq, d, rfl⟩ := hrel
    by_cases hlt : k < n
    · obtain ⟨b, o, x, rfl, hb, hx, hcx⟩ := HL.out.get hlt
      haveI : In b w := ⟨hb⟩
      have HX := Lib.hid hx
      have hkn : (k : Int) < (n : Int) := by omega
      have hs : plF (l.drop k) i k = if x = i then (k : Int) else plF (l.drop (k + 1)) i (k + 1) := by
        obtain ⟨p1, q1⟩ := List.getElem?_eq_some_iff.1 HX.out
        rw [List.drop_eq_getElem_cons p1, q1, plF]
      have HS := Lib.hid hs
      clear hx hs
      by_cases he : x = i
      · have hd : (x == i) = true := by simpa using he
        have HE := Lib.hid he
        clear he
        go_wp2
        have e0 : plF l i 0 = (k : Int) := by rw [heq.out, HS.out, if_pos HE.out]
        go_ret
        exact ⟨by rw [e0]; rfl, (by repeat (first | exact Xt.Nw.refl _ | refine Xt.Nw.drew ?_ | refine Xt.Nw.drewN ?_ _ | refine Xt.Nw.alloc ?_ _ | refine Xt.Nw.joined ?_ | refine Xt.Nw.drewd ?_ | refine Xt.Nw.drewdN ?_ | refine Xt.Nw.ext ?_ | refine Xt.Nw.ext_some ?_ (by assumption) | refine Xt.Nw.setCell ?_ (by simp [go_sem] <;> omega) _))⟩
      · have hd : (x == i) = false := by simpa using he
        have HE := Lib.hid he
        clear he
        go_wp2
        refine ⟨⟨k + 1, by omega, by go_num, ?_, (by repeat (first | exact Xt.Nw.refl _ | refine Xt.Nw.drew ?_ | refine Xt.Nw.drewN ?_ _ | refine Xt.Nw.alloc ?_ _ | refine Xt.Nw.joined ?_ | refine Xt.Nw.drewd ?_ | refine Xt.Nw.drewdN ?_ | refine Xt.Nw.ext ?_ | refine Xt.Nw.ext_some ?_ (by assumption) | refine Xt.Nw.setCell ?_ (by simp [go_sem] <;> omega) _))⟩, by simp [intOf]; omega⟩
        show _ = _
        rw [heq.out, HS.out, if_neg HE.out]
    · have hkn : k = n := by omega
      go_wp2
      have e0 : plF l i 0 = -1 := by rw [heq.out, List.drop_eq_nil_of_le (by omega)]; rfl
      go_ret
      exact ⟨by rw [e0]; rfl, (by repeat (first | exact Xt.Nw.refl _ | refine Xt.Nw.drew ?_ | refine Xt.Nw.drewN ?_ _ | refine Xt.Nw.alloc ?_ _ | refine Xt.Nw.joined ?_ | refine Xt.Nw.drewd ?_ | refine Xt.Nw.drewdN ?_ | refine Xt.Nw.ext ?_ | refine Xt.Nw.ext_some ?_ (by assumption) | refine Xt.Nw.setCell ?_ (by simp [go_sem] <;> omega) _))⟩
end Go.Proofs.Ytjpgechcfkhoaaa
