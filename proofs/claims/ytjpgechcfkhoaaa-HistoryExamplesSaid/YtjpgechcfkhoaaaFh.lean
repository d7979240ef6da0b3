import Derived.Test.YtjpgechcfkhoaaaFg
import Derived.Test.YtjpgechcfkhoaaaEa
import Derived.Deep.RegionHeld3
import Derived.Deep.DeepCutAuto
namespace Go.Proofs.Ytjpgechcfkhoaaa
open Go.RowKit Go.Xt Go.Shelf
theorem ex_eff {ys : List Nat} (h : EffP exL ys) : ys = [0, 1, 2] :=
  (h.1 ex_bad).unique (eff_of ex_bad (by decide) (by decide))
theorem ex_chkE : chkE exL = 0 := by rw [chkE, if_pos ex_bad]
/-- A load of a call in whatever world grows out of this one. -/
theorem load_nw {W : World} {b : Nat} {n i : Nat} {l : List Cl} {c : Cl} (h : Cs W (some ⟨b, 0, none⟩) n l) (hi : l[i]? = some c) (off : Nat) (ho : off = i * 18) (W' : World) (hn : Nw W W') : (loadCall (.pointer (some ⟨b, off, none⟩))).run Try.prog W' = .ok (cv c) W' := by
  obtain ⟨b', o', e, hb, hc⟩ := (h.nw hn).2 (by have := (List.getElem?_eq_some_iff.1 hi).1; rw [← h.1]; omega)
  obtain ⟨rfl, rfl⟩ : b = b' ∧ 0 = o' := by simpa using e
  subst ho
  haveI : CallAt W' b (i * 18) c := ⟨by have := hc i c hi; rwa [Nat.zero_add] at this, hb⟩
  exact run_loadCall
set_option maxRecDepth 20000 in
set_option maxHeartbeats 8000000 in
theorem awake_any (w : World) : Calls Try.prog 23 #[] w fun e w' => e = .returned (.bool true) ∧ Nw w w' := by
  have f02 := ex_f02
  have f13 := ex_f13
  have f01 := ex_f01
  have f23 := ex_f23
  have f32 := ex_f32
  go_enter Try.func23, Try.ntmps23
  go_wp2_with fail
  refine (example_any _).mono ?_
  rintro e w' ⟨rfl, hc1, hz1, dW, rfl⟩
  have hN1 : Nw w (w.ext none dW) := (by repeat (first | exact Xt.Nw.refl _ | refine Xt.Nw.drew ?_ | refine Xt.Nw.drewN ?_ _ | refine Xt.Nw.alloc ?_ _ | refine Xt.Nw.joined ?_ | refine Xt.Nw.drewd ?_ | refine Xt.Nw.drewdN ?_ | refine Xt.Nw.ext ?_ | refine Xt.Nw.ext_some ?_ (by assumption) | refine Xt.Nw.setCell ?_ (by simp [go_sem] <;> omega) _))
  have hg1 : w.heap.size < (w.ext none dW).heap.size := (hc1.2 (by omega)).elim fun b h => h.elim fun o h => by obtain ⟨e, hb, _⟩ := h; injection e with e; injection e with e1 e2; omega
  generalize w.ext none dW = W1 at *
  have hgs : w.heap.size ≤ w.heap.size := Nat.le_refl _
  generalize hg : w.heap.size = g at *
  haveI : In g W1 := ⟨hg1⟩
  have HN1 := Lib.hid hN1
  have HC1 := Lib.hid hc1
  have HZ1 := Lib.hid hz1
  have HG := Lib.hid hg
  clear hN1 hc1 hz1 hg hgs
  go_wp2_with fail
  refine (check_any _ 4 4 exL _ (by omega) (by omega) (by omega) HC1.out ex_wf).mono ?_
  rw [ex_chk]
  rintro e w' ⟨rfl, dW, rfl⟩
  go_wp2_with fail
  refine (effects_any _ 4 4 exL _ (by omega) (by omega) (by omega) (HC1.out.nw ((by repeat (first | exact Xt.Nw.refl _ | refine Xt.Nw.drew ?_ | refine Xt.Nw.drewN ?_ _ | refine Xt.Nw.alloc ?_ _ | refine Xt.Nw.joined ?_ | refine Xt.Nw.drewd ?_ | refine Xt.Nw.drewdN ?_ | refine Xt.Nw.ext ?_ | refine Xt.Nw.ext_some ?_ (by assumption) | refine Xt.Nw.setCell ?_ (by simp [go_sem] <;> omega) _)))) ex_wf).mono ?_
  rw [ex_chkE]
  rintro e w' ⟨v, ys, rfl, hP, hown, d2, rfl⟩
  obtain rfl := ex_eff hP
  obtain ⟨A, c, rfl, his⟩ := hown.form
  rw [show (natI [0, 1, 2]).length = 3 from rfl] at his ⊢
  have hN2 : Nw W1 ((W1.ext none dW).ext none d2) := (by repeat (first | exact Xt.Nw.refl _ | refine Xt.Nw.drew ?_ | refine Xt.Nw.drewN ?_ _ | refine Xt.Nw.alloc ?_ _ | refine Xt.Nw.joined ?_ | refine Xt.Nw.drewd ?_ | refine Xt.Nw.drewdN ?_ | refine Xt.Nw.ext ?_ | refine Xt.Nw.ext_some ?_ (by assumption) | refine Xt.Nw.setCell ?_ (by simp [go_sem] <;> omega) _))
  generalize (W1.ext none dW).ext none d2 = W2 at *
  have HN2 := Lib.hid hN2
  have HI := Lib.hid his
  have hC2 := HC1.out.nw hN2
  have HC2 := Lib.hid hC2
  haveI : In g W2 := ⟨Nat.lt_of_lt_of_le hg1 hN2.grown.size⟩
  have l0 := Lib.hid (fun W => load_nw hC2 (i := 0) rfl 0 rfl W)
  have l1 := Lib.hid (fun W => load_nw hC2 (i := 1) rfl 18 rfl W)
  have l2 := Lib.hid (fun W => load_nw hC2 (i := 2) rfl 36 rfl W)
  have l3 := Lib.hid (fun W => load_nw hC2 (i := 3) rfl 54 rfl W)
  clear hN2 hP hown his hC2
  go_upto_region 4 with (fail)
  go_cut [88] (fun v wx => v = .bool false ∧ Nw W2 wx)
  case first =>
    go_region_held3 (fun w' => (loadCall (.pointer (some ⟨g, 0, none⟩))).run Try.prog w' = .ok (cv x0) w' ∧ (loadCall (.pointer (some ⟨g, 18, none⟩))).run Try.prog w' = .ok (cv x1) w' ∧ (loadCall (.pointer (some ⟨g, 36, none⟩))).run Try.prog w' = .ok (cv x2) w' ∧ (loadCall (.pointer (some ⟨g, 54, none⟩))).run Try.prog w' = .ok (cv x3) w' ∧ Nw W2 w')
      (exact ⟨l0.out _ (by (repeat (first | exact Xt.Nw.refl _ | assumption | (exact (‹_ ∧ _ ∧ _ ∧ _ ∧ Xt.Nw _ _›).2.2.2.2) | refine Xt.Nw.drew ?_ | refine Xt.Nw.drewN ?_ _ | refine Xt.Nw.alloc ?_ _ | refine Xt.Nw.ext ?_))), l1.out _ (by (repeat (first | exact Xt.Nw.refl _ | assumption | (exact (‹_ ∧ _ ∧ _ ∧ _ ∧ Xt.Nw _ _›).2.2.2.2) | refine Xt.Nw.drew ?_ | refine Xt.Nw.drewN ?_ _ | refine Xt.Nw.alloc ?_ _ | refine Xt.Nw.ext ?_))), l2.out _ (by (repeat (first | exact Xt.Nw.refl _ | assumption | (exact (‹_ ∧ _ ∧ _ ∧ _ ∧ Xt.Nw _ _›).2.2.2.2) | refine Xt.Nw.drew ?_ | refine Xt.Nw.drewN ?_ _ | refine Xt.Nw.alloc ?_ _ | refine Xt.Nw.ext ?_))), l3.out _ (by (repeat (first | exact Xt.Nw.refl _ | assumption | (exact (‹_ ∧ _ ∧ _ ∧ _ ∧ Xt.Nw _ _›).2.2.2.2) | refine Xt.Nw.drew ?_ | refine Xt.Nw.drewN ?_ _ | refine Xt.Nw.alloc ?_ _ | refine Xt.Nw.ext ?_))), by (repeat (first | exact Xt.Nw.refl _ | assumption | (exact (‹_ ∧ _ ∧ _ ∧ _ ∧ Xt.Nw _ _›).2.2.2.2) | refine Xt.Nw.drew ?_ | refine Xt.Nw.drewN ?_ _ | refine Xt.Nw.alloc ?_ _ | refine Xt.Nw.ext ?_))⟩)
      ((first | (go_at_call 22; refine (equalInts_any _ _ 3 3 _ _ [0, 1, 2] [0, 1, 2] _ (by omega) (by omega) (HI.out.nw (by (repeat (first | exact Xt.Nw.refl _ | assumption | (exact (‹_ ∧ _ ∧ _ ∧ _ ∧ Xt.Nw _ _›).2.2.2.2) | refine Xt.Nw.drew ?_ | refine Xt.Nw.drewN ?_ _ | refine Xt.Nw.alloc ?_ _ | refine Xt.Nw.ext ?_)))) ((Is_three W2 0 1 2 3).nw (by (repeat (first | exact Xt.Nw.refl _ | assumption | (exact (‹_ ∧ _ ∧ _ ∧ _ ∧ Xt.Nw _ _›).2.2.2.2) | refine Xt.Nw.drew ?_ | refine Xt.Nw.drewN ?_ _ | refine Xt.Nw.alloc ?_ _ | refine Xt.Nw.ext ?_))))).mono ?_; rintro e w' ⟨rfl, dW, rfl⟩) | (go_at_call 30; refine (before_any _ _ _).mono ?_; rintro e w' ⟨rfl, dW, rfl⟩)))
    all_goals (try go_wp2)
    all_goals go_meet
    all_goals exact ⟨by simp, by (repeat (first | exact Xt.Nw.refl _ | assumption | (exact (‹_ ∧ _ ∧ _ ∧ _ ∧ Xt.Nw _ _›).2.2.2.2) | refine Xt.Nw.drew ?_ | refine Xt.Nw.drewN ?_ _ | refine Xt.Nw.alloc ?_ _ | refine Xt.Nw.ext ?_))⟩
  case rest =>
    obtain ⟨hv, dX, rfl⟩ := hcut
    subst hv
    clear l0 l1 l2 l3 HI f02 f13 f01 f23 f32
    -- Agrees, thrice
    go_wp2_with fail
    refine (agrees_any _ 4 4 [1, 0, 3, 2] _ 4 4 exL _ (by omega) (Is_built _ [1, 0, 3, 2] _ 4 _ rfl rfl) (by decide) (by omega) (by omega) (by omega) (HC2.out.nw ((by repeat (first | exact Xt.Nw.refl _ | refine Xt.Nw.drew ?_ | refine Xt.Nw.drewN ?_ _ | refine Xt.Nw.alloc ?_ _ | refine Xt.Nw.joined ?_ | refine Xt.Nw.drewd ?_ | refine Xt.Nw.drewdN ?_ | refine Xt.Nw.ext ?_ | refine Xt.Nw.ext_some ?_ (by assumption) | refine Xt.Nw.setCell ?_ (by simp [go_sem] <;> omega) _)))) ex_wf).mono ?_
    rw [ex_b1, ex_a1]
    rintro e w' ⟨rfl, dW, rfl⟩
    go_wp2_with fail
    refine (agrees_any _ 3 3 [0, 2, 1] _ 4 4 exL _ (by omega) (Is_built _ [0, 2, 1] _ 3 _ rfl rfl) (by decide) (by omega) (by omega) (by omega) (HC2.out.nw ((by repeat (first | exact Xt.Nw.refl _ | refine Xt.Nw.drew ?_ | refine Xt.Nw.drewN ?_ _ | refine Xt.Nw.alloc ?_ _ | refine Xt.Nw.joined ?_ | refine Xt.Nw.drewd ?_ | refine Xt.Nw.drewdN ?_ | refine Xt.Nw.ext ?_ | refine Xt.Nw.ext_some ?_ (by assumption) | refine Xt.Nw.setCell ?_ (by simp [go_sem] <;> omega) _)))) ex_wf).mono ?_
    rw [ex_b2, ex_a2]
    rintro e w' ⟨rfl, dW, rfl⟩
    go_wp2_with fail
    refine (agrees_any _ 1 1 [2] _ 4 4 exL _ (by omega) (Is_built _ [2] _ 1 _ rfl rfl) (by decide) (by omega) (by omega) (by omega) (HC2.out.nw ((by repeat (first | exact Xt.Nw.refl _ | refine Xt.Nw.drew ?_ | refine Xt.Nw.drewN ?_ _ | refine Xt.Nw.alloc ?_ _ | refine Xt.Nw.joined ?_ | refine Xt.Nw.drewd ?_ | refine Xt.Nw.drewdN ?_ | refine Xt.Nw.ext ?_ | refine Xt.Nw.ext_some ?_ (by assumption) | refine Xt.Nw.setCell ?_ (by simp [go_sem] <;> omega) _)))) ex_wf).mono ?_
    rw [ex_b3, ex_a3]
    rintro e w' ⟨rfl, dW, rfl⟩
    go_wp2_with (first | (go_at_call 29; refine (yes_any _ _ _).mono ?_; rintro e w' ⟨rfl, dW, rfl⟩) | (go_at_call 42; refine (no_any _ _ _ _).mono ?_; rintro e w' ⟨rfl, dW, rfl⟩))
    refine (prefix_any 4 _ 4 4 exL _ (by omega) (by omega) (by omega) (HC2.out.nw ((by repeat (first | exact Xt.Nw.refl _ | refine Xt.Nw.drew ?_ | refine Xt.Nw.drewN ?_ _ | refine Xt.Nw.alloc ?_ _ | refine Xt.Nw.joined ?_ | refine Xt.Nw.drewd ?_ | refine Xt.Nw.drewdN ?_ | refine Xt.Nw.ext ?_ | refine Xt.Nw.ext_some ?_ (by assumption) | refine Xt.Nw.setCell ?_ (by simp [go_sem] <;> omega) _)))) ex_wf).mono ?_
    rw [ex_p0, ex_p1]
    rintro e W3 ⟨v, rfl, hown, hnw⟩
    have hN3 : Nw W2 W3 := Nw.trans ((by repeat (first | exact Xt.Nw.refl _ | refine Xt.Nw.drew ?_ | refine Xt.Nw.drewN ?_ _ | refine Xt.Nw.alloc ?_ _ | refine Xt.Nw.joined ?_ | refine Xt.Nw.drewd ?_ | refine Xt.Nw.drewdN ?_ | refine Xt.Nw.ext ?_ | refine Xt.Nw.ext_some ?_ (by assumption) | refine Xt.Nw.setCell ?_ (by simp [go_sem] <;> omega) _))) hnw
    obtain ⟨A3, c3, rfl, hp3, _, _, hA3⟩ := hown.form
    clear hown hnw
    obtain ⟨b3, o3, rfl, hb3, hcc⟩ := hp3.2 (by decide)
    obtain rfl := (hA3 b3 o3 rfl).2
    rw [show [px0, px1].length = 2 from rfl] at hp3 ⊢
    haveI : In b3 W3 := ⟨hb3⟩
    have k10 : W3.cell? ⟨b3, 10, none⟩ = some (.int .i64 4) := (hcc 0 px0 rfl).range 10 _ rfl
    have k11 : W3.cell? ⟨b3, 11, none⟩ = some (.int .i64 (-1)) := (hcc 0 px0 rfl).range 11 _ rfl
    have k12 : W3.cell? ⟨b3, 12, none⟩ = some (.int .i64 0) := (hcc 0 px0 rfl).range 12 _ rfl
    have k28 : W3.cell? ⟨b3, 28, none⟩ = some (.int .i64 (-1)) := (hcc 1 px1 rfl).range 10 _ rfl
    have HP3 := Lib.hid hp3
    have hC3 := HC2.out.nw hN3
    have HC3 := Lib.hid hC3
    haveI : In g W3 := ⟨Nat.lt_of_lt_of_le (In.lt (w := W2)) hN3.grown.size⟩
    have hN13 : Nw W1 W3 := HN2.out.trans hN3
    have hz3 : W3.frozen? ⟨g, 11, none⟩ = false := by
      obtain ⟨d, rfl⟩ := hN13
      rw [frozen_ext]; exact HZ1.out 11
    have hw3 : Nw w W3 := HN1.out.trans hN13
    have h11 : W3.cell? ⟨g, 11, none⟩ = some (.int .i64 7) := by
      obtain ⟨b', o', e, _, hc⟩ := hC3.2 (by omega)
      obtain ⟨rfl, rfl⟩ : g = b' ∧ 0 = o' := by simpa using e
      exact (hc 0 x0 rfl).range 11 _ rfl
    have HW3 := Lib.hid hw3
    have hge : w.heap.size ≤ g := by have := HG.out; omega
    clear hN3 hA3 hcc hp3 hC3 hN13 hw3
    go_wp2_with fail
    refine (pending_any _ 2 _ [px0, px1] _ (by omega) (HP3.out.nw ((by repeat (first | exact Xt.Nw.refl _ | refine Xt.Nw.drew ?_ | refine Xt.Nw.drewN ?_ _ | refine Xt.Nw.alloc ?_ _ | refine Xt.Nw.joined ?_ | refine Xt.Nw.drewd ?_ | refine Xt.Nw.drewdN ?_ | refine Xt.Nw.ext ?_ | refine Xt.Nw.ext_some ?_ (by assumption) | refine Xt.Nw.setCell ?_ (by simp [go_sem] <;> omega) _))))).mono ?_
    rw [ex_p2]
    rintro e w' ⟨v, rfl, hown, dW, rfl⟩
    obtain ⟨A4, c4, rfl, his⟩ := hown.form
    rw [show ([0, 1] : List Int).length = 2 from rfl] at his ⊢
    have HI4 := Lib.hid his
    clear hown his
    go_wp2_with fail
    refine (equalInts_any _ _ 2 2 _ _ [0, 1] [0, 1] _ (by omega) (by omega) (HI4.out.nw ((by repeat (first | exact Xt.Nw.refl _ | refine Xt.Nw.drew ?_ | refine Xt.Nw.drewN ?_ _ | refine Xt.Nw.alloc ?_ _ | refine Xt.Nw.joined ?_ | refine Xt.Nw.drewd ?_ | refine Xt.Nw.drewdN ?_ | refine Xt.Nw.ext ?_ | refine Xt.Nw.ext_some ?_ (by assumption) | refine Xt.Nw.setCell ?_ (by simp [go_sem] <;> omega) _)))) (Is_built _ [0, 1] _ 2 _ rfl rfl)).mono ?_
    rintro e w' ⟨rfl, dW, rfl⟩
    go_wp2_with fail
    refine (of_all 1 _ 4 4 exL _ (by omega) (HC3.out.nw ((by repeat (first | exact Xt.Nw.refl _ | refine Xt.Nw.drew ?_ | refine Xt.Nw.drewN ?_ _ | refine Xt.Nw.alloc ?_ _ | refine Xt.Nw.joined ?_ | refine Xt.Nw.drewd ?_ | refine Xt.Nw.drewdN ?_ | refine Xt.Nw.ext ?_ | refine Xt.Nw.ext_some ?_ (by assumption) | refine Xt.Nw.setCell ?_ (by simp [go_sem] <;> omega) _))))).mono ?_
    rintro e w' ⟨v, rfl, hown, dW, rfl⟩
    obtain ⟨A5, c5, rfl, _⟩ := hown.form
    rw [ex_of1]
    clear hown
    go_wp2_with fail
    refine (check_any _ 4 4 mL0 _ (by omega) (by omega) (by omega) ((Cs.setf HC3.out (off := 11) (v := .int .i64 1) (i := 0) (j := 11) (c := x0) (c' := { x0 with ans := 1 }) rfl (by omega) rfl rfl).nw ((by repeat (first | exact Xt.Nw.refl _ | refine Xt.Nw.drew ?_ | refine Xt.Nw.drewN ?_ _ | refine Xt.Nw.alloc ?_ _ | refine Xt.Nw.joined ?_ | refine Xt.Nw.drewd ?_ | refine Xt.Nw.drewdN ?_ | refine Xt.Nw.ext ?_ | refine Xt.Nw.ext_some ?_ (by assumption) | refine Xt.Nw.setCell ?_ (by simp [go_sem] <;> omega) _)))) ml0_wf).mono ?_
    rw [ex_m0]
    rintro e W6 ⟨rfl, hnw⟩
    have hw6 : Nw w W6 := Nw.trans (Nw.trans (Nw.setCell HW3.out (p := ⟨g, 11, none⟩) hge (.int .i64 1)) ((by repeat (first | exact Xt.Nw.refl _ | refine Xt.Nw.drew ?_ | refine Xt.Nw.drewN ?_ _ | refine Xt.Nw.alloc ?_ _ | refine Xt.Nw.joined ?_ | refine Xt.Nw.drewd ?_ | refine Xt.Nw.drewdN ?_ | refine Xt.Nw.ext ?_ | refine Xt.Nw.ext_some ?_ (by assumption) | refine Xt.Nw.setCell ?_ (by simp [go_sem] <;> omega) _)))) hnw
    have HW6 := Lib.hid hw6
    clear hnw hw6 k10 k11 k12 k28 h11 hz3
    go_wp2_with fail
    refine (example_any _).mono ?_
    rintro e W7 ⟨rfl, hc7, hz7, hn7⟩
    have hw7 : Nw w W7 := HW6.out.trans hn7
    have hge7 : w.heap.size ≤ W6.heap.size := HW6.out.grown.size
    generalize W6.heap.size = g7 at *
    have h10 : W7.cell? ⟨g7, 10, none⟩ = some (.int .i64 4) := by
      obtain ⟨b', o', e, _, hc⟩ := hc7.2 (by omega)
      obtain ⟨rfl, rfl⟩ : g7 = b' ∧ 0 = o' := by simpa using e
      exact (hc 0 x0 rfl).range 10 _ rfl
    haveI : In g7 W7 := ⟨by
      obtain ⟨b', o', e, hb, _⟩ := hc7.2 (by omega)
      obtain ⟨rfl, rfl⟩ : g7 = b' ∧ 0 = o' := by simpa using e
      exact hb⟩
    have hz10 := hz7 10
    have HC7 := Lib.hid hc7
    have HW7 := Lib.hid hw7
    clear hc7 hw7 hz7 hn7
    go_wp2_with fail
    refine (check_any _ 4 4 mL1 _ (by omega) (by omega) (by omega) ((Cs.setf HC7.out (off := 10) (v := .int .i64 5) (i := 0) (j := 10) (c := x0) (c' := { x0 with took := 5 }) rfl (by omega) rfl rfl).nw ((by repeat (first | exact Xt.Nw.refl _ | refine Xt.Nw.drew ?_ | refine Xt.Nw.drewN ?_ _ | refine Xt.Nw.alloc ?_ _ | refine Xt.Nw.joined ?_ | refine Xt.Nw.drewd ?_ | refine Xt.Nw.drewdN ?_ | refine Xt.Nw.ext ?_ | refine Xt.Nw.ext_some ?_ (by assumption) | refine Xt.Nw.setCell ?_ (by simp [go_sem] <;> omega) _)))) ml1_wf).mono ?_
    rw [ex_m1]
    rintro e W8 ⟨rfl, hnw⟩
    have hw8 : Nw w W8 := Nw.trans (Nw.trans (Nw.setCell HW7.out (p := ⟨g7, 10, none⟩) hge7 (.int .i64 5)) ((by repeat (first | exact Xt.Nw.refl _ | refine Xt.Nw.drew ?_ | refine Xt.Nw.drewN ?_ _ | refine Xt.Nw.alloc ?_ _ | refine Xt.Nw.joined ?_ | refine Xt.Nw.drewd ?_ | refine Xt.Nw.drewdN ?_ | refine Xt.Nw.ext ?_ | refine Xt.Nw.ext_some ?_ (by assumption) | refine Xt.Nw.setCell ?_ (by simp [go_sem] <;> omega) _)))) hnw
    have HW8 := Lib.hid hw8
    clear hnw hw8
    go_wp2
    go_ret
    exact ⟨rfl, HW8.out.trans ((by repeat (first | exact Xt.Nw.refl _ | refine Xt.Nw.drew ?_ | refine Xt.Nw.drewN ?_ _ | refine Xt.Nw.alloc ?_ _ | refine Xt.Nw.joined ?_ | refine Xt.Nw.drewd ?_ | refine Xt.Nw.drewdN ?_ | refine Xt.Nw.ext ?_ | refine Xt.Nw.ext_some ?_ (by assumption) | refine Xt.Nw.setCell ?_ (by simp [go_sem] <;> omega) _)))⟩
end Go.Proofs.Ytjpgechcfkhoaaa
