import Derived.Test.YtahagplegmcaaaaGreatGWa
set_option linter.unusedVariables false
set_option linter.unusedSimpArgs false
namespace Go.Proofs.YtahagplegmcaaaaGreat
open Go.RowKit Go.Xt
/-! The reference's merged. -/
set_option maxRecDepth 20000 in
set_option maxHeartbeats 8000000 in
theorem rmerged (w : World) (A B : Option Addr) (n m ca cb : Nat) (a b : List Int) (ha : Rd w 1 A n (kcells a)) (hb : Rd w 1 B m (kcells b)) (hn : n ≤ 1000000) (hm : m ≤ 1000000) (hla : a.length = n) (hlb : b.length = m) :
    Calls Tryz.prog 100 #[.slice A n ca, .slice B m cb] w (MgP w a b) := by
  have HA := Lib.hid ha
  have HB := Lib.hid hb
  have HLA := Lib.hid hla
  have HLB := Lib.hid hlb
  clear ha hb hla hlb
  go_enter Tryz.func100, Tryz.ntmps100
  go_wp2
  go_loopw [5, 6, 7] (fun u i k wr => ∃ p q : Nat, p ≤ n ∧ q ≤ m ∧ i = .int .i64 p ∧ k = .int .i64 q ∧ Nw w wr ∧ ∃ U, U = u ∧ Hid (∃ O, O ++ mg (a.drop p) (b.drop q) = mg a b ∧ O.length ≤ p + q ∧ CollK wr w.heap.size U O))
    (fun _ i k _ => (n - (intOf i).toNat) + (m - (intOf k).toNat))
  case atStart => exact ⟨0, 0, Nat.zero_le _, Nat.zero_le _, rfl, rfl, Nw.refl _, _, rfl, Lib.hid ⟨[], rfl, Nat.le_refl _, World.ownsRow_nil _ _ _ _⟩⟩
  case round =>
    obtain ⟨p, q, hp, hq, rfl, rfl, ⟨d, rfl⟩, u, hu, HC⟩ := hrel
    subst hu
    obtain ⟨O, hf, hol, hown⟩ := HC.out
    have HF := Lib.hid hf
    have HO := Lib.hid hown
    have HOL := Lib.hid hol
    have HP := Lib.hid hp
    have HQ := Lib.hid hq
    have p0 : (0 : Int) ≤ (p : Int) := by omega
    have q0 : (0 : Int) ≤ (q : Int) := by omega
    have p9 : p ≤ 1000000 := by omega
    have q9 : q ≤ 1000000 := by omega
    have hoo : O.length ≤ 2000000 := by omega
    clear HC hf hol hown
    by_cases hpn : p < n
    · have i1 : (p : Int) < (n : Int) := by omega
      obtain ⟨g, o, rfl, hg, hc⟩ := HA.out.2 (by omega)
      haveI : In g w := ⟨hg⟩
      obtain ⟨x, hx⟩ : ∃ x, a[p]? = some x := ⟨_, List.getElem?_eq_getElem (by have := HLA.out; omega)⟩
      have y0 : w.cell? ⟨g, o + p, none⟩ = some (.int .u64 x) := hc _ _ (kcells_get hx)
      have HX := Lib.hid hx
      clear hc hx
      by_cases hqm : q < m
      · have i2 : (q : Int) < (m : Int) := by omega
        have i3 : ((q : Int) == (m : Int)) = false := by simp; omega
        obtain ⟨g2, o2, rfl, hg2, hc2⟩ := HB.out.2 (by omega)
        haveI : In g2 w := ⟨hg2⟩
        obtain ⟨y, hy⟩ : ∃ y, b[q]? = some y := ⟨_, List.getElem?_eq_getElem (by have := HLB.out; omega)⟩
        have y1 : w.cell? ⟨g2, o2 + q, none⟩ = some (.int .u64 y) := hc2 _ _ (kcells_get hy)
        have HY := Lib.hid hy
        clear hc2 hy
        by_cases hxy : x < y
        · have d1 : decide (x < y) = true := by simpa using hxy
          have HXY := Lib.hid hxy
          clear hxy
          go_upto_region 4 with (fail)
          (refine wp_region_nw (by kernel_rfl) (by kernel_rfl) ?_; (repeat (go_big_quiet_step (fail))); refine wpQuiet_nil ?_; intro _ hreg; obtain ⟨dW, rfl⟩ : Nw _ _ := hreg)
          have hown2 : CollK _ _ _ _ := HO.out.nw ((by repeat (first | exact Xt.Nw.refl _ | refine Xt.Nw.drew ?_ | refine Xt.Nw.drewN ?_ _ | refine Xt.Nw.alloc ?_ _ | refine Xt.Nw.joined ?_ | refine Xt.Nw.drewd ?_ | refine Xt.Nw.drewdN ?_ | refine Xt.Nw.ext ?_ | refine Xt.Nw.ext_some ?_ (by assumption) | refine Xt.Nw.setCell ?_ (by simp [go_sem] <;> omega) _)))
          unfold CollK at hown2
          go_wp2_with (at_builtin; refine wpList_app1 rfl _ _ 22 rfl 38 (.int .u64 0) 1 8 Tryz.underlying22 kInfo rfl (by decide) (w) _ (by repeat (first | exact Xt.Nw.refl _ | refine Xt.Nw.drew ?_ | refine Xt.Nw.drewN ?_ _ | refine Xt.Nw.alloc ?_ _ | refine Xt.Nw.joined ?_ | refine Xt.Nw.drewd ?_ | refine Xt.Nw.drewdN ?_ | refine Xt.Nw.ext ?_ | refine Xt.Nw.ext_some ?_ (by assumption) | refine Xt.Nw.setCell ?_ (by simp [go_sem] <;> omega) _)) _ _ _ rfl (by first | assumption | exact own_nw (by assumption) (by repeat (first | exact Xt.Nw.refl _ | refine Xt.Nw.drew ?_ | refine Xt.Nw.drewN ?_ _ | refine Xt.Nw.alloc ?_ _ | refine Xt.Nw.joined ?_ | refine Xt.Nw.drewd ?_ | refine Xt.Nw.drewdN ?_ | refine Xt.Nw.ext ?_ | refine Xt.Nw.ext_some ?_ (by assumption) | refine Xt.Nw.setCell ?_ (by simp [go_sem] <;> omega) _))) _ 1 1 _ _ rfl (by first | rfl | simp) rfl (by intro u hu; simp at hu; (repeat' rcases hu with rfl | hu) <;> first | rfl | (subst hu; rfl)) (by unfold maxLen; omega) (by omega) ?_; intro vA dA hownA)
          have hown3 := CollK.snoc hownA
          have HA3 := Lib.hid hown3
          clear hownA hown2 hown3
          go_wp2
          refine ⟨⟨p + 1, q, by omega, by omega, by go_num, by go_num, (by repeat (first | exact Xt.Nw.refl _ | refine Xt.Nw.drew ?_ | refine Xt.Nw.drewN ?_ _ | refine Xt.Nw.alloc ?_ _ | refine Xt.Nw.joined ?_ | refine Xt.Nw.drewd ?_ | refine Xt.Nw.drewdN ?_ | refine Xt.Nw.ext ?_ | refine Xt.Nw.ext_some ?_ (by assumption) | refine Xt.Nw.setCell ?_ (by simp [go_sem] <;> omega) _)), _, rfl, Lib.hid ⟨O ++ [x], ?_, by have := HOL.out; simp; omega, HA3.out.nw (by exact (by repeat (first | exact Xt.Nw.refl _ | refine Xt.Nw.drew ?_ | refine Xt.Nw.drewN ?_ _ | refine Xt.Nw.alloc ?_ _ | refine Xt.Nw.joined ?_ | refine Xt.Nw.drewd ?_ | refine Xt.Nw.drewdN ?_ | refine Xt.Nw.ext ?_ | refine Xt.Nw.ext_some ?_ (by assumption) | refine Xt.Nw.setCell ?_ (by simp [go_sem] <;> omega) _)))⟩⟩, by simp [intOf]; omega⟩
          rw [List.append_assoc, ← HF.out, mg_drop_l HX.out (.inr ⟨y, HY.out, HXY.out⟩)]; rfl
        · have d1 : decide (x < y) = false := by simpa using hxy
          by_cases hxe : x = y
          · have d2 : (x == y) = true := by simpa using hxe
            have HXY := Lib.hid hxe
            clear hxy hxe
            go_upto_region 4 with (fail)
            (refine wp_region_nw (by kernel_rfl) (by kernel_rfl) ?_; (repeat (go_big_quiet_step (fail))); refine wpQuiet_nil ?_; intro _ hreg; obtain ⟨dW, rfl⟩ : Nw _ _ := hreg)
            go_upto_region 7 with (fail)
            (refine wp_region_nw (by kernel_rfl) (by kernel_rfl) ?_; (repeat (go_big_quiet_step (fail))); refine wpQuiet_nil ?_; intro _ hreg; obtain ⟨dW, rfl⟩ : Nw _ _ := hreg)
            have hown2 : CollK _ _ _ _ := HO.out.nw ((by repeat (first | exact Xt.Nw.refl _ | refine Xt.Nw.drew ?_ | refine Xt.Nw.drewN ?_ _ | refine Xt.Nw.alloc ?_ _ | refine Xt.Nw.joined ?_ | refine Xt.Nw.drewd ?_ | refine Xt.Nw.drewdN ?_ | refine Xt.Nw.ext ?_ | refine Xt.Nw.ext_some ?_ (by assumption) | refine Xt.Nw.setCell ?_ (by simp [go_sem] <;> omega) _)))
            unfold CollK at hown2
            go_wp2_with (at_builtin; refine wpList_app1 rfl _ _ 22 rfl 38 (.int .u64 0) 1 8 Tryz.underlying22 kInfo rfl (by decide) (w) _ (by repeat (first | exact Xt.Nw.refl _ | refine Xt.Nw.drew ?_ | refine Xt.Nw.drewN ?_ _ | refine Xt.Nw.alloc ?_ _ | refine Xt.Nw.joined ?_ | refine Xt.Nw.drewd ?_ | refine Xt.Nw.drewdN ?_ | refine Xt.Nw.ext ?_ | refine Xt.Nw.ext_some ?_ (by assumption) | refine Xt.Nw.setCell ?_ (by simp [go_sem] <;> omega) _)) _ _ _ rfl (by first | assumption | exact own_nw (by assumption) (by repeat (first | exact Xt.Nw.refl _ | refine Xt.Nw.drew ?_ | refine Xt.Nw.drewN ?_ _ | refine Xt.Nw.alloc ?_ _ | refine Xt.Nw.joined ?_ | refine Xt.Nw.drewd ?_ | refine Xt.Nw.drewdN ?_ | refine Xt.Nw.ext ?_ | refine Xt.Nw.ext_some ?_ (by assumption) | refine Xt.Nw.setCell ?_ (by simp [go_sem] <;> omega) _))) _ 1 1 _ _ rfl (by first | rfl | simp) rfl (by intro u hu; simp at hu; (repeat' rcases hu with rfl | hu) <;> first | rfl | (subst hu; rfl)) (by unfold maxLen; omega) (by omega) ?_; intro vA dA hownA)
            have hown3 := CollK.snoc hownA
            have HA3 := Lib.hid hown3
            clear hownA hown2 hown3
            go_wp2
            refine ⟨⟨p + 1, q + 1, by omega, by omega, by go_num, by go_num, (by repeat (first | exact Xt.Nw.refl _ | refine Xt.Nw.drew ?_ | refine Xt.Nw.drewN ?_ _ | refine Xt.Nw.alloc ?_ _ | refine Xt.Nw.joined ?_ | refine Xt.Nw.drewd ?_ | refine Xt.Nw.drewdN ?_ | refine Xt.Nw.ext ?_ | refine Xt.Nw.ext_some ?_ (by assumption) | refine Xt.Nw.setCell ?_ (by simp [go_sem] <;> omega) _)), _, rfl, Lib.hid ⟨O ++ [y], ?_, by have := HOL.out; simp; omega, HA3.out.nw (by exact (by repeat (first | exact Xt.Nw.refl _ | refine Xt.Nw.drew ?_ | refine Xt.Nw.drewN ?_ _ | refine Xt.Nw.alloc ?_ _ | refine Xt.Nw.joined ?_ | refine Xt.Nw.drewd ?_ | refine Xt.Nw.drewdN ?_ | refine Xt.Nw.ext ?_ | refine Xt.Nw.ext_some ?_ (by assumption) | refine Xt.Nw.setCell ?_ (by simp [go_sem] <;> omega) _)))⟩⟩, by simp [intOf]; omega⟩
            rw [List.append_assoc, ← HF.out, mg_drop_e HX.out HY.out HXY.out]; rfl
          · have d2 : (x == y) = false := by simpa using hxe
            have HXY := Lib.hid (show y < x by omega)
            clear hxy hxe
            go_upto_region 4 with (fail)
            (refine wp_region_nw (by kernel_rfl) (by kernel_rfl) ?_; (repeat (go_big_quiet_step (fail))); refine wpQuiet_nil ?_; intro _ hreg; obtain ⟨dW, rfl⟩ : Nw _ _ := hreg)
            go_upto_region 7 with (fail)
            (refine wp_region_nw (by kernel_rfl) (by kernel_rfl) ?_; (repeat (go_big_quiet_step (fail))); refine wpQuiet_nil ?_; intro _ hreg; obtain ⟨dW, rfl⟩ : Nw _ _ := hreg)
            have hown2 : CollK _ _ _ _ := HO.out.nw ((by repeat (first | exact Xt.Nw.refl _ | refine Xt.Nw.drew ?_ | refine Xt.Nw.drewN ?_ _ | refine Xt.Nw.alloc ?_ _ | refine Xt.Nw.joined ?_ | refine Xt.Nw.drewd ?_ | refine Xt.Nw.drewdN ?_ | refine Xt.Nw.ext ?_ | refine Xt.Nw.ext_some ?_ (by assumption) | refine Xt.Nw.setCell ?_ (by simp [go_sem] <;> omega) _)))
            unfold CollK at hown2
            go_wp2_with (at_builtin; refine wpList_app1 rfl _ _ 22 rfl 38 (.int .u64 0) 1 8 Tryz.underlying22 kInfo rfl (by decide) (w) _ (by repeat (first | exact Xt.Nw.refl _ | refine Xt.Nw.drew ?_ | refine Xt.Nw.drewN ?_ _ | refine Xt.Nw.alloc ?_ _ | refine Xt.Nw.joined ?_ | refine Xt.Nw.drewd ?_ | refine Xt.Nw.drewdN ?_ | refine Xt.Nw.ext ?_ | refine Xt.Nw.ext_some ?_ (by assumption) | refine Xt.Nw.setCell ?_ (by simp [go_sem] <;> omega) _)) _ _ _ rfl (by first | assumption | exact own_nw (by assumption) (by repeat (first | exact Xt.Nw.refl _ | refine Xt.Nw.drew ?_ | refine Xt.Nw.drewN ?_ _ | refine Xt.Nw.alloc ?_ _ | refine Xt.Nw.joined ?_ | refine Xt.Nw.drewd ?_ | refine Xt.Nw.drewdN ?_ | refine Xt.Nw.ext ?_ | refine Xt.Nw.ext_some ?_ (by assumption) | refine Xt.Nw.setCell ?_ (by simp [go_sem] <;> omega) _))) _ 1 1 _ _ rfl (by first | rfl | simp) rfl (by intro u hu; simp at hu; (repeat' rcases hu with rfl | hu) <;> first | rfl | (subst hu; rfl)) (by unfold maxLen; omega) (by omega) ?_; intro vA dA hownA)
            have hown3 := CollK.snoc hownA
            have HA3 := Lib.hid hown3
            clear hownA hown2 hown3
            go_wp2
            refine ⟨⟨p, q + 1, by omega, by omega, by go_num, by go_num, (by repeat (first | exact Xt.Nw.refl _ | refine Xt.Nw.drew ?_ | refine Xt.Nw.drewN ?_ _ | refine Xt.Nw.alloc ?_ _ | refine Xt.Nw.joined ?_ | refine Xt.Nw.drewd ?_ | refine Xt.Nw.drewdN ?_ | refine Xt.Nw.ext ?_ | refine Xt.Nw.ext_some ?_ (by assumption) | refine Xt.Nw.setCell ?_ (by simp [go_sem] <;> omega) _)), _, rfl, Lib.hid ⟨O ++ [y], ?_, by have := HOL.out; simp; omega, HA3.out.nw (by exact (by repeat (first | exact Xt.Nw.refl _ | refine Xt.Nw.drew ?_ | refine Xt.Nw.drewN ?_ _ | refine Xt.Nw.alloc ?_ _ | refine Xt.Nw.joined ?_ | refine Xt.Nw.drewd ?_ | refine Xt.Nw.drewdN ?_ | refine Xt.Nw.ext ?_ | refine Xt.Nw.ext_some ?_ (by assumption) | refine Xt.Nw.setCell ?_ (by simp [go_sem] <;> omega) _)))⟩⟩, by simp [intOf]; omega⟩
            rw [List.append_assoc, ← HF.out, mg_drop_r HY.out (.inr ⟨x, HX.out, HXY.out⟩)]; rfl
      · have i2 : ¬ (q : Int) < (m : Int) := by omega
        have i3 : ((q : Int) == (m : Int)) = true := by simp; omega
        go_upto_region 4 with (fail)
        (refine wp_region_nw (by kernel_rfl) (by kernel_rfl) ?_; (repeat (go_big_quiet_step (fail))); refine wpQuiet_nil ?_; intro _ hreg; obtain ⟨dW, rfl⟩ : Nw _ _ := hreg)
        have hown2 : CollK _ _ _ _ := HO.out.nw ((by repeat (first | exact Xt.Nw.refl _ | refine Xt.Nw.drew ?_ | refine Xt.Nw.drewN ?_ _ | refine Xt.Nw.alloc ?_ _ | refine Xt.Nw.joined ?_ | refine Xt.Nw.drewd ?_ | refine Xt.Nw.drewdN ?_ | refine Xt.Nw.ext ?_ | refine Xt.Nw.ext_some ?_ (by assumption) | refine Xt.Nw.setCell ?_ (by simp [go_sem] <;> omega) _)))
        unfold CollK at hown2
        go_wp2_with (at_builtin; refine wpList_app1 rfl _ _ 22 rfl 38 (.int .u64 0) 1 8 Tryz.underlying22 kInfo rfl (by decide) (w) _ (by repeat (first | exact Xt.Nw.refl _ | refine Xt.Nw.drew ?_ | refine Xt.Nw.drewN ?_ _ | refine Xt.Nw.alloc ?_ _ | refine Xt.Nw.joined ?_ | refine Xt.Nw.drewd ?_ | refine Xt.Nw.drewdN ?_ | refine Xt.Nw.ext ?_ | refine Xt.Nw.ext_some ?_ (by assumption) | refine Xt.Nw.setCell ?_ (by simp [go_sem] <;> omega) _)) _ _ _ rfl (by first | assumption | exact own_nw (by assumption) (by repeat (first | exact Xt.Nw.refl _ | refine Xt.Nw.drew ?_ | refine Xt.Nw.drewN ?_ _ | refine Xt.Nw.alloc ?_ _ | refine Xt.Nw.joined ?_ | refine Xt.Nw.drewd ?_ | refine Xt.Nw.drewdN ?_ | refine Xt.Nw.ext ?_ | refine Xt.Nw.ext_some ?_ (by assumption) | refine Xt.Nw.setCell ?_ (by simp [go_sem] <;> omega) _))) _ 1 1 _ _ rfl (by first | rfl | simp) rfl (by intro u hu; simp at hu; (repeat' rcases hu with rfl | hu) <;> first | rfl | (subst hu; rfl)) (by unfold maxLen; omega) (by omega) ?_; intro vA dA hownA)
        have hown3 := CollK.snoc hownA
        have HA3 := Lib.hid hown3
        clear hownA hown2 hown3
        go_wp2
        refine ⟨⟨p + 1, q, by omega, by omega, by go_num, by go_num, (by repeat (first | exact Xt.Nw.refl _ | refine Xt.Nw.drew ?_ | refine Xt.Nw.drewN ?_ _ | refine Xt.Nw.alloc ?_ _ | refine Xt.Nw.joined ?_ | refine Xt.Nw.drewd ?_ | refine Xt.Nw.drewdN ?_ | refine Xt.Nw.ext ?_ | refine Xt.Nw.ext_some ?_ (by assumption) | refine Xt.Nw.setCell ?_ (by simp [go_sem] <;> omega) _)), _, rfl, Lib.hid ⟨O ++ [x], ?_, by have := HOL.out; simp; omega, HA3.out.nw (by exact (by repeat (first | exact Xt.Nw.refl _ | refine Xt.Nw.drew ?_ | refine Xt.Nw.drewN ?_ _ | refine Xt.Nw.alloc ?_ _ | refine Xt.Nw.joined ?_ | refine Xt.Nw.drewd ?_ | refine Xt.Nw.drewdN ?_ | refine Xt.Nw.ext ?_ | refine Xt.Nw.ext_some ?_ (by assumption) | refine Xt.Nw.setCell ?_ (by simp [go_sem] <;> omega) _)))⟩⟩, by simp [intOf]; omega⟩
        rw [List.append_assoc, ← HF.out, mg_drop_l HX.out (.inl (by have := HLB.out; omega))]; rfl
    · have i1 : ¬ (p : Int) < (n : Int) := by omega
      by_cases hqm : q < m
      · have i2 : (q : Int) < (m : Int) := by omega
        have i3 : ((q : Int) == (m : Int)) = false := by simp; omega
        obtain ⟨g2, o2, rfl, hg2, hc2⟩ := HB.out.2 (by omega)
        haveI : In g2 w := ⟨hg2⟩
        obtain ⟨y, hy⟩ : ∃ y, b[q]? = some y := ⟨_, List.getElem?_eq_getElem (by have := HLB.out; omega)⟩
        have y1 : w.cell? ⟨g2, o2 + q, none⟩ = some (.int .u64 y) := hc2 _ _ (kcells_get hy)
        have HY := Lib.hid hy
        clear hc2 hy
        go_upto_region 4 with (fail)
        (refine wp_region_nw (by kernel_rfl) (by kernel_rfl) ?_; (repeat (go_big_quiet_step (fail))); refine wpQuiet_nil ?_; intro _ hreg; obtain ⟨dW, rfl⟩ : Nw _ _ := hreg)
        go_upto_region 7 with (fail)
        (refine wp_region_nw (by kernel_rfl) (by kernel_rfl) ?_; (repeat (go_big_quiet_step (fail))); refine wpQuiet_nil ?_; intro _ hreg; obtain ⟨dW, rfl⟩ : Nw _ _ := hreg)
        have hown2 : CollK _ _ _ _ := HO.out.nw ((by repeat (first | exact Xt.Nw.refl _ | refine Xt.Nw.drew ?_ | refine Xt.Nw.drewN ?_ _ | refine Xt.Nw.alloc ?_ _ | refine Xt.Nw.joined ?_ | refine Xt.Nw.drewd ?_ | refine Xt.Nw.drewdN ?_ | refine Xt.Nw.ext ?_ | refine Xt.Nw.ext_some ?_ (by assumption) | refine Xt.Nw.setCell ?_ (by simp [go_sem] <;> omega) _)))
        unfold CollK at hown2
        go_wp2_with (at_builtin; refine wpList_app1 rfl _ _ 22 rfl 38 (.int .u64 0) 1 8 Tryz.underlying22 kInfo rfl (by decide) (w) _ (by repeat (first | exact Xt.Nw.refl _ | refine Xt.Nw.drew ?_ | refine Xt.Nw.drewN ?_ _ | refine Xt.Nw.alloc ?_ _ | refine Xt.Nw.joined ?_ | refine Xt.Nw.drewd ?_ | refine Xt.Nw.drewdN ?_ | refine Xt.Nw.ext ?_ | refine Xt.Nw.ext_some ?_ (by assumption) | refine Xt.Nw.setCell ?_ (by simp [go_sem] <;> omega) _)) _ _ _ rfl (by first | assumption | exact own_nw (by assumption) (by repeat (first | exact Xt.Nw.refl _ | refine Xt.Nw.drew ?_ | refine Xt.Nw.drewN ?_ _ | refine Xt.Nw.alloc ?_ _ | refine Xt.Nw.joined ?_ | refine Xt.Nw.drewd ?_ | refine Xt.Nw.drewdN ?_ | refine Xt.Nw.ext ?_ | refine Xt.Nw.ext_some ?_ (by assumption) | refine Xt.Nw.setCell ?_ (by simp [go_sem] <;> omega) _))) _ 1 1 _ _ rfl (by first | rfl | simp) rfl (by intro u hu; simp at hu; (repeat' rcases hu with rfl | hu) <;> first | rfl | (subst hu; rfl)) (by unfold maxLen; omega) (by omega) ?_; intro vA dA hownA)
        have hown3 := CollK.snoc hownA
        have HA3 := Lib.hid hown3
        clear hownA hown2 hown3
        go_wp2
        refine ⟨⟨p, q + 1, by omega, by omega, by go_num, by go_num, (by repeat (first | exact Xt.Nw.refl _ | refine Xt.Nw.drew ?_ | refine Xt.Nw.drewN ?_ _ | refine Xt.Nw.alloc ?_ _ | refine Xt.Nw.joined ?_ | refine Xt.Nw.drewd ?_ | refine Xt.Nw.drewdN ?_ | refine Xt.Nw.ext ?_ | refine Xt.Nw.ext_some ?_ (by assumption) | refine Xt.Nw.setCell ?_ (by simp [go_sem] <;> omega) _)), _, rfl, Lib.hid ⟨O ++ [y], ?_, by have := HOL.out; simp; omega, HA3.out.nw (by exact (by repeat (first | exact Xt.Nw.refl _ | refine Xt.Nw.drew ?_ | refine Xt.Nw.drewN ?_ _ | refine Xt.Nw.alloc ?_ _ | refine Xt.Nw.joined ?_ | refine Xt.Nw.drewd ?_ | refine Xt.Nw.drewdN ?_ | refine Xt.Nw.ext ?_ | refine Xt.Nw.ext_some ?_ (by assumption) | refine Xt.Nw.setCell ?_ (by simp [go_sem] <;> omega) _)))⟩⟩, by simp [intOf]; omega⟩
        rw [List.append_assoc, ← HF.out, mg_drop_r HY.out (.inl (by have := HLA.out; omega))]; rfl
      · have i2 : ¬ (q : Int) < (m : Int) := by omega
        go_wp2
        go_ret
        refine ⟨_, rfl, ?_, (by repeat (first | exact Xt.Nw.refl _ | refine Xt.Nw.drew ?_ | refine Xt.Nw.drewN ?_ _ | refine Xt.Nw.alloc ?_ _ | refine Xt.Nw.joined ?_ | refine Xt.Nw.drewd ?_ | refine Xt.Nw.drewdN ?_ | refine Xt.Nw.ext ?_ | refine Xt.Nw.ext_some ?_ (by assumption) | refine Xt.Nw.setCell ?_ (by simp [go_sem] <;> omega) _))⟩
        have h1 := HF.out
        rw [List.drop_eq_nil_of_le (by have := HLA.out; omega), List.drop_eq_nil_of_le (by have := HLB.out; omega)] at h1
        simp [mg] at h1
        rw [← h1]; exact HO.out
end Go.Proofs.YtahagplegmcaaaaGreat
