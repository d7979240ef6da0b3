import Derived.Test.YtjpgechcfkhoaaaEb
namespace Go.Proofs.Ytjpgechcfkhoaaa
open Go.RowKit Go.Xt
def lenV : Value → Nat
  | .slice _ n _ => n
  | _ => 0
set_option maxRecDepth 20000 in
set_option maxHeartbeats 8000000 in
theorem reffects_any (A : Option Addr) (n c : Nat) (l : List Cl) (w : World) (hn : n ≤ 1000) (hl : Cs w A n l) (hw : ∀ y ∈ l, WfC y) :
    Calls Try.prog 18 #[.slice A n c] w fun e w' => ∃ v ys, e = .returned (.tuple #[v, .int .i64 (chkE l)]) ∧ EffP l ys ∧ OwnI w' w.heap.size v (natI ys) ∧ Nw w w' := by
  have HK := Lib.hid (rcheck_any A n c l w hn hl hw)
  have HL := Lib.hid hl
  have hlen := hl.1
  clear hl hw
  rcases chk_cases l with ⟨hb, hv⟩ | ⟨i, hb, hv⟩
  · rw [hv] at HK
    obtain ⟨E, hE, hEl⟩ := eff_ex hb
    have hPE : EffP l E := ⟨fun _ => hE, fun h => absurd hb h⟩
    have HP := Lib.hid hPE
    have HE := Lib.hid hE
    have hC : chkE l = 0 := by simp [chkE, hb]
    rw [hC]
    clear hb hv hC hPE hE
    rw [hlen] at hEl
    go_enter Try.func18, Try.ntmps18
    go_wp2_with (go_at_call 12; refine (HK.out).mono ?_; rintro e w' ⟨rfl, dW, rfl⟩)
    go_loopw [6] (fun a wr => ∃ k : Nat, k ≤ E.length ∧ OwnI wr w.heap.size a (natI (E.take k)) ∧ Nw w wr) (fun a _ => n - lenV a)
    case atStart => exact ⟨0, by omega, World.ownsRow_nil _ _ _ _, (by repeat (first | exact Xt.Nw.refl _ | refine Xt.Nw.drew ?_ | refine Xt.Nw.drewN ?_ _ | refine Xt.Nw.alloc ?_ _ | refine Xt.Nw.joined ?_ | refine Xt.Nw.drewd ?_ | refine Xt.Nw.drewdN ?_ | refine Xt.Nw.ext ?_ | refine Xt.Nw.ext_some ?_ (by assumption) | refine Xt.Nw.setCell ?_ (by simp [go_sem] <;> omega) _))⟩
    case round =>
      obtain ⟨k, hk, hown, d, rfl⟩ := hrel
      obtain ⟨A', c', hu, his⟩ := hown.form
      have hlk : (natI (E.take k)).length = k := by simp [natI]; omega
      rw [hlk] at hu his
      subst hu
      by_cases hlt : k < n
      · obtain ⟨b, o, x0, hA, hb, _, _⟩ := HL.out.get (show 0 < n by omega)
        subst hA
        haveI : In b w := ⟨hb⟩
        have hkn : (k : Int) < (n : Int) := by omega
        have HO := Lib.hid hown
        have HI := Lib.hid his
        have hcell : ∀ (i : Nat) (x : Cl), l[i]? = some x → w.cell? ⟨b, o + i * 18 + 10, none⟩ = some (.int .i64 x.took) := fun i x hx => by
          obtain ⟨b', o', e, _, hc⟩ := HL.out.2 (by omega)
          obtain ⟨rfl, rfl⟩ : b = b' ∧ o = o' := by simpa using e
          obtain ⟨_, _, _, _, _, _, _, _, _, _, h10, _⟩ := hc i x hx
          exact h10
        have HC := Lib.hid hcell
        have HX := Lib.hid (nx_is HE.out hk)
        clear hown his hcell
        obtain ⟨thr, hthr⟩ : ∃ t, t = thrOf l E k := ⟨_, rfl⟩
        rw [← hthr] at HX
        have hcase : (k = 0 ∧ thr = -1) ∨ ∃ (k' q : Nat) (y : Cl) (g o2 : Nat), k = k' + 1 ∧ A' = some ⟨g, o2, none⟩ ∧ g < (w.ext none d).heap.size ∧ (w.ext none d).cell? ⟨g, o2 + k', none⟩ = some (.int .i64 (q : Int)) ∧ q < n ∧ l[q]? = some y ∧ thr = y.took ∧ 0 ≤ y.took := by
          cases k with
          | zero => exact .inl ⟨rfl, by rw [hthr]; simp [thrOf]⟩
          | succ k' =>
            obtain ⟨g, o2, x, e1, hg, hx, hcx⟩ := HI.out.get (show k' < k' + 1 by omega)
            have hk'E : k' < E.length := by omega
            have hx' : x = (E[k'] : Nat) := by
              rw [natI, List.getElem?_map, List.getElem?_take, if_pos (by omega), List.getElem?_eq_getElem hk'E] at hx
              simpa using hx.symm
            obtain ⟨y, hy, hy0⟩ := (HE.out.2 E[k']).1 (List.getElem_mem hk'E)
            refine .inr ⟨k', E[k'], y, g, o2, rfl, e1, hg, by rw [hcx, hx'], by rw [← hlen]; exact (List.getElem?_eq_some_iff.1 hy).1, hy, ?_, hy0⟩
            rw [hthr, thr_eq hk'E, tk_of hy]
        rcases hcase with ⟨rfl, rfl⟩ | ⟨k', q, y, g, o2, hkk, rfl, hg, hcg, hqn, hqy, hthy, hy0⟩
        · have HT := Lib.hid hthr
          clear hthr
          go_wp2
          go_loopw [7, 8] (fun a i wr => ∃ j : Nat, j ≤ n ∧ a = .int .i64 (nxI l (-1) j) ∧ i = .int .i64 j ∧ Nw (w.ext none d) wr) (fun _ i _ => n - (intOf i).toNat)
          case atStart => exact ⟨0, by omega, rfl, rfl, (by repeat (first | exact Xt.Nw.refl _ | refine Xt.Nw.drew ?_ | refine Xt.Nw.drewN ?_ _ | refine Xt.Nw.alloc ?_ _ | refine Xt.Nw.joined ?_ | refine Xt.Nw.drewd ?_ | refine Xt.Nw.drewdN ?_ | refine Xt.Nw.ext ?_ | refine Xt.Nw.ext_some ?_ (by assumption) | refine Xt.Nw.setCell ?_ (by simp [go_sem] <;> omega) _))⟩
          case round =>
            obtain ⟨j, hj, rfl, rfl, d2, rfl⟩ := hrel
            by_cases hlj : j < n
            · obtain ⟨x, hx⟩ : ∃ x, l[j]? = some x := ⟨l[j], List.getElem?_eq_getElem (by omega)⟩
              have cx := HC.out j x hx
              have hS := Lib.hid (nxI_succ (thr := (-1)) hx)
              have hjn : (j : Int) < (n : Int) := by omega
              have hsp := nxI_spec l (-1) j (by omega)
              clear hx
              rcases hsp with ⟨e, _⟩ | ⟨p, z, e, hp, hz, _, _⟩
              · have HE1 := Lib.hid e
                have HS := Lib.hid hS.out
                rw [e]
                clear e
                by_cases h0 : x.took < 0
                · have hd0 : decide (x.took < 0) = true := by simpa using h0
                  go_wp2
                  (refine wp_region_nw (by kernel_rfl) (by kernel_rfl) ?_; (repeat (go_big_quiet_step (fail))); refine wpQuiet_nil ?_; intro _ hreg; obtain ⟨dW, rfl⟩ : Nw _ _ := hreg)
                  go_wp2
                  refine ⟨⟨j + 1, by omega, by rw [HS.out, if_pos (by omega), HE1.out], by go_num, (by repeat (first | exact Xt.Nw.refl _ | refine Xt.Nw.drew ?_ | refine Xt.Nw.drewN ?_ _ | refine Xt.Nw.alloc ?_ _ | refine Xt.Nw.joined ?_ | refine Xt.Nw.drewd ?_ | refine Xt.Nw.drewdN ?_ | refine Xt.Nw.ext ?_ | refine Xt.Nw.ext_some ?_ (by assumption) | refine Xt.Nw.setCell ?_ (by simp [go_sem] <;> omega) _))⟩, by simp [intOf]; omega⟩
                · skip
                  have hd0 : decide (x.took < 0) = false := by simpa using h0
                  go_wp2
                  (refine wp_region_nw (by kernel_rfl) (by kernel_rfl) ?_; (repeat (go_big_quiet_step (fail))); refine wpQuiet_nil ?_; intro _ hreg; obtain ⟨dW, rfl⟩ : Nw _ _ := hreg)
                  go_wp2
                  (refine wp_region_nw (by kernel_rfl) (by kernel_rfl) ?_; (repeat (go_big_quiet_step (fail))); refine wpQuiet_nil ?_; intro _ hreg; obtain ⟨dW, rfl⟩ : Nw _ _ := hreg)
                  go_wp2
                  refine ⟨⟨j + 1, by omega, by rw [HS.out, if_neg (by omega), if_pos (.inl (by rw [HE1.out]; omega))], by go_num, (by repeat (first | exact Xt.Nw.refl _ | refine Xt.Nw.drew ?_ | refine Xt.Nw.drewN ?_ _ | refine Xt.Nw.alloc ?_ _ | refine Xt.Nw.joined ?_ | refine Xt.Nw.drewd ?_ | refine Xt.Nw.drewdN ?_ | refine Xt.Nw.ext ?_ | refine Xt.Nw.ext_some ?_ (by assumption) | refine Xt.Nw.setCell ?_ (by simp [go_sem] <;> omega) _))⟩, by simp [intOf]; omega⟩
              · have HE1 := Lib.hid e
                have HS := Lib.hid hS.out
                rw [e]
                clear e
                have cz := HC.out p z hz
                have hpn : p < n := by omega
                have hpd : decide ((p : Int) < 0) = false := by simp
                have HZ := Lib.hid hz
                clear hz
                by_cases h0 : x.took < 0
                · have hd0 : decide (x.took < 0) = true := by simpa using h0
                  go_wp2
                  (refine wp_region_nw (by kernel_rfl) (by kernel_rfl) ?_; (repeat (go_big_quiet_step (fail))); refine wpQuiet_nil ?_; intro _ hreg; obtain ⟨dW, rfl⟩ : Nw _ _ := hreg)
                  go_wp2
                  refine ⟨⟨j + 1, by omega, by rw [HS.out, if_pos (by omega), HE1.out], by go_num, (by repeat (first | exact Xt.Nw.refl _ | refine Xt.Nw.drew ?_ | refine Xt.Nw.drewN ?_ _ | refine Xt.Nw.alloc ?_ _ | refine Xt.Nw.joined ?_ | refine Xt.Nw.drewd ?_ | refine Xt.Nw.drewdN ?_ | refine Xt.Nw.ext ?_ | refine Xt.Nw.ext_some ?_ (by assumption) | refine Xt.Nw.setCell ?_ (by simp [go_sem] <;> omega) _))⟩, by simp [intOf]; omega⟩
                · skip
                  have hd0 : decide (x.took < 0) = false := by simpa using h0
                  by_cases h9 : x.took < z.took
                  · have hd9 : decide (x.took < z.took) = true := by simpa using h9
                    go_wp2
                    (refine wp_region_nw (by kernel_rfl) (by kernel_rfl) ?_; (repeat (go_big_quiet_step (fail))); refine wpQuiet_nil ?_; intro _ hreg; obtain ⟨dW, rfl⟩ : Nw _ _ := hreg)
                    go_wp2
                    (refine wp_region_nw (by kernel_rfl) (by kernel_rfl) ?_; (repeat (go_big_quiet_step (fail))); refine wpQuiet_nil ?_; intro _ hreg; obtain ⟨dW, rfl⟩ : Nw _ _ := hreg)
                    go_wp2
                    refine ⟨⟨j + 1, by omega, by rw [HS.out, if_neg (by omega), if_pos (.inr (by rw [HE1.out, Int.toNat_natCast, tk_of HZ.out]; exact h9))], by go_num, (by repeat (first | exact Xt.Nw.refl _ | refine Xt.Nw.drew ?_ | refine Xt.Nw.drewN ?_ _ | refine Xt.Nw.alloc ?_ _ | refine Xt.Nw.joined ?_ | refine Xt.Nw.drewd ?_ | refine Xt.Nw.drewdN ?_ | refine Xt.Nw.ext ?_ | refine Xt.Nw.ext_some ?_ (by assumption) | refine Xt.Nw.setCell ?_ (by simp [go_sem] <;> omega) _))⟩, by simp [intOf]; omega⟩
                  · have hd9 : decide (x.took < z.took) = false := by simpa using h9
                    go_wp2
                    (refine wp_region_nw (by kernel_rfl) (by kernel_rfl) ?_; (repeat (go_big_quiet_step (fail))); refine wpQuiet_nil ?_; intro _ hreg; obtain ⟨dW, rfl⟩ : Nw _ _ := hreg)
                    go_wp2
                    (refine wp_region_nw (by kernel_rfl) (by kernel_rfl) ?_; (repeat (go_big_quiet_step (fail))); refine wpQuiet_nil ?_; intro _ hreg; obtain ⟨dW, rfl⟩ : Nw _ _ := hreg)
                    go_wp2
                    refine ⟨⟨j + 1, by omega, by rw [HS.out, if_neg (by omega), if_neg (by rw [HE1.out, Int.toNat_natCast, tk_of HZ.out]; omega), HE1.out], by go_num, (by repeat (first | exact Xt.Nw.refl _ | refine Xt.Nw.drew ?_ | refine Xt.Nw.drewN ?_ _ | refine Xt.Nw.alloc ?_ _ | refine Xt.Nw.joined ?_ | refine Xt.Nw.drewd ?_ | refine Xt.Nw.drewdN ?_ | refine Xt.Nw.ext ?_ | refine Xt.Nw.ext_some ?_ (by assumption) | refine Xt.Nw.setCell ?_ (by simp [go_sem] <;> omega) _))⟩, by simp [intOf]; omega⟩
            · obtain rfl : j = n := by omega
              rcases hEk : E[0]? with _ | i
              · have hX := HX.out
                rw [hEk, hlen] at hX
                simp only at hX
                rw [hX]
                have hfin : E.take (0) = E := List.take_of_length_le (List.getElem?_eq_none_iff.1 hEk)
                have hown' := HO.out
                rw [hfin] at hown'
                have HO2 := Lib.hid hown'
                clear hX hEk hown'
                go_wp2
                refine bodyPost_ret (results_tmp2 rfl _ _ _) rfl ⟨_, E, rfl, HP.out, own_nw HO2.out ⟨_, rfl⟩, ⟨_, ext_ext⟩⟩
              · have hX := HX.out
                rw [hEk, hlen] at hX
                simp only at hX
                rw [hX]
                have hd : decide ((i : Int) < 0) = false := by simp
                have hown' : ((w.ext none d).ext none d2).ownsRow w.heap.size 3 1 (.slice A' (0) c') (0) (ints (natI (E.take (0)))) := by
                  have h1 := own_nw HO.out (show Nw (w.ext none d) ((w.ext none d).ext none d2) from ⟨_, rfl⟩)
                  rw [hlk] at h1
                  exact h1
                have htk := Lib.hid (show E.take (0 + 1) = E.take (0) ++ [i] by
                  obtain ⟨p1, p2⟩ := List.getElem?_eq_some_iff.1 hEk
                  rw [List.take_succ_eq_append_getElem p1, p2])
                have hkE : 0 + 1 ≤ E.length := (List.getElem?_eq_some_iff.1 hEk).1
                clear hX hEk
                rw [ext_ext] at hown' ⊢
                go_wp2_with (at_builtin; refine wpList_app1 rfl _ _ 30 rfl 3 (.int .i64 0) 1 8 Try.underlying30 intInfo rfl (by decide) (w) _ (by repeat (first | exact Xt.Nw.refl _ | refine Xt.Nw.drew ?_ | refine Xt.Nw.drewN ?_ _ | refine Xt.Nw.alloc ?_ _ | refine Xt.Nw.joined ?_ | refine Xt.Nw.drewd ?_ | refine Xt.Nw.drewdN ?_ | refine Xt.Nw.ext ?_ | refine Xt.Nw.ext_some ?_ (by assumption) | refine Xt.Nw.setCell ?_ (by simp [go_sem] <;> omega) _)) _ _ _ rfl (by first | assumption | exact own_nw (by assumption) (by repeat (first | exact Xt.Nw.refl _ | refine Xt.Nw.drew ?_ | refine Xt.Nw.drewN ?_ _ | refine Xt.Nw.alloc ?_ _ | refine Xt.Nw.joined ?_ | refine Xt.Nw.drewd ?_ | refine Xt.Nw.drewdN ?_ | refine Xt.Nw.ext ?_ | refine Xt.Nw.ext_some ?_ (by assumption) | refine Xt.Nw.setCell ?_ (by simp [go_sem] <;> omega) _))) _ 1 1 _ _ rfl (by first | rfl | simp) rfl (by intro u hu; simp at hu; (repeat' rcases hu with rfl | hu) <;> first | rfl | (subst hu; rfl)) (by unfold maxLen; omega) (by omega) ?_; intro vA dA hownA)
                have hfin2 : OwnI (w.ext none dA) w.heap.size vA (natI (E.take (0 + 1))) := OwnI.cast hownA (by rw [htk.out, natI_app, List.length_append, hlk]; rfl) (by rw [htk.out, natI_app]; simp [ints, natI])
                obtain ⟨A2, c2, hv2, _⟩ := hfin2.form
                have hl2 : (natI (E.take (0 + 1))).length = 0 + 1 := by rw [htk.out, natI_app, List.length_append, hlk]; rfl
                refine ⟨⟨0 + 1, hkE, hfin2, ⟨_, rfl⟩⟩, ?_⟩
                rw [hl2] at hv2
                subst hv2
                simp only [lenV, Array.getD_eq_getD_getElem?, List.getElem?_toArray, List.getElem?_cons_succ, List.getElem?_cons_zero, Option.getD_some]
                omega
        · skip
          haveI : In g (w.ext none d) := ⟨hg⟩
          have cq := HC.out q y hqy
          have hlast : (k : Int) - 1 = (k' : Int) := by omega
          have hpos : 0 < k := by omega
          have hwr : IntKind.i64.wrap (k' : Int) = (k' : Int) := by rw [IntKind.wrap_i64] <;> omega
          have hkl : k' < k := by omega
          have Hk := Lib.hid hkk
          have HT := Lib.hid hthr
          have HQ := Lib.hid hqy
          have HY := Lib.hid hthy
          rw [hthy] at HX
          clear hthr hqy hthy hkk
          go_wp2
          go_loopw [7, 8] (fun a i wr => ∃ j : Nat, j ≤ n ∧ a = .int .i64 (nxI l y.took j) ∧ i = .int .i64 j ∧ Nw (w.ext none d) wr) (fun _ i _ => n - (intOf i).toNat)
          case atStart => exact ⟨0, by omega, rfl, rfl, (by repeat (first | exact Xt.Nw.refl _ | refine Xt.Nw.drew ?_ | refine Xt.Nw.drewN ?_ _ | refine Xt.Nw.alloc ?_ _ | refine Xt.Nw.joined ?_ | refine Xt.Nw.drewd ?_ | refine Xt.Nw.drewdN ?_ | refine Xt.Nw.ext ?_ | refine Xt.Nw.ext_some ?_ (by assumption) | refine Xt.Nw.setCell ?_ (by simp [go_sem] <;> omega) _))⟩
          case round =>
            obtain ⟨j, hj, rfl, rfl, d2, rfl⟩ := hrel
            by_cases hlj : j < n
            · obtain ⟨x, hx⟩ : ∃ x, l[j]? = some x := ⟨l[j], List.getElem?_eq_getElem (by omega)⟩
              have cx := HC.out j x hx
              have hS := Lib.hid (nxI_succ (thr := y.took) hx)
              have hjn : (j : Int) < (n : Int) := by omega
              have hsp := nxI_spec l y.took j (by omega)
              clear hx
              rcases hsp with ⟨e, _⟩ | ⟨p, z, e, hp, hz, _, _⟩
              · have HE1 := Lib.hid e
                have HS := Lib.hid hS.out
                rw [e]
                clear e
                by_cases h0 : x.took < 0
                · have hd0 : decide (x.took < 0) = true := by simpa using h0
                  go_wp2
                  (refine wp_region_nw (by kernel_rfl) (by kernel_rfl) ?_; (repeat (go_big_quiet_step (fail))); refine wpQuiet_nil ?_; intro _ hreg; obtain ⟨dW, rfl⟩ : Nw _ _ := hreg)
                  go_wp2
                  refine ⟨⟨j + 1, by omega, by rw [HS.out, if_pos (by omega), HE1.out], by go_num, (by repeat (first | exact Xt.Nw.refl _ | refine Xt.Nw.drew ?_ | refine Xt.Nw.drewN ?_ _ | refine Xt.Nw.alloc ?_ _ | refine Xt.Nw.joined ?_ | refine Xt.Nw.drewd ?_ | refine Xt.Nw.drewdN ?_ | refine Xt.Nw.ext ?_ | refine Xt.Nw.ext_some ?_ (by assumption) | refine Xt.Nw.setCell ?_ (by simp [go_sem] <;> omega) _))⟩, by simp [intOf]; omega⟩
                · skip
                  have hd0 : decide (x.took < 0) = false := by simpa using h0
                  by_cases h1 : x.took ≤ y.took
                  · have hd1 : decide (x.took ≤ y.took) = true := by simpa using h1
                    go_wp2
                    (refine wp_region_nw (by kernel_rfl) (by kernel_rfl) ?_; (repeat (go_big_quiet_step (fail))); refine wpQuiet_nil ?_; intro _ hreg; obtain ⟨dW, rfl⟩ : Nw _ _ := hreg)
                    go_wp2
                    refine ⟨⟨j + 1, by omega, by rw [HS.out, if_pos (by omega), HE1.out], by go_num, (by repeat (first | exact Xt.Nw.refl _ | refine Xt.Nw.drew ?_ | refine Xt.Nw.drewN ?_ _ | refine Xt.Nw.alloc ?_ _ | refine Xt.Nw.joined ?_ | refine Xt.Nw.drewd ?_ | refine Xt.Nw.drewdN ?_ | refine Xt.Nw.ext ?_ | refine Xt.Nw.ext_some ?_ (by assumption) | refine Xt.Nw.setCell ?_ (by simp [go_sem] <;> omega) _))⟩, by simp [intOf]; omega⟩
                  · skip
                    have hd1 : decide (x.took ≤ y.took) = false := by simpa using h1
                    go_wp2
                    (refine wp_region_nw (by kernel_rfl) (by kernel_rfl) ?_; (repeat (go_big_quiet_step (fail))); refine wpQuiet_nil ?_; intro _ hreg; obtain ⟨dW, rfl⟩ : Nw _ _ := hreg)
                    go_wp2
                    (refine wp_region_nw (by kernel_rfl) (by kernel_rfl) ?_; (repeat (go_big_quiet_step (fail))); refine wpQuiet_nil ?_; intro _ hreg; obtain ⟨dW, rfl⟩ : Nw _ _ := hreg)
                    go_wp2
                    refine ⟨⟨j + 1, by omega, by rw [HS.out, if_neg (by omega), if_pos (.inl (by rw [HE1.out]; omega))], by go_num, (by repeat (first | exact Xt.Nw.refl _ | refine Xt.Nw.drew ?_ | refine Xt.Nw.drewN ?_ _ | refine Xt.Nw.alloc ?_ _ | refine Xt.Nw.joined ?_ | refine Xt.Nw.drewd ?_ | refine Xt.Nw.drewdN ?_ | refine Xt.Nw.ext ?_ | refine Xt.Nw.ext_some ?_ (by assumption) | refine Xt.Nw.setCell ?_ (by simp [go_sem] <;> omega) _))⟩, by simp [intOf]; omega⟩
              · have HE1 := Lib.hid e
                have HS := Lib.hid hS.out
                rw [e]
                clear e
                have cz := HC.out p z hz
                have hpn : p < n := by omega
                have hpd : decide ((p : Int) < 0) = false := by simp
                have HZ := Lib.hid hz
                clear hz
                by_cases h0 : x.took < 0
                · have hd0 : decide (x.took < 0) = true := by simpa using h0
                  go_wp2
                  (refine wp_region_nw (by kernel_rfl) (by kernel_rfl) ?_; (repeat (go_big_quiet_step (fail))); refine wpQuiet_nil ?_; intro _ hreg; obtain ⟨dW, rfl⟩ : Nw _ _ := hreg)
                  go_wp2
                  refine ⟨⟨j + 1, by omega, by rw [HS.out, if_pos (by omega), HE1.out], by go_num, (by repeat (first | exact Xt.Nw.refl _ | refine Xt.Nw.drew ?_ | refine Xt.Nw.drewN ?_ _ | refine Xt.Nw.alloc ?_ _ | refine Xt.Nw.joined ?_ | refine Xt.Nw.drewd ?_ | refine Xt.Nw.drewdN ?_ | refine Xt.Nw.ext ?_ | refine Xt.Nw.ext_some ?_ (by assumption) | refine Xt.Nw.setCell ?_ (by simp [go_sem] <;> omega) _))⟩, by simp [intOf]; omega⟩
                · skip
                  have hd0 : decide (x.took < 0) = false := by simpa using h0
                  by_cases h1 : x.took ≤ y.took
                  · have hd1 : decide (x.took ≤ y.took) = true := by simpa using h1
                    go_wp2
                    (refine wp_region_nw (by kernel_rfl) (by kernel_rfl) ?_; (repeat (go_big_quiet_step (fail))); refine wpQuiet_nil ?_; intro _ hreg; obtain ⟨dW, rfl⟩ : Nw _ _ := hreg)
                    go_wp2
                    refine ⟨⟨j + 1, by omega, by rw [HS.out, if_pos (by omega), HE1.out], by go_num, (by repeat (first | exact Xt.Nw.refl _ | refine Xt.Nw.drew ?_ | refine Xt.Nw.drewN ?_ _ | refine Xt.Nw.alloc ?_ _ | refine Xt.Nw.joined ?_ | refine Xt.Nw.drewd ?_ | refine Xt.Nw.drewdN ?_ | refine Xt.Nw.ext ?_ | refine Xt.Nw.ext_some ?_ (by assumption) | refine Xt.Nw.setCell ?_ (by simp [go_sem] <;> omega) _))⟩, by simp [intOf]; omega⟩
                  · skip
                    have hd1 : decide (x.took ≤ y.took) = false := by simpa using h1
                    by_cases h9 : x.took < z.took
                    · have hd9 : decide (x.took < z.took) = true := by simpa using h9
                      go_wp2
                      (refine wp_region_nw (by kernel_rfl) (by kernel_rfl) ?_; (repeat (go_big_quiet_step (fail))); refine wpQuiet_nil ?_; intro _ hreg; obtain ⟨dW, rfl⟩ : Nw _ _ := hreg)
                      go_wp2
                      (refine wp_region_nw (by kernel_rfl) (by kernel_rfl) ?_; (repeat (go_big_quiet_step (fail))); refine wpQuiet_nil ?_; intro _ hreg; obtain ⟨dW, rfl⟩ : Nw _ _ := hreg)
                      go_wp2
                      refine ⟨⟨j + 1, by omega, by rw [HS.out, if_neg (by omega), if_pos (.inr (by rw [HE1.out, Int.toNat_natCast, tk_of HZ.out]; exact h9))], by go_num, (by repeat (first | exact Xt.Nw.refl _ | refine Xt.Nw.drew ?_ | refine Xt.Nw.drewN ?_ _ | refine Xt.Nw.alloc ?_ _ | refine Xt.Nw.joined ?_ | refine Xt.Nw.drewd ?_ | refine Xt.Nw.drewdN ?_ | refine Xt.Nw.ext ?_ | refine Xt.Nw.ext_some ?_ (by assumption) | refine Xt.Nw.setCell ?_ (by simp [go_sem] <;> omega) _))⟩, by simp [intOf]; omega⟩
                    · have hd9 : decide (x.took < z.took) = false := by simpa using h9
                      go_wp2
                      (refine wp_region_nw (by kernel_rfl) (by kernel_rfl) ?_; (repeat (go_big_quiet_step (fail))); refine wpQuiet_nil ?_; intro _ hreg; obtain ⟨dW, rfl⟩ : Nw _ _ := hreg)
                      go_wp2
                      (refine wp_region_nw (by kernel_rfl) (by kernel_rfl) ?_; (repeat (go_big_quiet_step (fail))); refine wpQuiet_nil ?_; intro _ hreg; obtain ⟨dW, rfl⟩ : Nw _ _ := hreg)
                      go_wp2
                      refine ⟨⟨j + 1, by omega, by rw [HS.out, if_neg (by omega), if_neg (by rw [HE1.out, Int.toNat_natCast, tk_of HZ.out]; omega), HE1.out], by go_num, (by repeat (first | exact Xt.Nw.refl _ | refine Xt.Nw.drew ?_ | refine Xt.Nw.drewN ?_ _ | refine Xt.Nw.alloc ?_ _ | refine Xt.Nw.joined ?_ | refine Xt.Nw.drewd ?_ | refine Xt.Nw.drewdN ?_ | refine Xt.Nw.ext ?_ | refine Xt.Nw.ext_some ?_ (by assumption) | refine Xt.Nw.setCell ?_ (by simp [go_sem] <;> omega) _))⟩, by simp [intOf]; omega⟩
            · obtain rfl : j = n := by omega
              rcases hEk : E[k]? with _ | i
              · have hX := HX.out
                rw [hEk, hlen] at hX
                simp only at hX
                rw [hX]
                have hfin : E.take (k) = E := List.take_of_length_le (List.getElem?_eq_none_iff.1 hEk)
                have hown' := HO.out
                rw [hfin] at hown'
                have HO2 := Lib.hid hown'
                clear hX hEk hown'
                go_wp2
                refine bodyPost_ret (results_tmp2 rfl _ _ _) rfl ⟨_, E, rfl, HP.out, own_nw HO2.out ⟨_, rfl⟩, ⟨_, ext_ext⟩⟩
              · have hX := HX.out
                rw [hEk, hlen] at hX
                simp only at hX
                rw [hX]
                have hd : decide ((i : Int) < 0) = false := by simp
                have hown' : ((w.ext none d).ext none d2).ownsRow w.heap.size 3 1 (.slice (some ⟨g, o2, none⟩) (k) c') (k) (ints (natI (E.take (k)))) := by
                  have h1 := own_nw HO.out (show Nw (w.ext none d) ((w.ext none d).ext none d2) from ⟨_, rfl⟩)
                  rw [hlk] at h1
                  exact h1
                have htk := Lib.hid (show E.take (k + 1) = E.take (k) ++ [i] by
                  obtain ⟨p1, p2⟩ := List.getElem?_eq_some_iff.1 hEk
                  rw [List.take_succ_eq_append_getElem p1, p2])
                have hkE : k + 1 ≤ E.length := (List.getElem?_eq_some_iff.1 hEk).1
                clear hX hEk
                rw [ext_ext] at hown' ⊢
                go_wp2_with (at_builtin; refine wpList_app1 rfl _ _ 30 rfl 3 (.int .i64 0) 1 8 Try.underlying30 intInfo rfl (by decide) (w) _ (by repeat (first | exact Xt.Nw.refl _ | refine Xt.Nw.drew ?_ | refine Xt.Nw.drewN ?_ _ | refine Xt.Nw.alloc ?_ _ | refine Xt.Nw.joined ?_ | refine Xt.Nw.drewd ?_ | refine Xt.Nw.drewdN ?_ | refine Xt.Nw.ext ?_ | refine Xt.Nw.ext_some ?_ (by assumption) | refine Xt.Nw.setCell ?_ (by simp [go_sem] <;> omega) _)) _ _ _ rfl (by first | assumption | exact own_nw (by assumption) (by repeat (first | exact Xt.Nw.refl _ | refine Xt.Nw.drew ?_ | refine Xt.Nw.drewN ?_ _ | refine Xt.Nw.alloc ?_ _ | refine Xt.Nw.joined ?_ | refine Xt.Nw.drewd ?_ | refine Xt.Nw.drewdN ?_ | refine Xt.Nw.ext ?_ | refine Xt.Nw.ext_some ?_ (by assumption) | refine Xt.Nw.setCell ?_ (by simp [go_sem] <;> omega) _))) _ 1 1 _ _ rfl (by first | rfl | simp) rfl (by intro u hu; simp at hu; (repeat' rcases hu with rfl | hu) <;> first | rfl | (subst hu; rfl)) (by unfold maxLen; omega) (by omega) ?_; intro vA dA hownA)
                have hfin2 : OwnI (w.ext none dA) w.heap.size vA (natI (E.take (k + 1))) := OwnI.cast hownA (by rw [htk.out, natI_app, List.length_append, hlk]; rfl) (by rw [htk.out, natI_app]; simp [ints, natI])
                obtain ⟨A2, c2, hv2, _⟩ := hfin2.form
                have hl2 : (natI (E.take (k + 1))).length = k + 1 := by rw [htk.out, natI_app, List.length_append, hlk]; rfl
                refine ⟨⟨k + 1, hkE, hfin2, ⟨_, rfl⟩⟩, ?_⟩
                rw [hl2] at hv2
                subst hv2
                simp only [lenV, Array.getD_eq_getD_getElem?, List.getElem?_toArray, List.getElem?_cons_succ, List.getElem?_cons_zero, Option.getD_some]
                omega
      · have hkn : n ≤ k := by omega
        have hfin : E.take k = E := List.take_of_length_le (by omega)
        have hkn' : decide ((k : Int) < (n : Int)) = false := by simp; omega
        rw [hfin] at hown
        go_wp2
        refine bodyPost_ret (results_tmp2 rfl _ _ _) rfl ⟨_, E, rfl, HP.out, hown, (by repeat (first | exact Xt.Nw.refl _ | refine Xt.Nw.drew ?_ | refine Xt.Nw.drewN ?_ _ | refine Xt.Nw.alloc ?_ _ | refine Xt.Nw.joined ?_ | refine Xt.Nw.drewd ?_ | refine Xt.Nw.drewdN ?_ | refine Xt.Nw.ext ?_ | refine Xt.Nw.ext_some ?_ (by assumption) | refine Xt.Nw.setCell ?_ (by simp [go_sem] <;> omega) _))⟩
  · rw [hv] at HK
    have hE : chkE l = 15 := by simp [chkE, hb]
    have hP : EffP l [] := ⟨fun h => absurd (hb.symm.trans h) (by simp), fun _ => rfl⟩
    rw [hE]
    have HP := Lib.hid hP
    clear hb hv hE hP
    go_enter Try.func18, Try.ntmps18
    go_wp2_with (go_at_call 12; refine (HK.out).mono ?_; rintro e w' ⟨rfl, dW, rfl⟩)
    refine bodyPost_ret (results_tmp2 rfl _ _ _) rfl ⟨.slice none 0 0, [], rfl, HP.out, World.ownsRow_nil _ _ _ _, (by repeat (first | exact Xt.Nw.refl _ | refine Xt.Nw.drew ?_ | refine Xt.Nw.drewN ?_ _ | refine Xt.Nw.alloc ?_ _ | refine Xt.Nw.joined ?_ | refine Xt.Nw.drewd ?_ | refine Xt.Nw.drewdN ?_ | refine Xt.Nw.ext ?_ | refine Xt.Nw.ext_some ?_ (by assumption) | refine Xt.Nw.setCell ?_ (by simp [go_sem] <;> omega) _))⟩
end Go.Proofs.Ytjpgechcfkhoaaa
