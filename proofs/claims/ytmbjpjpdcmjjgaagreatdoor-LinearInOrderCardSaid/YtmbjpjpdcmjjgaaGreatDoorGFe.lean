import Derived.Test.YtmbjpjpdcmjjgaaGreatDoorGFl0
import Derived.Test.YtmbjpjpdcmjjgaaGreatDoorGKk
set_option linter.unusedVariables false
set_option linter.unusedSimpArgs false
set_option linter.unnecessarySimpa false
namespace Go.Proofs.YtmbjpjpdcmjjgaaGreatDoor
open Go.RowKit Go.Xt
theorem Is.extr {w : World} {A : Option Addr} {n mb m : Nat} {l : List Int} {f : Int → Option Int} (h : Is w A n l) (hM : MapAt w mb m f) (d : World) : Is (w.ext (some mb) d) A n l :=
  ⟨h.1, fun hn => by
    obtain ⟨b, o, rfl, hb, hc⟩ := h.2 hn
    refine ⟨b, o, rfl, Nat.lt_of_lt_of_le hb (le_size _ _ _), fun i x hi => (World.cell?_of_block ((gext w (some mb) d).block b hb ?_)).trans (hc i x hi)⟩
    intro e; injection e with e
    exact hM.ne (hc i x hi) e⟩
set_option maxRecDepth 20000 in
set_option maxHeartbeats 8000000 in
theorem agrees_any (B : Option Addr) (m cm : Nat) (o : List Int) (A : Option Addr) (n c : Nat) (l : List Cl) (w : World) (hm : m ≤ 1000) (ho : Is w B m o) (hwo : ∀ x ∈ o, (Lit.int .i64 x).wf = true) (hn : n ≤ 1000) (hc : n ≤ c) (hcm : c ≤ 9223372036854775807) (hl : Cs w A n l) (hw : ∀ y ∈ l, WfC y) :
    Calls Tryz.prog 30 #[.slice B m cm, .slice A n c] w fun e w' => e = .returned (.tuple #[.bool (agrB o l), .int .i64 (agrE o l)]) ∧ Nw w w' := by
  have HK := Lib.hid (hcheck_any A n c l w hn hc hcm hl hw)
  have HL := Lib.hid hl
  have HO := Lib.hid ho
  have HWO := Lib.hid hwo
  have hlen := hl.1
  have hlo := ho.1
  clear hl hw ho hwo
  rcases chk_cases l with ⟨hb, hv⟩ | ⟨i, hb, hv⟩
  · rw [hv] at HK
    have hE : agrE o l = scE o n 0 (o.length - 0) := by rw [agrE, if_pos hb, hlen]; rfl
    have HE := Lib.hid hE
    clear hb hv hE
    have hmm := @run_makeMap Tryz.prog
    go_enter Tryz.func30, Tryz.ntmps30
    go_wp2_with (go_at_call 33; refine (HK.out).mono ?_; rintro e w' ⟨rfl, dW, rfl⟩)
    obtain ⟨mb, hmb⟩ : ∃ mb, mb = (w.ext none dW).heap.size := ⟨_, rfl⟩
    obtain ⟨W1, hW1⟩ : ∃ W1, W1 = (w.ext none dW).alloc (.map #[] 0) := ⟨_, rfl⟩
    rw [← hmb, ← hW1]
    have hN1 : Nw w W1 := by rw [hW1]; exact nwa
    have hM0 : MapAt W1 mb 0 (pm o 0) := by rw [hW1, hmb, pm_zero]; exact mapAt_new _
    have hmw : w.heap.size ≤ mb := by rw [hmb]; exact le_size _ _ _
    have HN := Lib.hid hN1
    have HO1 := Lib.hid (HO.out.nw hN1)
    have HL1 := Lib.hid (HL.out.nw hN1)
    have HM0 := Lib.hid hM0
    have HMW := Lib.hid hmw
    clear hW1 hmb hN1 hM0 hmw
    go_loopw [9, 10, 11, 12, 29] (fun _ _ _ _ a wr => ∃ k : Nat, k ≤ m ∧ a = .int .i64 k ∧ Hid (agrE o l = scE o n k (o.length - k)) ∧ MapAt wr mb k (pm o k) ∧ ∃ d, wr = W1.ext (some mb) d) (fun _ _ _ _ a _ => m - (intOf a).toNat)
    case atStart => exact ⟨0, by omega, rfl, HE.out, HM0.out, W1, (ext_of (gref _ _)).symm⟩
    case round =>
      obtain ⟨k, hk, rfl, hsc, hMk, d, rfl⟩ := hrel
      by_cases hlt : k < m
      · obtain ⟨b, o1, x, rfl, hb, hx, hcx⟩ := HO1.out.get hlt
        have hbo : b ≠ mb := HM0.out.ne hcx
        haveI : In b W1 := ⟨hb⟩
        haveI : Off b (some mb) := ⟨by intro e; injection e with e; exact hbo e⟩
        have hS := Lib.hid (scE_cons (n := n) hx)
        have HX := Lib.hid hx
        have hxw := HWO.out x (List.mem_of_getElem? hx)
        have hkey := Lib.hid (show keyOf Tryz.prog 3 (.int .i64 x) = some (.int .i64 x) from Maps.keyOf_int_mk Tryz.underlying3 hxw)
        have hkm : (k : Int) < (m : Int) := by omega
        have hkw : (Lit.int .i64 (k : Int)).wf = true := by simp [Lit.wf, IntKind.min, IntKind.max, IntKind.bits, IntKind.signed]; omega
        have hval := Lib.hid (show plainElem (H := Unit) Tryz.prog 3 (.int .i64 k) = some (.lit (.int .i64 k), []) from plainElem_int Tryz.underlying3 hkw)
        have hNd : Nw w (W1.ext (some mb) d) := HN.out.ext_some HMW.out
        have HND := Lib.hid hNd
        clear hx hxw hkw hNd hbo
        by_cases h1 : x < 0
        · have hd1 : decide (x < 0) = true := by simpa using h1
          have hE : agrE o l = 3 := by rw [hsc.out, hS.out, if_pos (.inl h1)]
          have HE3 := Lib.hid hE
          clear hE hMk
          go_wp2
          refine bodyPost_ret (results_tmp2 rfl _ _ _) rfl ⟨by rw [agrB_false (by rw [HE3.out]; decide), HE3.out]; rfl, HND.out⟩
        · have hd1 : decide (x < 0) = false := by simpa using h1
          by_cases h2 : (n : Int) ≤ x
          · have hd2 : decide ((n : Int) ≤ x) = true := by simpa using h2
            have hE : agrE o l = 3 := by rw [hsc.out, hS.out, if_pos (.inr h2)]
            have HE3 := Lib.hid hE
            clear hE hMk
            go_wp2
            refine bodyPost_ret (results_tmp2 rfl _ _ _) rfl ⟨by rw [agrB_false (by rw [HE3.out]; decide), HE3.out]; rfl, HND.out⟩
          · have hd2 : decide ((n : Int) ≤ x) = false := by simpa using h2
            obtain ⟨D, hown, hD⟩ := hMk
            have HD := Lib.hid hD
            have HOwn := Lib.hid hown
            by_cases h3 : x ∈ o.take k
            · have hE : agrE o l = 9 := by rw [hsc.out, hS.out, if_neg (by omega), if_pos h3]
              have HE3 := Lib.hid hE
              have hhas : Maps.has D (.int .i64 x) = true := by rw [(hD x).1]; simp [pm, h3]
              clear hD hown hE h3
              go_wp2_with (at_lookup; refine wpList_lookup_own_ok_int _ rfl _ _ 99 rfl 3 3 .i64 (Maps.int_keyed Tryz.underlying3) Tryz.underlying99 Tryz.underlying3 (Tryz.zeroValue3 _) mb k D rfl HOwn.out _ _ rfl hkey.out ?_; intro c1 hat hwc)
              refine bodyPost_ret (results_tmp2 rfl _ _ _) rfl ⟨by rw [agrB_false (by rw [HE3.out]; decide), HE3.out]; rfl, HND.out⟩
            · have hE := Lib.hid (show agrE o l = scE o n (k + 1) (o.length - (k + 1)) by rw [hsc.out, hS.out, if_neg (by omega), if_neg h3])
              have hhas : Maps.has D (.int .i64 x) = false := by rw [(hD x).1]; simp [pm, h3]
              have HPM := Lib.hid (pm_succ HX.out h3)
              clear hD hown h3
              go_wp2_with (first | (at_lookup; refine wpList_lookup_own_ok_int _ rfl _ _ 99 rfl 3 3 .i64 (Maps.int_keyed Tryz.underlying3) Tryz.underlying99 Tryz.underlying3 (Tryz.zeroValue3 _) mb k D rfl HOwn.out _ _ rfl hkey.out ?_; intro c1 hat hwc) | (at_mapUpdate; refine wpList_mapUpdate_own _ rfl _ _ _ 99 rfl 3 3 (Maps.int_keyed Tryz.underlying3) Tryz.underlying99 _ mb k D rfl HOwn.out (by unfold maxLen; omega) _ _ (.int .i64 x) rfl rfl hkey.out (.lit (.int .i64 k)) [] hval.out ?_; intro w1 hown1 hgrow1))
              have hM' : MapAt w1 mb (k + 1) (pm o (k + 1)) := by rw [← HPM.out]; exact mapAt_put x k HOwn.out.isMap HD.out hown1
              have hG' : W1.grownBy w1 (some mb) := grownBy_trans (gext _ _ _) hgrow1
              have HG' := Lib.hid hG'
              have HM' := Lib.hid hM'
              clear hgrow1 hown1 hG' hM'
              go_wp2
              refine ⟨⟨k + 1, by omega, by go_num, hE.out, HM'.out, _, (ext_of HG'.out).symm⟩, by simp [intOf]; omega⟩
      · have hkn : k = m := by omega
        have hE0 : agrE o l = 0 := by rw [hsc.out, hkn, hlo, Nat.sub_self]; rfl
        have HE0 := Lib.hid hE0
        have hscE : scE o n 0 o.length = 0 := by have := HE.out; rw [hE0] at this; exact this.symm
        have HSC := Lib.hid hscE
        have hN2 : Nw w (W1.ext (some mb) d) := HN.out.ext_some HMW.out
        have hO2 := HO1.out.extr HM0.out d
        have hL2 := HL1.out.extr HM0.out d
        subst hkn
        generalize W1.ext (some mb) d = W2 at hN2 hO2 hL2 hMk ⊢
        have HN2 := Lib.hid hN2
        have HO2 := Lib.hid hO2
        have HL2 := Lib.hid hL2
        obtain ⟨D, hown, hD⟩ := hMk
        have HD := Lib.hid hD
        have HOwn := Lib.hid hown
        clear hE0 hsc hscE hN2 hO2 hL2 hown hD hlt
        go_wp2
        go_loopw [14, 15, 16, 17, 55] (fun _ _ _ _ a wr => ∃ I : Nat, I ≤ k ∧ a = .int .i64 I ∧ Hid (∀ (i q : Nat) (x y : Cl), (q : Int) ∈ o.take I → l[i]? = some x → l[q]? = some y → okIK o x y i q = true) ∧ Nw W2 wr) (fun _ _ _ _ a _ => k - (intOf a).toNat)
        case atStart => exact ⟨0, by omega, rfl, (fun i q x y h => by simp at h), nwa⟩
        case round =>
          obtain ⟨I, hI, rfl, hok, d2, rfl⟩ := hrel
          by_cases hltI : I < k
          · obtain ⟨b, o1, z, rfl, hb, hz, hcz⟩ := HO2.out.get hltI
            haveI : In b W2 := ⟨hb⟩
            have hr := scE_zero o n o.length 0 (by omega) HSC.out I z (by omega) hz
            obtain ⟨q, rfl⟩ : ∃ q : Nat, z = q := ⟨z.toNat, by omega⟩
            have hqn : q < n := by omega
            obtain ⟨b2, o2, y, rfl, hb2, hy, hcy⟩ := HL2.out.get hqn
            haveI : CallAt W2 b2 (o2 + q * 18) y := ⟨hcy, hb2⟩
            haveI : In b2 W2 := ⟨hb2⟩
            have HY := Lib.hid hy
            have HZ := Lib.hid hz
            have hqo : (q : Int) ∈ o := List.mem_of_getElem? hz
            have hkq := Lib.hid (show keyOf Tryz.prog 3 (.int .i64 (q : Int)) = some (.int .i64 (q : Int)) from Maps.keyOf_int_mk Tryz.underlying3 (by simp [Lit.wf, IntKind.min, IntKind.max, IntKind.bits, IntKind.signed]; omega))
            obtain ⟨pk, hpk⟩ : ∃ p, p = plF o (q : Int) 0 := ⟨_, rfl⟩
            have hvq : D.atKey (.int .i64 (q : Int)) (.lit (.int .i64 0)) = .lit (.int .i64 pk) := (HD.out q).2 pk (by rw [pm_all o (by omega), if_pos hqo, hpk])
            have HVQ := Lib.hid hvq
            have HPK := Lib.hid hpk
            have hk0 : 0 ≤ pk := by rw [hpk]; exact plF_mem.2 hqo
            have HK0 := Lib.hid hk0
            clear hy hz hr hqo hpk hvq hcy hk0
            go_wp2
            go_loopw [15, 16, 17, 61] (fun _ _ _ a wr => ∃ J : Nat, J ≤ n ∧ a = .int .i64 J ∧ Hid (∀ (i : Nat) (x : Cl), i < J → l[i]? = some x → okIK o x y i q = true) ∧ Nw (W2.ext none d2) wr) (fun _ _ _ a _ => n - (intOf a).toNat)
            case atStart => exact ⟨0, by omega, rfl, (fun i x h => absurd h (by omega)), nwa⟩
            case round =>
              obtain ⟨J, hJ, rfl, hokJ, d3, rfl⟩ := hrel
              by_cases hltJ : J < n
              · obtain ⟨b', o', x, e1, _, hx, hcx⟩ := HL2.out.get hltJ
                obtain ⟨rfl, rfl⟩ : b2 = b' ∧ o2 = o' := by simpa using e1
                haveI : CallAt W2 b2 (o2 + J * 18) x := ⟨hcx, hb2⟩
                have HX := Lib.hid hx
                have hJn : (J : Int) < (n : Int) := by omega
                have hbf := Lib.hid (fun W => before_any x y W)
                have hkJ := Lib.hid (show keyOf Tryz.prog 3 (.int .i64 (J : Int)) = some (.int .i64 (J : Int)) from Maps.keyOf_int_mk Tryz.underlying3 (by simp [Lit.wf, IntKind.min, IntKind.max, IntKind.bits, IntKind.signed]; omega))
                have hnext : okIK o x y J q = true → Hid (∀ (i : Nat) (x : Cl), i < J + 1 → l[i]? = some x → okIK o x y i q = true) := fun h i z hi hz => by
                  rcases Nat.lt_succ_iff_lt_or_eq.1 hi with hi' | rfl
                  · exact hokJ.out i z hi' hz
                  · have := HX.out; rw [hz] at this; injection this with this; subst this; exact h
                have HNX := Lib.hid hnext
                clear hx hcx e1 hnext hokJ
                cases hb0 : bf x y with
                | false =>
                  rw [hb0] at hbf
                  have HB0 := Lib.hid hb0
                  clear hb0
                  go_upto_region 21 with (fail)
                  (refine wp_region_nw (by kernel_rfl) (by kernel_rfl) ?_; (repeat (go_big_quiet_step ((go_at_call 34; exact quiet_of (hbf.out _))))); refine wpQuiet_nil ?_; intro _ hreg; obtain ⟨dW, rfl⟩ : Nw _ _ := hreg)
                  go_wp2
                  refine ⟨⟨J + 1, by omega, by go_num, HNX.out (by rw [okIK, HB0.out]; rfl), nwa⟩, by simp [intOf]; omega⟩
                | true =>
                  rw [hb0] at hbf
                  have HB0 := Lib.hid hb0
                  clear hb0
                  by_cases g1 : (J : Int) ∈ o
                  · obtain ⟨pi, hpi⟩ : ∃ p, p = plF o (J : Int) 0 := ⟨_, rfl⟩
                    have hhas : Maps.has D (.int .i64 (J : Int)) = true := by rw [(HD.out J).1, pm_all o (by omega), if_pos g1]; rfl
                    have HVJ := Lib.hid (show D.atKey (.int .i64 (J : Int)) (.lit (.int .i64 0)) = .lit (.int .i64 pi) from (HD.out J).2 pi (by rw [pm_all o (by omega), if_pos g1, hpi]))
                    have HPI := Lib.hid hpi
                    have HI0 := Lib.hid (show 0 ≤ pi by rw [hpi]; exact plF_mem.2 g1)
                    clear hpi g1
                    by_cases g3 : pk < pi
                    · have e3 : decide (pk < pi) = true := by simpa using g3
                      go_upto_region 21 with (fail)
                      (refine wp_region_nw (by kernel_rfl) (by kernel_rfl) ?_; (repeat (go_big_quiet_step ((go_at_call 34; exact quiet_of (hbf.out _))))); refine wpQuiet_nil ?_; intro _ hreg; obtain ⟨dW, rfl⟩ : Nw _ _ := hreg)
                      obtain ⟨c2, hrun2, hat2, hwc2⟩ := (HOwn.out.kept (row := none) (w' := ((W2.ext none d2).ext none d3).ext none dW) (Nw.grown (nwa)) (by simp)).lookup_int (t := 99) (Maps.int_keyed Tryz.underlying3) Tryz.underlying99 Tryz.underlying3 (Tryz.zeroValue3 _) hkq.out
                      obtain rfl : pk = c2 := by (have h1 := HVQ.out; rw [hat2] at h1; injection h1 with h1; injection h1 with _ h1; exact h1.symm)
                      go_wp2_with (at_lookup; refine wpList_lookup_own_ok_int _ rfl _ _ 99 rfl 3 3 .i64 (Maps.int_keyed Tryz.underlying3) Tryz.underlying99 Tryz.underlying3 (Tryz.zeroValue3 _) mb k D rfl (HOwn.out.kept (Nw.grown (nwa)) (by simp)) _ _ rfl hkJ.out ?_; intro c1 hat hwc; obtain rfl : pi = c1 := by (have h1 := HVJ.out; rw [hat] at h1; injection h1 with h1; injection h1 with _ h1; exact h1.symm))
                      refine bodyPost_ret (results_tmp2 rfl _ _ _) rfl ⟨?_, HN2.out.trans (nwa)⟩
                      rw [agrB_no HX.out HY.out (by rw [okIK, HB0.out, ← HPI.out, ← HPK.out]; simp [e3, HK0.out]), HE0.out]; rfl
                    · have e3 : decide (pk < pi) = false := by simpa using g3
                      go_upto_region 21 with (fail)
                      (refine wp_region_nw (by kernel_rfl) (by kernel_rfl) ?_; (repeat (go_big_quiet_step ((go_at_call 34; exact quiet_of (hbf.out _))))); refine wpQuiet_nil ?_; intro _ hreg; obtain ⟨dW, rfl⟩ : Nw _ _ := hreg)
                      obtain ⟨c2, hrun2, hat2, hwc2⟩ := (HOwn.out.kept (row := none) (w' := ((W2.ext none d2).ext none d3).ext none dW) (Nw.grown (nwa)) (by simp)).lookup_int (t := 99) (Maps.int_keyed Tryz.underlying3) Tryz.underlying99 Tryz.underlying3 (Tryz.zeroValue3 _) hkq.out
                      obtain rfl : pk = c2 := by (have h1 := HVQ.out; rw [hat2] at h1; injection h1 with h1; injection h1 with _ h1; exact h1.symm)
                      go_wp2_with (at_lookup; refine wpList_lookup_own_ok_int _ rfl _ _ 99 rfl 3 3 .i64 (Maps.int_keyed Tryz.underlying3) Tryz.underlying99 Tryz.underlying3 (Tryz.zeroValue3 _) mb k D rfl (HOwn.out.kept (Nw.grown (nwa)) (by simp)) _ _ rfl hkJ.out ?_; intro c1 hat hwc; obtain rfl : pi = c1 := by (have h1 := HVJ.out; rw [hat] at h1; injection h1 with h1; injection h1 with _ h1; exact h1.symm))
                      refine ⟨⟨J + 1, by omega, by go_num, HNX.out (by rw [okIK, HB0.out, ← HPI.out, ← HPK.out]; have := HI0.out; simp [e3]; omega), nwa⟩, by simp [intOf]; omega⟩
                  · have hhas : Maps.has D (.int .i64 (J : Int)) = false := by rw [(HD.out J).1, pm_all o (by omega), if_neg g1]; rfl
                    have HNO := Lib.hid (plF_neg g1)
                    clear g1
                    go_upto_region 21 with (fail)
                    (refine wp_region_nw (by kernel_rfl) (by kernel_rfl) ?_; (repeat (go_big_quiet_step ((go_at_call 34; exact quiet_of (hbf.out _))))); refine wpQuiet_nil ?_; intro _ hreg; obtain ⟨dW, rfl⟩ : Nw _ _ := hreg)
                    go_wp2_with (at_lookup; refine wpList_lookup_own_ok_int _ rfl _ _ 99 rfl 3 3 .i64 (Maps.int_keyed Tryz.underlying3) Tryz.underlying99 Tryz.underlying3 (Tryz.zeroValue3 _) mb k D rfl (HOwn.out.kept (Nw.grown (nwa)) (by simp)) _ _ rfl hkJ.out ?_; intro c1 hat hwc)
                    refine bodyPost_ret (results_tmp2 rfl _ _ _) rfl ⟨?_, HN2.out.trans (nwa)⟩
                    rw [agrB_no HX.out HY.out (by rw [okIK, HB0.out, HNO.out, ← HPK.out]; simp [HK0.out]), HE0.out]; rfl
              · have hJn : J = n := by omega
                go_wp2
                refine ⟨⟨I + 1, by omega, by go_num, ?_, nwa⟩, by simp [intOf]; omega⟩
                intro i q' z y' hq' hz hy'
                obtain ⟨p1, q1⟩ := List.getElem?_eq_some_iff.1 HZ.out
                rw [List.take_succ_eq_append_getElem p1, q1, List.mem_append] at hq'
                rcases hq' with hq' | hq'
                · exact hok.out i q' z y' hq' hz hy'
                · obtain rfl : q' = q := by simp at hq'; omega
                  have := HY.out; rw [hy'] at this; injection this with this; subst this
                  exact hokJ.out i z (by rw [hJn, ← hlen]; exact (List.getElem?_eq_some_iff.1 hz).1) hz
          · have hIn : I = k := by omega
            go_wp2
            refine bodyPost_ret (results_tmp2 rfl _ _ _) rfl ⟨?_, HN2.out.trans (nwa)⟩
            rw [agrB_yes HE0.out (okAll_of fun i q x y hq hx hy => hok.out i q x y (by rw [hIn, List.take_of_length_le (by omega)]; exact hq) hx hy), HE0.out]; rfl
  · rw [hv] at HK
    have hE : agrE o l = 15 := by rw [agrE, if_neg (by rw [hb]; simp)]
    have HE := Lib.hid hE
    clear hb hv hE
    go_enter Tryz.func30, Tryz.ntmps30
    go_wp2_with (go_at_call 33; refine (HK.out).mono ?_; rintro e w' ⟨rfl, dW, rfl⟩)
    refine bodyPost_ret (results_tmp2 rfl _ _ _) rfl ⟨by rw [agrB_false (by rw [HE.out]; decide), HE.out]; rfl, nwa⟩
end Go.Proofs.YtmbjpjpdcmjjgaaGreatDoor
namespace Go.Proofs.YtmbjpjpdcmjjgaaGreatDoor
open Go.RowKit Go.Xt
/-! Valid, plain. -/
noncomputable def validE (c : Cf) (cuts : List Nat) (o : List Int) (l : List Cl) : Int :=
  if begE c cuts l = 0 then
    if agrE o l = 0 then
      if agrB o l = true ∧ (runM l (s0M c) (o.map Int.toNat)).isSome = true ∧ fullB l (o.map Int.toNat) = true then 0 else 18
    else agrE o l
  else begE c cuts l
theorem toNat_natI (z : List Nat) : (natI z).map Int.toNat = z := by simp [natI, List.map_map, Function.comp_def]
theorem agr_ord {o : List Int} {l : List Cl} (hb : bad l = none) (h : agrE o l = 0) : ∃ z, o = natI z ∧ Ord l.length z := by
  rw [agrE, if_pos hb] at h
  have hs := scE_zero o l.length o.length 0 (by simp) h
  have hge : ∀ x ∈ o, 0 ≤ x ∧ x < l.length := fun x hx => by
    obtain ⟨j, hj⟩ := List.mem_iff_getElem?.1 hx
    have := hs j x (Nat.zero_le _) hj
    exact ⟨this.1, this.2.1⟩
  refine ⟨o.map Int.toNat, ?_, ?_, ?_⟩
  · rw [natI, List.map_map]
    have : ∀ x ∈ o, (fun i : Nat => (i : Int)) x.toNat = x := fun x hx => by have := hge x hx; simp; omega
    conv => lhs; rw [← List.map_id o]
    exact List.map_congr_left fun x hx => by have := hge x hx; simp; omega
  · rw [List.nodup_iff_pairwise_ne, List.pairwise_map, List.pairwise_iff_getElem]
    intro i j hi hj hij e
    have h1 := hge _ (List.getElem_mem hi)
    have h2 := hge _ (List.getElem_mem hj)
    have e2 : o[i] = o[j] := by omega
    have h3 := (hs j o[j] (Nat.zero_le _) (List.getElem?_eq_getElem hj)).2.2
    exact h3 (e2 ▸ mem_take (List.getElem?_eq_getElem hi) hij)
  · intro i hi
    obtain ⟨x, hx, rfl⟩ := List.mem_map.1 hi
    have := hge x hx
    omega
theorem valid_zero {c : Cf} {cuts : List Nat} {o : List Int} {l : List Cl} : validE c cuts o l = 0 ↔ begE c cuts l = 0 ∧ ∃ z, o = natI z ∧ Lin l (s0M c) z := by
  unfold validE
  by_cases hb : begE c cuts l = 0
  · obtain ⟨-, hbad, -⟩ := begE_ok hb
    rw [if_pos hb]
    by_cases ha : agrE o l = 0
    · rw [if_pos ha]
      obtain ⟨z, rfl, hz⟩ := agr_ord hbad ha
      rw [toNat_natI]
      have hag := hz.agrB hbad
      constructor
      · intro h
        split at h
        · rename_i h2
          exact ⟨hb, z, rfl, hz, hag.1 h2.1, h2.2.1, h2.2.2⟩
        · exact absurd h (by decide)
      · rintro ⟨-, z', e, h1, h2, h3, h4⟩
        have e2 : z = z' := by rw [← toNat_natI z, e, toNat_natI]
        subst e2
        rw [if_pos ⟨hag.2 h2, h3, h4⟩]
    · rw [if_neg ha]
      constructor
      · intro h; exact absurd h ha
      · rintro ⟨-, z, rfl, h, -⟩
        exact absurd (h.agrE hbad) ha
  · rw [if_neg hb]
    constructor
    · intro h; exact absurd h hb
    · intro h; exact absurd h.1 hb
end Go.Proofs.YtmbjpjpdcmjjgaaGreatDoor
