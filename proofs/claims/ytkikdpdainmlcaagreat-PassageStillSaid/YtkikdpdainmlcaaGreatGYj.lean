import Derived.Test.YtkikdpdainmlcaaGreatGYf
import Derived.Test.YtkikdpdainmlcaaGreatGYe
set_option linter.unusedVariables false
set_option linter.unusedSimpArgs false
set_option linter.unnecessarySimpa false
namespace Go.Proofs.YtkikdpdainmlcaaGreat
open Go.RowKit Go.Xt
/-! The law PassageStill. -/
set_option maxRecDepth 20000 in
set_option maxHeartbeats 8000000 in
theorem still_M (c : Cf) (cuts : List Nat) (A : Option Addr) (n cap : Nat) (l : List Cl) (w : World) (hr : Rd w 1 c.cA cuts.length (nums cuts)) (hcn : c.cn = cuts.length) (he : 0 ≤ c.eng ∧ c.eng < 256) (hcm : c.cc ≤ maxLen) (hcc : c.cn ≤ c.cc) (hnc : n ≤ cap) (hc : cap ≤ 9223372036854775807) (hl : Cs w A n l) (hw : ∀ y ∈ l, WfX y) :
    Calls Tryz.prog 4 #[confV c, .slice A n cap] w fun e w' => e = .returned (.bool true) ∧ Nw w w' := by
  obtain ⟨b0, hb0⟩ : ∃ b, b = w.heap.size := ⟨_, rfl⟩
  obtain ⟨W0, hW0⟩ : ∃ W, W = w.alloc (cellsOf c 27) := ⟨_, rfl⟩
  have hn0 : Nw w W0 := by rw [hW0]; exact (Nw.refl w).alloc _
  haveI hca : ConfAt W0 b0 c := by rw [hW0]; exact ⟨fun i v hv => by unfold cellsOf; unfold ccells at hv; rw [hb0, World.cell?_alloc_new]; simpa using hv, by rw [hb0]; simp⟩
  have hbx : BoxAt W0 b0 := by rw [hW0, hb0]; exact ConfAt.box
  have HSM := Lib.hid (small_any c cuts W0 hcn hcc hcm (Rd.nw hr hn0))
  have HFE := Lib.hid (fun W (hq : Nw w W) => few30_any A n cap l W hnc hc (hl.nw hq))
  have HW := Lib.hid hw
  have HEN := Lib.hid he
  have HCN := Lib.hid hcn
  unfold cellsOf at hW0
  have HW0 := Lib.hid hW0
  have HN0 := Lib.hid hn0
  have HB0 := Lib.hid hb0
  have HBX := Lib.hid hbx
  unfold confV at HSM ⊢
  haveI : In b0 W0 := ⟨hca.lt⟩
  clear hb0 hW0 hn0 hbx hr hcn he hcm hcc hl hw
  go_enter Tryz.func4, Tryz.ntmps4
  go_upto_region 1 with (fail)
  rw [← HW0.out, ← HB0.out]
  go_wp2_with fail
  refine HSM.out.mono ?_
  rintro e W1 ⟨c', rfl, hc', hrd, hap, hn1⟩
  have hbx1 := HBX.out.nw hn1
  have hst := run_storeConf (c := c') hbx1
  unfold confV at hst
  obtain ⟨W2, hW2⟩ : ∃ W, W = putConf W1 b0 c' := ⟨_, rfl⟩
  have hcf : ConfAt W2 b0 c' := by rw [hW2]; exact putConf_at hbx1
  have hch : Chg [b0] W1 W2 := by rw [hW2]; exact putConf_chg W1 b0 c'
  rw [← hW2] at hst
  have hn2 : Nw w W2 := nw_chg2 (HN0.out.trans hn1) hch (fun k hk => by have := HB0.out; simp at hk; omega)
  have hrd2 : Rd W2 1 c'.cA (cuts.take 70).length (nums (cuts.take 70)) := by
    rw [hW2]
    exact rd_chg hrd (putConf_chg W1 b0 c') (fun b o e => by have := hap b o e; have := HBX.out.lt; simp; omega)
  haveI : In b0 W1 := ⟨hbx1.lt⟩
  haveI := hcf
  haveI : In b0 W2 := ⟨hcf.lt⟩
  have HN2 := Lib.hid hn2
  have HRD := Lib.hid hrd2
  have HC' := Lib.hid hc'
  clear hW2 hch hn2 hrd hrd2 hn1 hbx1 hc' hap
  go_wp2_with fail
  refine (HFE.out W2 HN2.out).mono ?_
  rintro e W3 ⟨v, rfl, hown, hn3⟩
  obtain ⟨A3, c3, rfl, hcs, hle, hcm3, hfz⟩ := hown.form
  obtain ⟨L, hL⟩ : ∃ L, L = l.take 30 := ⟨_, rfl⟩
  rw [← hL] at hown hcs hle ⊢
  obtain ⟨m, hm⟩ : ∃ m, m = L.length := ⟨_, rfl⟩
  rw [← hm] at hown hcs hle ⊢
  have hm16 : m ≤ 30 := by rw [hm, hL]; simp only [List.length_take]; omega
  have hwl : ∀ y ∈ L, WfX y := fun y hy => HW.out y (List.mem_of_mem_take (hL ▸ hy))
  have hin : In3 W3 c' (cuts.take 70) A3 m c3 L := ⟨HRD.out.nw hn3, by rw [HC'.out, List.length_take, ← HCN.out]; exact Nat.min_comm _ _, by rw [HC'.out]; exact HEN.out, by omega, hle, hcm3, hcs, hwl⟩
  haveI hca3 : ConfAt W3 b0 c' := hcf.nw hn3
  haveI : In b0 W3 := ⟨hca3.lt⟩
  have HIN := Lib.hid hin
  have HN3 := Lib.hid (HN2.out.trans hn3)
  have HM16 := Lib.hid hm16
  have HM := Lib.hid hm
  obtain ⟨cu, hcu⟩ : ∃ cu, cu = cuts.take 70 := ⟨_, rfl⟩
  rw [← hcu] at HIN
  have HAW := Lib.hid (fun W (hq : Nw W3 W) => awake_any W)
  have hmc : (m : Int) ≤ (c3 : Int) := by omega
  clear hown hcs hle hcm3 hfz hL hm hwl hin hm16 hn3 hcu hst HRD HC' HFE HSM hcf
  have HCK1 := Lib.hid (fun W (hq : Nw W3 W) => pcheck_any (HIN.out.nw hq))
  have HPS := Lib.hid (fun W (hq : Nw W3 W) => passages_any A3 m c3 L W (by have := HM16.out; omega) (HIN.out.nw hq).nc (HIN.out.nw hq).cap_ (HIN.out.nw hq).hl (fun y hy => (HIN.out.wf y hy).wf))
  have HTL := Lib.hid (fun W (hq : Nw W3 W) (op : Int) => told_any op A3 m c3 L W (by have := HM16.out; omega) (HIN.out.nw hq).nc (HIN.out.nw hq).cap_ (HIN.out.nw hq).hl (fun y hy => (HIN.out.wf y hy).wf))
  obtain ⟨p1, hp1⟩ : ∃ p1, p1 = (pChk c' cu L).1 := ⟨_, rfl⟩
  obtain ⟨e1, he1⟩ : ∃ e1, e1 = (pChk c' cu L).2 := ⟨_, rfl⟩
  have HE1 := Lib.hid he1
  unfold PcP at HCK1
  rw [← hp1, ← he1] at HCK1
  unfold confV at HCK1
  clear hp1 he1
  go_wp2_with fail
  refine (HCK1.out _ (nwa)).mono ?_
  rintro e W4 ⟨rfl, hn4⟩
  haveI hca4 : ConfAt W4 b0 c' := hca3.nw hn4
  haveI : In b0 W4 := ⟨hca4.lt⟩
  have HN4 := Lib.hid hn4
  clear hn4
  by_cases h1 : e1 = 0
  · have HF := Lib.hid (fun (i : Nat) (r : List Nat) (hr : (passL L)[i]? = some r) => still_fact (c := c') (cuts := cu) HIN.out.wf (HE1.out.symm.trans h1) hr)
    have hck := (pChk_ok.1 (HE1.out.symm.trans h1)).1
    have hbad := wChk_bad hck
    obtain ⟨o2, hX⟩ := wChk_X hck
    have HAT := Lib.hid (fun W (hq : Nw W3 W) (t : Int) (ht : -1 ≤ t) => show Calls Tryz.prog 16 #[confV c', .int .i64 t, .slice A3 m c3] W (PairsP W (0, mapsA c' cu L t)) from by
      have h := wat_any (HIN.out.nw hq) t
      rw [wAt_ok hX ht] at h
      exact h)
    have HTK := Lib.hid (fun (k : Nat) (y : Cl) (hy : L[k]? = some y) => (good_took (good_atP hbad hy)).1)
    unfold confV at HAT
    unfold PassP at HPS
    simp only [if_pos hbad] at HPS
    obtain ⟨Am, hAm⟩ : ∃ Am, Am = mapsA c' cu L := ⟨_, rfl⟩
    have hF0 := HF.out
    have hS0 : ∀ (i : Nat) (r : List Nat), (passL L)[i]? = some r → ∃ op x T, r[0]? = some op ∧ StillF c' cu L r op x T := hF0
    clear hF0 HF
    have HF := Lib.hid hS0
    rw [← hAm] at HAT
    have HAM := Lib.hid hAm
    subst h1
    clear hck hbad hX hAm hS0
    go_wp2_with fail
    refine (HPS.out _ (Nw.trans HN4.out (nwa))).mono ?_
    rintro e W5 ⟨v, zs, rfl, hRR, hn5⟩
    obtain ⟨Ap, cp, rfl, hRI⟩ := hRR.rowsI
    have hpl := passL_len (l := L)
    have hwi := passL_within (l := L) (by have := HM.out; have := HM16.out; omega)
    obtain ⟨P, hP⟩ : ∃ P, P = passL L := ⟨_, rfl⟩
    rw [← hP] at HF hRI hpl hwi ⊢
    rw [← HM.out] at hwi
    obtain ⟨np, hnp⟩ : ∃ np, np = P.length := ⟨_, rfl⟩
    rw [← hnp] at hRI hpl ⊢
    have hnp30 : np ≤ 30 := by have := HM.out; have := HM16.out; omega
    have HN5 := Lib.hid (Nw.trans HN4.out (Nw.trans (nwa) hn5))
    haveI hca5 : ConfAt W5 b0 c' := hca3.nw HN5.out
    haveI : In b0 W5 := ⟨hca5.lt⟩
    have HRI := Lib.hid hRI
    have HNP := Lib.hid hnp
    have HRL := Lib.hid (fun (i : Nat) (r : List Nat) (hr : P[i]? = some r) => (hwi r (List.mem_of_getElem? hr)).2)
    have HWI := Lib.hid (fun W (hq : Nw W5 W) => within_yes (cm := cp) m (hRI.nw hq) (by omega) hwi)
    clear hRR hn5 hP hRI hpl hwi hnp
    go_wp2_with fail
    refine (HWI.out _ (nwa)).mono ?_
    rintro e W6 ⟨rfl, hn6⟩
    have hn56 : Nw W5 W6 := Nw.trans (nwa) hn6
    clear hn6
    haveI hca6 : ConfAt W6 b0 c' := hca5.nw hn56
    haveI : In b0 W6 := ⟨hca6.lt⟩
    have HN6 := Lib.hid (HN5.out.trans hn56)
    have HRI6 := Lib.hid (HRI.out.nw hn56)
    clear hn56
    go_wp2_with fail
    go_loopw [10, 11, 12, 13, 14, 15, 16, 17, 18, 19, 20, 21, 22, 23, 24] (fun a _ _ _ _ _ _ _ _ _ _ _ _ _ _ wr => ∃ i : Nat, i ≤ np ∧ a = .int .i64 i ∧ Nw W6 wr) (fun a _ _ _ _ _ _ _ _ _ _ _ _ _ _ _ => np - (intOf a).toNat)
    case atStart => exact ⟨0, Nat.zero_le _, rfl, nwa⟩
    case round =>
      obtain ⟨i, hi, rfl, hnr⟩ := hrel
      obtain ⟨wo, hwo⟩ : ∃ q, q = wr := ⟨_, rfl⟩
      subst hwo
      haveI hcao : ConfAt wo b0 c' := hca6.nw hnr
      haveI : In b0 wo := ⟨hcao.lt⟩
      have HNR := Lib.hid (show Nw W3 wo from HN6.out.trans hnr)
      by_cases hin : i < np
      · obtain ⟨bp, op_, Ar, cr, r, rfl, hbp, hr, hcl, his⟩ := (HRI6.out.nw hnr).get hin
        obtain ⟨op, x0, T, hr0, hF⟩ := HF.out i r hr
        obtain ⟨nr, hnrr⟩ : ∃ q, q = r.length := ⟨_, rfl⟩
        have hrl := HRL.out i r hr
        rw [← hnrr] at hcl his hrl
        have hnr0 : 0 < nr := by rw [hnrr]; exact (List.getElem?_eq_some_iff.1 hr0).1
        obtain ⟨bz, oz, zv, rfl, hbz, hzv, hcz⟩ := his.get hnr0
        obtain ⟨q, rfl, hq⟩ := natI_get hzv
        obtain rfl : q = op := by rw [hr0] at hq; injection hq with hq; exact hq.symm
        rw [Nat.add_zero] at hcz
        have hopn : q < m := by rw [HM.out]; exact (List.getElem?_eq_some_iff.1 hF.hx).1
        obtain ⟨b, o, x0', rfl, hb, hx0', hcx0⟩ := (HIN.out.hl.nw HNR.out).get hopn
        obtain rfl : x0 = x0' := by rw [hF.hx] at hx0'; injection hx0'
        haveI : CallAt wo b (o + q * 18) x0 := ⟨hcx0, hb⟩
        haveI : In b wo := ⟨hb⟩
        haveI : In bp wo := ⟨hbp⟩
        haveI : In bz wo := ⟨hbz⟩
        obtain ⟨w10, hw10⟩ : ∃ q, q = (wo.alloc (.cells #[.int .i64 x0.th, .int .i64 x0.ix, .int .u8 x0.kd, .int .u64 x0.ka, .int .u64 x0.kb, .int .u64 x0.kc, .int .u64 x0.kx, .int .u64 x0.ky, .int .u64 x0.kz, .int .i64 x0.inv, .int .i64 x0.took, .int .i64 x0.ans, .int .i64 x0.st, .int .i64 x0.re, .bool x0.rf, .int .u64 x0.rk, .int .u64 x0.rv, .int .i64 x0.rc] 45)) := ⟨_, rfl⟩
        have hn10 : Nw wo w10 := by rw [hw10]; exact nwa
        haveI hco10 : CallAt w10 wo.heap.size 0 x0 := by rw [hw10]; infer_instance
        haveI : In bp w10 := ⟨Nat.lt_of_lt_of_le hbp hn10.grown.size⟩
        haveI : In bz w10 := ⟨Nat.lt_of_lt_of_le hbz hn10.grown.size⟩
        haveI : In wo.heap.size w10 := ⟨hco10.lt⟩
        haveI hca10 : ConfAt w10 b0 c' := hcao.nw hn10
        haveI : In b0 w10 := ⟨hca10.lt⟩
        have hc10 := cell_nw hcl hn10
        have HF1 := Lib.hid hF
        have HT := Lib.hid (fun W (hq : Nw W3 W) => HTL.out W hq (q : Int))
        rw [hF.told] at HT
        have i1 : (i : Int) < (np : Int) := by omega
        have i2 : i < 1000000 := by omega
        have i3 : (q : Int) < (m : Int) := by omega
        have i4 : q < 1000000 := by have := HM16.out; omega
        have i5 : (0 : Int) < (nr : Int) := by omega
        have HN10 := Lib.hid (HNR.out.trans hn10)
        have HN610 := Lib.hid (hnr.trans hn10)
        have HW10 := Lib.hid hw10
        have HINP := Lib.hid hin
        have HIS := Lib.hid his
        have HCZ := Lib.hid (cell_nw hcz hn10)
        have HR2 := Lib.hid hrl.1
        have HFK := Lib.hid (fun (k q : Nat) (hq : r[k]? = some q) => hrl.2 q (List.mem_of_getElem? hq))
        have HNRR := Lib.hid hnrr
        clear hi hnr hin hr hr0 hF hnrr hzv hq hx0' hcx0 hb hbp hbz hw10 hn10 his hopn hca5 hca6 hrl
        go_upto_region 13 with (fail)
        rw [← HW10.out]
        go_upto_block 2 with (fail)
        go_cut [12] (fun a wx => ∃ tz : Int, a = .int .i64 tz ∧ Hid (EndOf L r tz) ∧ Hid (Nw w10 wx))
        case first =>
          go_wp2_with fail
          go_loopw [12, 13, 14] (fun e a _ wr => ∃ (k : Nat) (tz : Int), 1 ≤ k ∧ k ≤ nr ∧ e = .int .i64 tz ∧ a = .int .i64 k ∧ Hid (EndAt L r k tz) ∧ Hid (Nw w10 wr)) (fun _ a _ _ => nr - (intOf a).toNat)
          case atStart => exact ⟨1, -1, Nat.le_refl _, by omega, rfl, rfl, Lib.hid (endAt_one L r), Lib.hid (Nw.refl _)⟩
          case round =>
            obtain ⟨k, tz, hk1, hk, rfl, rfl, HEA, HNI⟩ := hrel
            obtain ⟨ws, hws⟩ : ∃ q, q = wr := ⟨_, rfl⟩
            subst hws
            have hcs := cell_nw hc10 HNI.out
            haveI : In bp ws := ⟨Nat.lt_of_lt_of_le (In.lt (w := w10)) HNI.out.grown.size⟩
            haveI : In bz ws := ⟨Nat.lt_of_lt_of_le (In.lt (w := w10)) HNI.out.grown.size⟩
            by_cases hkn : k < nr
            · have j1 : (k : Int) < (nr : Int) := by omega
              have j2 : k < 1000000 := by have := HR2.out; omega
              by_cases htz : tz < 0
              · obtain rfl : tz = -1 := by
                  rcases HEA.out with ⟨h, -⟩ | ⟨h, -⟩
                  · exact h
                  · omega
                obtain ⟨bz', oz', zv, e9, -, hzv, hczk⟩ := (HIS.out.nw ((show Nw wo w10 by rw [HW10.out]; exact nwa).trans HNI.out)).get hkn
                obtain ⟨rfl, rfl⟩ : bz = bz' ∧ oz = oz' := by simpa using e9
                obtain ⟨p, rfl, hp⟩ := natI_get hzv
                have hpm := HFK.out k p hp
                obtain ⟨b', o', y, e8, hb', hy, hcy⟩ := (HIN.out.hl.nw (HN10.out.trans HNI.out)).get hpm
                obtain ⟨rfl, rfl⟩ : b = b' ∧ o = o' := by simpa using e8
                haveI : CallAt ws b (o + p * 18) y := ⟨hcy, hb'⟩
                haveI : In b ws := ⟨hb'⟩
                have htk : 0 ≤ y.took := HF1.out.ans k p y hp hy
                have j3 : (p : Int) < (m : Int) := by omega
                have j4 : p < 1000000 := by have := HM16.out; omega
                obtain ⟨w11, hw11⟩ : ∃ q, q = (ws.alloc (.cells #[.int .i64 y.th, .int .i64 y.ix, .int .u8 y.kd, .int .u64 y.ka, .int .u64 y.kb, .int .u64 y.kc, .int .u64 y.kx, .int .u64 y.ky, .int .u64 y.kz, .int .i64 y.inv, .int .i64 y.took, .int .i64 y.ans, .int .i64 y.st, .int .i64 y.re, .bool y.rf, .int .u64 y.rk, .int .u64 y.rv, .int .i64 y.rc] 45)) := ⟨_, rfl⟩
                have hn11 : Nw ws w11 := by rw [hw11]; exact nwa
                haveI hco11 : CallAt w11 ws.heap.size 0 y := by rw [hw11]; infer_instance
                haveI : In ws.heap.size w11 := ⟨hco11.lt⟩
                have y2 : w11.cell? ⟨ws.heap.size, 2, none⟩ = some (.int .u8 y.kd) := (AtC.range hco11.at_) 2 _ rfl
                have y10 : w11.cell? ⟨ws.heap.size, 10, none⟩ = some (.int .i64 y.took) := (AtC.range hco11.at_) 10 _ rfl
                have y13 : w11.cell? ⟨ws.heap.size, 13, none⟩ = some (.int .i64 y.re) := (AtC.range hco11.at_) 13 _ rfl
                have HW11 := Lib.hid hw11
                have HN11 := Lib.hid (HNI.out.trans hn11)
                have HPY := Lib.hid (And.intro hp hy)
                have HKN := Lib.hid (And.intro hk1 hkn)
                have HTK := Lib.hid htk
                clear hw11 hn11 e9 e8 hzv hp hpm hy hcy hb' htk hkn hk hk1 htz
                go_upto_region 18 with (fail)
                rw [← HW11.out]
                by_cases k1 : y.kd = 13
                · have f1 : (y.kd == 13) = true := by simpa using k1
                  have f1' : decide (y.kd = 13) = true := by simpa using k1
                  have f2 : (y.kd == 12) = false := by simp; omega
                  have f2' : decide (y.kd = 12) = false := decide_eq_false (by omega)
                  by_cases k2 : y.re = 0
                  · have f3 : (y.re == 0) = true := by simpa using k2
                    have f3' : decide (y.re = 0) = true := by simpa using k2
                    clear k1 k2
                    go_wp2_with fail
                    go_meet
                    exact ⟨-1, rfl, Lib.hid (.inl rfl), Lib.hid (HN11.out.trans (nwa))⟩
                  · have f3 : (y.re == 0) = false := by simpa using k2
                    have f3' : decide (y.re = 0) = false := by simpa using k2
                    have HT2 := Lib.hid (endAt_go HPY.out.1 HPY.out.2 HEA.out (by omega) (by omega))
                    clear k1 k2
                    go_wp2_with fail
                    exact ⟨⟨k + 1, -1, by omega, by have := HKN.out; omega, rfl, by go_num, HT2, Lib.hid (HN11.out.trans (nwa))⟩, by have := HKN.out; simp [intOf]; omega⟩
                · have f1 : (y.kd == 13) = false := by simpa using k1
                  have f1' : decide (y.kd = 13) = false := by simpa using k1
                  by_cases k3 : y.kd = 12
                  · have f2 : (y.kd == 12) = true := by simpa using k3
                    have f2' : decide (y.kd = 12) = true := by simpa using k3
                    by_cases k2 : y.re = 14
                    · have f3 : (y.re == 14) = true := by simpa using k2
                      have f3' : decide (y.re = 14) = true := by simpa using k2
                      have HT2 := Lib.hid (endAt_hit HPY.out.1 HPY.out.2 HEA.out ⟨k3, k2⟩ HTK.out)
                      clear k1 k2 k3
                      go_wp2_with fail
                      exact ⟨⟨k + 1, y.took, by omega, by have := HKN.out; omega, rfl, by go_num, HT2, Lib.hid (HN11.out.trans (nwa))⟩, by have := HKN.out; simp [intOf]; omega⟩
                    · have f3 : (y.re == 14) = false := by simpa using k2
                      have f3' : decide (y.re = 14) = false := by simpa using k2
                      have HT2 := Lib.hid (endAt_go HPY.out.1 HPY.out.2 HEA.out (by omega) (by omega))
                      clear k1 k2 k3
                      go_wp2_with fail
                      exact ⟨⟨k + 1, -1, by omega, by have := HKN.out; omega, rfl, by go_num, HT2, Lib.hid (HN11.out.trans (nwa))⟩, by have := HKN.out; simp [intOf]; omega⟩
                  · have f2 : (y.kd == 12) = false := by simpa using k3
                    have f2' : decide (y.kd = 12) = false := by simpa using k3
                    have HT2 := Lib.hid (endAt_go HPY.out.1 HPY.out.2 HEA.out (by omega) (by omega))
                    clear k1 k3
                    go_wp2_with fail
                    exact ⟨⟨k + 1, -1, by omega, by have := HKN.out; omega, rfl, by go_num, HT2, Lib.hid (HN11.out.trans (nwa))⟩, by have := HKN.out; simp [intOf]; omega⟩
              · have d0 : decide (tz < 0) = false := decide_eq_false htz
                go_wp2_with fail
                go_meet
                exact ⟨tz, rfl, Lib.hid HEA.out.end, HNI⟩
            · have j1 : ¬ (k : Int) < (nr : Int) := by omega
              go_wp2_with fail
              go_meet
              exact ⟨tz, rfl, Lib.hid HEA.out.end, HNI⟩
        case rest =>
          obtain ⟨tz, rfl, HEO, HNX⟩ := hcut
          obtain ⟨w12, hw12⟩ : ∃ q, q = wc := ⟨_, rfl⟩
          subst hw12
          haveI hca12 : ConfAt w12 b0 c' := hca10.nw HNX.out
          haveI : In b0 w12 := ⟨hca12.lt⟩
          haveI hco12 : CallAt w12 wo.heap.size 0 x0 := CallAt.nwq HNX.out
          haveI : In wo.heap.size w12 := ⟨hco12.lt⟩
          have HN12 := Lib.hid (HN10.out.trans HNX.out)
          have HN612 := Lib.hid (HN610.out.trans HNX.out)
          have x10 : w12.cell? ⟨wo.heap.size, 10, none⟩ = some (.int .i64 x0.took) := (AtC.range hco12.at_) 10 _ rfl
          by_cases htz : tz < 0
          · go_wp2_with fail
            exact ⟨⟨i + 1, by have := HINP.out; omega, by go_num, HN612.out.trans (nwa)⟩, by have := HINP.out; simp [intOf]; omega⟩
          · have d0 : decide (tz < 0) = false := decide_eq_false htz
            have HTZ := Lib.hid (show 0 ≤ tz by omega)
            clear htz
            go_wp2_with fail
            refine (HAT.out _ (HN12.out.trans (nwa)) x0.took HF1.out.took).mono ?_
            rintro e W13 ⟨v, rfl, hown, hn13, hlen⟩
            dsimp only at hown hlen ⊢
            obtain ⟨Ab, cb, rfl⟩ := own_slice hown
            obtain ⟨B, hB⟩ : ∃ q, q = Am x0.took := ⟨_, rfl⟩
            rw [← hB] at hown hlen ⊢
            obtain ⟨nb, hnb⟩ : ∃ q, q = B.length := ⟨_, rfl⟩
            rw [← hnb] at hown hlen ⊢
            have HRB := Lib.hid (own_rd hown)
            have HB := Lib.hid hB
            have HNB := Lib.hid hnb
            have hn1213 : Nw w12 W13 := Nw.trans (nwa) hn13
            haveI hca13 : ConfAt W13 b0 c' := hca12.nw hn1213
            haveI : In b0 W13 := ⟨hca13.lt⟩
            haveI hco13 : CallAt W13 wo.heap.size 0 x0 := CallAt.nwq hn1213
            haveI : In wo.heap.size W13 := ⟨hco13.lt⟩
            have HN13 := Lib.hid (HN12.out.trans hn1213)
            have HN613 := Lib.hid (HN612.out.trans hn1213)
            have HN1013 := Lib.hid (HNX.out.trans hn1213)
            clear hown hn13 hB hnb hn1213 x10 hca12 hco12
            go_wp2_with fail
            go_loopw [17, 18, 19, 20] (fun s a _ _ wr => ∃ (sb : Bool) (k : Nat), k ≤ m ∧ s = .bool sb ∧ a = .int .i64 k ∧ Hid (sb = sameB Am L x0.took tz k) ∧ Hid (Nw W13 wr)) (fun _ a _ _ _ => m - (intOf a).toNat)
            case atStart => exact ⟨true, 0, Nat.zero_le _, rfl, rfl, Lib.hid (by simp [sameB]), Lib.hid (Nw.refl _)⟩
            case round =>
              obtain ⟨sb, k, hk, rfl, rfl, HSB, HNK⟩ := hrel
              obtain ⟨ws, hws⟩ : ∃ q, q = wr := ⟨_, rfl⟩
              subst hws
              haveI hcas : ConfAt ws b0 c' := hca13.nw HNK.out
              haveI : In b0 ws := ⟨hcas.lt⟩
              haveI hcos : CallAt ws wo.heap.size 0 x0 := CallAt.nwq HNK.out
              haveI : In wo.heap.size ws := ⟨hcos.lt⟩
              by_cases hkm : k < m
              · obtain ⟨b', o', y, e8, hb', hy, hcy⟩ := (HIN.out.hl.nw (HN13.out.trans HNK.out)).get hkm
                obtain ⟨rfl, rfl⟩ : b = b' ∧ o = o' := by simpa using e8
                haveI hcay : CallAt ws b (o + k * 18) y := ⟨hcy, hb'⟩
                haveI : In b ws := ⟨hb'⟩
                have x10 : ws.cell? ⟨wo.heap.size, 10, none⟩ = some (.int .i64 x0.took) := (AtC.range hcos.at_) 10 _ rfl
                have y10 : ws.cell? ⟨b, o + k * 18 + 10, none⟩ = some (.int .i64 y.took) := hcy.range 10 _ rfl
                have j1 : (k : Int) < (m : Int) := by omega
                have j2 : k < 1000000 := by have := HM16.out; omega
                have hst := sameB_step (A := Am) (fr := x0.took) (tz := tz) hy
                have HY := Lib.hid (HTK.out k y hy)
                have HKM := Lib.hid hkm
                have HNS := Lib.hid (HN13.out.trans HNK.out)
                clear e8 hy hb' hkm hk hcy
                by_cases g1 : x0.took < y.took
                · have g1' : decide (x0.took < y.took) = true := decide_eq_true g1
                  by_cases g2 : y.took ≤ tz
                  · have g2' : decide (y.took ≤ tz) = true := decide_eq_true g2
                    rw [g1', g2'] at hst
                    simp only [Bool.and_true, Bool.not_true, Bool.false_or] at hst
                    rw [← HB.out] at hst
                    have HST := Lib.hid hst
                    have hld : ∀ W, Nw ws W → (loadConf (.pointer (some ⟨b0, 0, none⟩))).run Tryz.prog W = .ok (.agg #[.int .i64 c'.thr, .int .i64 c'.sl, .int .u8 c'.eng, .int .i64 c'.bk, .int .u8 c'.dk, .int .i64 c'.dn, .slice c'.cA c'.cn c'.cc, .int .i64 c'.t1, .int .i64 c'.t2, .int .i64 c'.t3, .int .i64 c'.t4, .int .i64 c'.t5, .int .i64 c'.t6, .int .i64 c'.lk, .int .i64 c'.tr, .int .i64 c'.ba]) W := fun W hq => by
                      haveI := hcas.nw hq
                      exact run_loadConf
                    clear hst g1 g2
                    go_upto_region 27 with (fail)
                    go_quiet (fail)
                    go_upto_region 28 with (fail)
                    go_region_held3 (fun wq => (loadConf (.pointer (some ⟨b0, 0, none⟩))).run Tryz.prog wq = .ok (.agg #[.int .i64 c'.thr, .int .i64 c'.sl, .int .u8 c'.eng, .int .i64 c'.bk, .int .u8 c'.dk, .int .i64 c'.dn, .slice c'.cA c'.cn c'.cc, .int .i64 c'.t1, .int .i64 c'.t2, .int .i64 c'.t3, .int .i64 c'.t4, .int .i64 c'.t5, .int .i64 c'.t6, .int .i64 c'.lk, .int .i64 c'.tr, .int .i64 c'.ba]) wq ∧ wq.cell? ⟨b, o + k * 18 + 10, none⟩ = some (.int .i64 y.took)) (exact ⟨hld _ (by (repeat (first | exact Xt.Nw.refl _ | assumption | refine Xt.Nw.drew ?_ | refine Xt.Nw.drewN ?_ _ | refine Xt.Nw.alloc ?_ _ | refine Xt.Nw.ext ?_))), cell_nw y10 (by (repeat (first | exact Xt.Nw.refl _ | assumption | refine Xt.Nw.drew ?_ | refine Xt.Nw.drewN ?_ _ | refine Xt.Nw.alloc ?_ _ | refine Xt.Nw.ext ?_)))⟩)
                      ((go_at_call 16; refine (HAT.out _ (HNS.out.trans (by (repeat (first | exact Xt.Nw.refl _ | assumption | refine Xt.Nw.drew ?_ | refine Xt.Nw.drewN ?_ _ | refine Xt.Nw.alloc ?_ _ | refine Xt.Nw.ext ?_)))) y.took HY.out).mono ?_; rintro e w8 ⟨vn, rfl, hownN, hn8, hlenN⟩; have hn18 : Nw ws w8 := Nw.trans (by (repeat (first | exact Xt.Nw.refl _ | assumption | refine Xt.Nw.drew ?_ | refine Xt.Nw.drewN ?_ _ | refine Xt.Nw.alloc ?_ _ | refine Xt.Nw.ext ?_))) hn8; dsimp only at hownN hlenN ⊢; obtain ⟨An, cn, rfl⟩ := own_slice hownN; have HRN := Lib.hid (own_rd hownN); have HLN := Lib.hid hlenN; clear hownN hn8 hlenN))
                    clear hld
                    have HN18 := Lib.hid hn18
                    clear hn18
                    cases sb with
                    | true =>
                      go_wp2_with fail
                      refine (eqPairs_any An Ab (Am y.took).length nb cn cb (Am y.took) B _ (HRN.out.nw (nwa)) (HRB.out.nw (HNK.out.trans (HN18.out.trans (nwa)))) (by have := HLN.out; omega) (by omega)).mono ?_
                      rintro e w9 ⟨rfl, hn9⟩
                      have HN19 := Lib.hid (HN18.out.trans (Nw.trans (nwa) hn9))
                      obtain ⟨b2, hb2⟩ : ∃ q, q = decide (Am y.took = B) := ⟨_, rfl⟩
                      have HT2 := Lib.hid (show b2 = sameB Am L x0.took tz (k + 1) by rw [HST.out, ← HSB.out, hb2]; rfl)
                      rw [← hb2]
                      clear hb2 hn9
                      go_wp2
                      exact ⟨⟨b2, k + 1, by have := HKM.out; omega, rfl, by go_num, HT2, Lib.hid (HNK.out.trans (HN19.out.trans (nwa)))⟩, by have := HKM.out; simp [intOf]; omega⟩
                    | false =>
                      have HT2 := Lib.hid (show false = sameB Am L x0.took tz (k + 1) by rw [HST.out, ← HSB.out]; rfl)
                      go_wp2_with fail
                      exact ⟨⟨false, k + 1, by have := HKM.out; omega, rfl, by go_num, HT2, Lib.hid (HNK.out.trans (HN18.out.trans (nwa)))⟩, by have := HKM.out; simp [intOf]; omega⟩
                  · have g2' : decide (y.took ≤ tz) = false := decide_eq_false g2
                    rw [g2'] at hst
                    simp only [Bool.and_false, Bool.not_false, Bool.true_or, Bool.and_true] at hst
                    have HST := Lib.hid (HSB.out.trans hst.symm)
                    clear hst g1 g2
                    go_upto_region 27 with (fail)
                    go_quiet (fail)
                    go_wp2_with fail
                    exact ⟨⟨sb, k + 1, by have := HKM.out; omega, rfl, by go_num, HST, Lib.hid (HNK.out.trans (nwa))⟩, by have := HKM.out; simp [intOf]; omega⟩
                · have g1' : decide (x0.took < y.took) = false := decide_eq_false g1
                  rw [g1'] at hst
                  simp only [Bool.false_and, Bool.not_false, Bool.true_or, Bool.and_true] at hst
                  have HST := Lib.hid (HSB.out.trans hst.symm)
                  clear hst g1
                  go_upto_region 27 with (fail)
                  go_quiet (fail)
                  go_wp2_with fail
                  exact ⟨⟨sb, k + 1, by have := HKM.out; omega, rfl, by go_num, HST, Lib.hid (HNK.out.trans (nwa))⟩, by have := HKM.out; simp [intOf]; omega⟩
              · obtain rfl : k = m := by omega
                have j1 : ¬ (k : Int) < (k : Int) := by omega
                have HSM := Lib.hid (show sb = true → T = inRg x0 B nb from fun h => by
                  have h1 := HSB.out
                  rw [h] at h1
                  have h2 := HF1.out.same tz HTZ.out HEO.out (by rw [← HAM.out, ← HM.out]; exact h1.symm)
                  rw [← HAM.out, ← HB.out, ← HNB.out] at h2
                  exact h2)
                have x3 : ws.cell? ⟨wo.heap.size, 3, none⟩ = some (.int .u64 x0.ka) := (AtC.range hcos.at_) 3 _ rfl
                have x4 : ws.cell? ⟨wo.heap.size, 4, none⟩ = some (.int .u64 x0.kb) := (AtC.range hcos.at_) 4 _ rfl
                have HRB4 := Lib.hid (HRB.out.nw HNK.out)
                have HNS := Lib.hid (HN13.out.trans HNK.out)
                have HN6S := Lib.hid (HN613.out.trans HNK.out)
                have HN10S := Lib.hid (HN1013.out.trans HNK.out)
                have hnb5 : nb ≤ 500000 := hlen
                have HNB5 := Lib.hid hnb5
                clear hk hkm hlen hnb5
                go_wp2_with fail
                go_loopw [21, 22] (fun r a wr => ∃ k : Nat, k ≤ nb ∧ a = .int .i64 k ∧ Nw ws wr ∧ ∃ (Ar : Option Addr) (lq cr : Nat), r = .slice Ar lq cr ∧ Hid (lq = (inRg x0 B k).length ∧ wr.ownsRow ws.heap.size 51 2 (.slice Ar lq cr) lq (pcells (inRg x0 B k)))) (fun _ a _ => nb - (intOf a).toNat)
                case atStart => exact ⟨0, Nat.zero_le _, rfl, Nw.refl _, none, 0, 0, rfl, Lib.hid ⟨rfl, World.ownsRow_nil _ _ _ _⟩⟩
                case round =>
                  obtain ⟨k2, hk2, rfl, ⟨d, rfl⟩, Ar, lq, cr2, rfl, hst⟩ := hrel
                  by_cases hlt : k2 < nb
                  · obtain ⟨ga, oa, rfl, hga, hca⟩ := HRB4.out.2 (by omega)
                    haveI : In ga ws := ⟨hga⟩
                    obtain ⟨⟨z1, z2⟩, hz⟩ : ∃ z, B[k2]? = some z := ⟨_, List.getElem?_eq_getElem (by rw [← HNB.out]; exact hlt)⟩
                    obtain ⟨g0, g1⟩ := pcells_get B k2 _ hz
                    have a0 : ws.cell? ⟨ga, oa + k2 * 2, none⟩ = some (.int .u64 z1) := hca _ _ g0
                    have a1 : ws.cell? ⟨ga, oa + k2 * 2 + 1, none⟩ = some (.int .u64 z2) := by have := hca _ _ g1; rw [← Nat.add_assoc] at this; exact this
                    have HT2 := Lib.hid (inRg_step (x := x0) hz)
                    have i1 : (k2 : Int) < (nb : Int) := by omega
                    have i2 : k2 < 1000000 := by have := HNB5.out; omega
                    have HNQ := Lib.hid (show lq ≤ 500000 by rw [hst.out.1]; have h1 := inRg_len x0 B k2; have := HNB5.out; omega)
                    have HLT := Lib.hid hlt
                    clear hz g0 g1 hca hga hlt hk2
                    by_cases c1 : x0.ka ≤ z1
                    · have d1 : decide (x0.ka ≤ z1) = true := decide_eq_true c1
                      by_cases c2 : z1 ≤ x0.kb
                      · have d2 : decide (z1 ≤ x0.kb) = true := decide_eq_true c2
                        have HE := Lib.hid (And.intro d1 d2)
                        clear c1 c2
                        go_upto_region 34 with (fail)
                        go_quiet (fail)
                        go_wp2_with (at_builtin; refine wpList_app1 rfl _ _ 47 rfl 51 (.agg #[.int .u64 0, .int .u64 0]) 2 16 Tryz.underlying47 pairInfo rfl (by decide) ws _ nwa (.slice Ar lq cr2) lq _ rfl (own_nw hst.out.2 nwa) _ 1 1 _ [.int .u64 z1, .int .u64 z2] rfl rfl rfl (by intro u hu; simp at hu; rcases hu with rfl | rfl <;> rfl) (by unfold maxLen; have := HNQ.out; omega) (by have := HNQ.out; omega) ?_; intro vA dA hownA; obtain ⟨A2, c2, hv2⟩ := own_slice hownA; subst hv2; have HA2 := Lib.hid hownA; clear hownA)
                        refine ⟨⟨k2 + 1, by have := HLT.out; omega, by go_num, nwa, _, _, _, by first | exact ⟨rfl, rfl, rfl⟩ | rfl, Lib.hid ?_⟩, by have := HLT.out; simp [intOf]; omega⟩
                        rw [HT2.out, if_pos (by rw [HE.out.1, HE.out.2]; rfl)]
                        exact ⟨by rw [List.length_append, hst.out.1]; rfl, by rw [pcells_o1]; exact own_nw HA2.out nwa⟩
                      · have d2 : decide (z1 ≤ x0.kb) = false := decide_eq_false c2
                        have HE := Lib.hid d2
                        clear c1 c2
                        go_upto_region 34 with (fail)
                        go_quiet (fail)
                        go_wp2
                        refine ⟨⟨k2 + 1, by have := HLT.out; omega, by go_num, nwa, _, _, _, by first | exact ⟨rfl, rfl, rfl⟩ | rfl, Lib.hid ?_⟩, by have := HLT.out; simp [intOf]; omega⟩
                        rw [HT2.out, if_neg (by rw [HE.out]; simp), List.append_nil]
                        exact ⟨hst.out.1, own_nw hst.out.2 nwa⟩
                    · have d1 : decide (x0.ka ≤ z1) = false := decide_eq_false c1
                      have HE := Lib.hid d1
                      clear c1
                      go_upto_region 34 with (fail)
                      go_quiet (fail)
                      go_wp2
                      refine ⟨⟨k2 + 1, by have := HLT.out; omega, by go_num, nwa, _, _, _, by first | exact ⟨rfl, rfl, rfl⟩ | rfl, Lib.hid ?_⟩, by have := HLT.out; simp [intOf]; omega⟩
                      rw [HT2.out, if_neg (by rw [HE.out]; simp), List.append_nil]
                      exact ⟨hst.out.1, own_nw hst.out.2 nwa⟩
                  · obtain rfl : k2 = nb := by omega
                    have i1 : ¬ (k2 : Int) < (k2 : Int) := by omega
                    clear hlt hk2
                    obtain ⟨hlq, hown4⟩ := hst.out
                    have hn14 : Nw ws (ws.ext none d) := ⟨d, rfl⟩
                    generalize ws.ext none d = w14 at hown4 hn14 ⊢
                    have HQR := Lib.hid (own_rd hown4)
                    have HLQ := Lib.hid hlq
                    have hc14 := cell_nw hc10 (HN10S.out.trans hn14)
                    have hz14 := cell_nw HCZ.out (HN10S.out.trans hn14)
                    haveI : In bp w14 := ⟨Nat.lt_of_lt_of_le (In.lt (w := w10)) (HN10S.out.trans hn14).grown.size⟩
                    haveI : In bz w14 := ⟨Nat.lt_of_lt_of_le (In.lt (w := w10)) (HN10S.out.trans hn14).grown.size⟩
                    have HN14 := Lib.hid hn14
                    clear hst hlq hown4 hn14
                    go_wp2_with fail
                    refine (HT.out _ (HNS.out.trans (HN14.out.trans (nwa)))).mono ?_
                    rintro e W15 ⟨vt, rfl, hownT, hn15⟩
                    dsimp only at hownT ⊢
                    obtain ⟨At, ct, rfl⟩ := own_slice hownT
                    obtain ⟨nt, hnt⟩ : ∃ v, v = T.length := ⟨_, rfl⟩
                    rw [← hnt] at hownT ⊢
                    have HRT := Lib.hid (own_rd hownT)
                    have hnt40 : nt ≤ 40 := by have h1 := HF1.out.tlen; have h2 := HM.out; have h3 := HM16.out; omega
                    have HN1415 := Lib.hid (show Nw w14 W15 from Nw.trans (nwa) hn15)
                    have HN615 := Lib.hid (HN6S.out.trans (HN14.out.trans HN1415.out))
                    clear hownT hn15 hnt hc14 hz14
                    cases sb with
                    | true =>
                      have hdec : decide (T = inRg x0 B k2) = true := decide_eq_true (HSM.out rfl)
                      have HDEC := Lib.hid hdec
                      clear hdec
                      go_wp2_with fail
                      refine (eqPairs_any At Ar nt lq ct cr2 T (inRg x0 B k2) _ (HRT.out.nw (nwa)) (HQR.out.nw (HN1415.out.trans (nwa))) (by omega) (by have h1 := HLQ.out; have h2 := inRg_len x0 B k2; have h3 := HNB5.out; omega)).mono ?_
                      rintro e w16 ⟨rfl, hn16⟩
                      have HN616 := Lib.hid (HN615.out.trans (Nw.trans (nwa) hn16))
                      rw [HDEC.out]
                      clear hn16
                      go_wp2_with fail
                      exact ⟨⟨i + 1, by have := HINP.out; omega, by go_num, HN616.out.trans (nwa)⟩, by have := HINP.out; simp [intOf]; omega⟩
                    | false =>
                      go_wp2_with fail
                      exact ⟨⟨i + 1, by have := HINP.out; omega, by go_num, HN615.out.trans (nwa)⟩, by have := HINP.out; simp [intOf]; omega⟩
      · have ei : i = np := by omega
        subst ei
        go_wp2_with fail
        refine (HAW.out _ (Nw.trans (HN6.out.trans hnr) (nwa))).mono ?_
        rintro e W6 ⟨rfl, hn6⟩
        have HN6 := Lib.hid (HN3.out.trans (Nw.trans (Nw.trans (HN6.out.trans hnr) (nwa)) hn6))
        clear hn6
        go_wp2
        go_ret
        exact ⟨rfl, HN6.out⟩
  · have hne1 : (e1 != 0) = true := by simpa using h1
    go_wp2_with fail
    refine (HAW.out _ (Nw.trans HN4.out (nwa))).mono ?_
    rintro e W6 ⟨rfl, hn6⟩
    have HN6 := Lib.hid (HN3.out.trans (Nw.trans (Nw.trans HN4.out (nwa)) hn6))
    clear hn6
    go_wp2
    go_ret
    exact ⟨rfl, HN6.out⟩
end Go.Proofs.YtkikdpdainmlcaaGreat
