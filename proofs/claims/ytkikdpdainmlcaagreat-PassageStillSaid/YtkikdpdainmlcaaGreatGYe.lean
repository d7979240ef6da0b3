import Derived.Test.YtkikdpdainmlcaaGreatGYb
import Derived.Test.YtkikdpdainmlcaaGreatGZw
set_option linter.unusedVariables false
set_option linter.unusedSimpArgs false
set_option linter.unnecessarySimpa false
namespace Go.Proofs.YtkikdpdainmlcaaGreat
open Go.RowKit Go.Xt
/-! The law PassageKeeps. -/
theorem u64c_get {l : List Int} {i : Nat} {x : Int} (h : l[i]? = some x) : (u64c l)[i]? = some (.int .u64 x) := by
  unfold u64c; rw [List.getElem?_map, h]; rfl
set_option maxRecDepth 20000 in
set_option maxHeartbeats 8000000 in
theorem keeps_M (c : Cf) (cuts : List Nat) (A : Option Addr) (n cap : Nat) (l : List Cl) (w : World) (hr : Rd w 1 c.cA cuts.length (nums cuts)) (hcn : c.cn = cuts.length) (he : 0 ≤ c.eng ∧ c.eng < 256) (hcm : c.cc ≤ maxLen) (hcc : c.cn ≤ c.cc) (hnc : n ≤ cap) (hc : cap ≤ 9223372036854775807) (hl : Cs w A n l) (hw : ∀ y ∈ l, WfX y) :
    Calls Tryz.prog 3 #[confV c, .slice A n cap] w fun e w' => e = .returned (.bool true) ∧ Nw w w' := by
  obtain ⟨b0, hb0⟩ : ∃ b, b = w.heap.size := ⟨_, rfl⟩
  obtain ⟨W0, hW0⟩ : ∃ W, W = w.alloc (cellsOf c 27) := ⟨_, rfl⟩
  have hn0 : Nw w W0 := by rw [hW0]; exact (Nw.refl w).alloc _
  haveI hca : ConfAt W0 b0 c := by rw [hW0]; exact ⟨fun i v hv => by unfold cellsOf; unfold ccells at hv; rw [hb0, World.cell?_alloc_new]; simpa using hv, by rw [hb0]; simp⟩
  have hbx : BoxAt W0 b0 := by rw [hW0, hb0]; exact ConfAt.box
  have HSM := Lib.hid (small_any c cuts W0 hcn hcc hcm (Rd.nw hr hn0))
  have HFE := Lib.hid (fun W (hq : Nw w W) => few30_any A n cap l W hnc hc (hl.nw hq))
  have HW := Lib.hid hw
  have HEN := Lib.hid he
  have HCN := Lib.hid hcn
  unfold cellsOf at hW0
  have HW0 := Lib.hid hW0
  have HN0 := Lib.hid hn0
  have HB0 := Lib.hid hb0
  have HBX := Lib.hid hbx
  unfold confV at HSM ⊢
  haveI : In b0 W0 := ⟨hca.lt⟩
  clear hb0 hW0 hn0 hbx hr hcn he hcm hcc hl hw
  go_enter Tryz.func3, Tryz.ntmps3
  go_upto_region 1 with (fail)
  rw [← HW0.out, ← HB0.out]
  go_wp2_with fail
  refine HSM.out.mono ?_
  rintro e W1 ⟨c', rfl, hc', hrd, hap, hn1⟩
  have hbx1 := HBX.out.nw hn1
  have hst := run_storeConf (c := c') hbx1
  unfold confV at hst
  obtain ⟨W2, hW2⟩ : ∃ W, W = putConf W1 b0 c' := ⟨_, rfl⟩
  have hcf : ConfAt W2 b0 c' := by rw [hW2]; exact putConf_at hbx1
  have hch : Chg [b0] W1 W2 := by rw [hW2]; exact putConf_chg W1 b0 c'
  rw [← hW2] at hst
  have hn2 : Nw w W2 := nw_chg2 (HN0.out.trans hn1) hch (fun k hk => by have := HB0.out; simp at hk; omega)
  have hrd2 : Rd W2 1 c'.cA (cuts.take 70).length (nums (cuts.take 70)) := by
    rw [hW2]
    exact rd_chg hrd (putConf_chg W1 b0 c') (fun b o e => by have := hap b o e; have := HBX.out.lt; simp; omega)
  haveI : In b0 W1 := ⟨hbx1.lt⟩
  haveI := hcf
  haveI : In b0 W2 := ⟨hcf.lt⟩
  have HN2 := Lib.hid hn2
  have HRD := Lib.hid hrd2
  have HC' := Lib.hid hc'
  clear hW2 hch hn2 hrd hrd2 hn1 hbx1 hc' hap
  go_wp2_with fail
  refine (HFE.out W2 HN2.out).mono ?_
  rintro e W3 ⟨v, rfl, hown, hn3⟩
  obtain ⟨A3, c3, rfl, hcs, hle, hcm3, hfz⟩ := hown.form
  obtain ⟨L, hL⟩ : ∃ L, L = l.take 30 := ⟨_, rfl⟩
  rw [← hL] at hown hcs hle ⊢
  obtain ⟨m, hm⟩ : ∃ m, m = L.length := ⟨_, rfl⟩
  rw [← hm] at hown hcs hle ⊢
  have hm16 : m ≤ 30 := by rw [hm, hL]; simp only [List.length_take]; omega
  have hwl : ∀ y ∈ L, WfX y := fun y hy => HW.out y (List.mem_of_mem_take (hL ▸ hy))
  have hin : In3 W3 c' (cuts.take 70) A3 m c3 L := ⟨HRD.out.nw hn3, by rw [HC'.out, List.length_take, ← HCN.out]; exact Nat.min_comm _ _, by rw [HC'.out]; exact HEN.out, by omega, hle, hcm3, hcs, hwl⟩
  haveI hca3 : ConfAt W3 b0 c' := hcf.nw hn3
  haveI : In b0 W3 := ⟨hca3.lt⟩
  have HIN := Lib.hid hin
  have HN3 := Lib.hid (HN2.out.trans hn3)
  have HM16 := Lib.hid hm16
  have HM := Lib.hid hm
  obtain ⟨cu, hcu⟩ : ∃ cu, cu = cuts.take 70 := ⟨_, rfl⟩
  rw [← hcu] at HIN
  have HAW := Lib.hid (fun W (hq : Nw W3 W) => awake_any W)
  have hmc : (m : Int) ≤ (c3 : Int) := by omega
  clear hown hcs hle hcm3 hfz hL hm hwl hin hm16 hn3 hcu hst HRD HC' HFE HSM hcf
  have HCK1 := Lib.hid (fun W (hq : Nw W3 W) => pcheck_any (HIN.out.nw hq))
  have HPS := Lib.hid (fun W (hq : Nw W3 W) => passages_any A3 m c3 L W (by have := HM16.out; omega) (HIN.out.nw hq).nc (HIN.out.nw hq).cap_ (HIN.out.nw hq).hl (fun y hy => (HIN.out.wf y hy).wf))
  have HTL := Lib.hid (fun W (hq : Nw W3 W) (op : Int) => told_any op A3 m c3 L W (by have := HM16.out; omega) (HIN.out.nw hq).nc (HIN.out.nw hq).cap_ (HIN.out.nw hq).hl (fun y hy => (HIN.out.wf y hy).wf))
  have HOW := Lib.hid (fun W (hq : Nw W3 W) (op : Int) => powed_any (HIN.out.nw hq) op)
  obtain ⟨p1, hp1⟩ : ∃ p1, p1 = (pChk c' cu L).1 := ⟨_, rfl⟩
  obtain ⟨e1, he1⟩ : ∃ e1, e1 = (pChk c' cu L).2 := ⟨_, rfl⟩
  have HE1 := Lib.hid he1
  unfold PcP at HCK1
  rw [← hp1, ← he1] at HCK1
  unfold confV at HCK1 HOW
  clear hp1 he1
  go_wp2_with fail
  refine (HCK1.out _ (nwa)).mono ?_
  rintro e W4 ⟨rfl, hn4⟩
  haveI hca4 : ConfAt W4 b0 c' := hca3.nw hn4
  haveI : In b0 W4 := ⟨hca4.lt⟩
  have HN4 := Lib.hid hn4
  clear hn4
  by_cases h1 : e1 = 0
  · have HF := Lib.hid (fun (r : List Nat) (hr : r ∈ passL L) => keeps_fact (c := c') (cuts := cu) HIN.out.wf (HE1.out.symm.trans h1) hr)
    have hck := (pChk_ok.1 (HE1.out.symm.trans h1)).1
    have hbad := wChk_bad hck
    obtain ⟨o2, hX⟩ := wChk_X hck
    have HWA := Lib.hid (fun W (hq : Nw W3 W) => fun y1 y2 fr hfr j0 t hj0 ht hin => was_yes (HIN.out.nw hq) hX y1 y2 fr hfr j0 t hj0 ht hin)
    unfold confV at HWA
    unfold PassP at HPS
    simp only [if_pos hbad] at HPS
    subst h1
    clear hck hbad hX
    go_wp2_with fail
    refine (HPS.out _ (Nw.trans HN4.out (nwa))).mono ?_
    rintro e W5 ⟨v, zs, rfl, hRR, hn5⟩
    obtain ⟨Ap, cp, rfl, hRI⟩ := hRR.rowsI
    have hpl := passL_len (l := L)
    obtain ⟨P, hP⟩ : ∃ P, P = passL L := ⟨_, rfl⟩
    rw [← hP] at HF hRI hpl ⊢
    have hwi := passL_within (l := L) (by have := HM.out; have := HM16.out; omega)
    rw [← hP, ← HM.out] at hwi
    obtain ⟨np, hnp⟩ : ∃ np, np = P.length := ⟨_, rfl⟩
    rw [← hnp] at hRI hpl ⊢
    have hnp30 : np ≤ 30 := by have := HM.out; have := HM16.out; omega
    have HN5 := Lib.hid (Nw.trans HN4.out (Nw.trans (nwa) hn5))
    haveI hca5 : ConfAt W5 b0 c' := hca3.nw HN5.out
    haveI : In b0 W5 := ⟨hca5.lt⟩
    have HRI := Lib.hid hRI
    have HNP := Lib.hid hnp
    have HWI := Lib.hid (fun W (hq : Nw W5 W) => within_yes (cm := cp) m (hRI.nw hq) (by omega) hwi)
    clear hRR hn5 hP hRI hpl hwi hnp
    go_wp2_with fail
    refine (HWI.out _ (nwa)).mono ?_
    rintro e W6 ⟨rfl, hn6⟩
    have hn56 : Nw W5 W6 := Nw.trans (nwa) hn6
    clear hn6
    haveI hca6 : ConfAt W6 b0 c' := hca5.nw hn56
    haveI : In b0 W6 := ⟨hca6.lt⟩
    have HN6 := Lib.hid (HN5.out.trans hn56)
    have HRI6 := Lib.hid (HRI.out.nw hn56)
    clear hn56
    go_wp2_with fail
    go_loopw [10, 11, 12, 13, 14, 15, 16, 17, 18, 19] (fun a _ _ _ _ _ _ _ _ _ wr => ∃ i : Nat, i ≤ np ∧ a = .int .i64 i ∧ Nw W6 wr) (fun a _ _ _ _ _ _ _ _ _ _ => np - (intOf a).toNat)
    case atStart => exact ⟨0, Nat.zero_le _, rfl, nwa⟩
    case round =>
      obtain ⟨i, hi, rfl, hnr⟩ := hrel
      obtain ⟨wo, hwo⟩ : ∃ q, q = wr := ⟨_, rfl⟩
      subst hwo
      haveI hcao : ConfAt wo b0 c' := hca6.nw hnr
      haveI : In b0 wo := ⟨hcao.lt⟩
      have HNR := Lib.hid (show Nw W3 wo from HN6.out.trans hnr)
      by_cases hin : i < np
      · obtain ⟨bp, op_, Ar, cr, r, rfl, hbp, hr, hcl, his⟩ := (HRI6.out.nw hnr).get hin
        obtain ⟨op, x0, T, O, eo, hr0, hF⟩ := HF.out r (List.mem_of_getElem? hr)
        obtain ⟨nr, hnrr⟩ : ∃ q, q = r.length := ⟨_, rfl⟩
        rw [← hnrr] at hcl his
        have hnr0 : 0 < nr := by rw [hnrr]; exact (List.getElem?_eq_some_iff.1 hr0).1
        obtain ⟨bz, oz, zv, rfl, hbz, hzv, hcz⟩ := his.get hnr0
        obtain ⟨q, rfl, hq⟩ := natI_get hzv
        obtain rfl : q = op := by rw [hr0] at hq; injection hq with hq; exact hq.symm
        rw [Nat.add_zero] at hcz
        have hopn : q < m := by rw [HM.out]; exact (List.getElem?_eq_some_iff.1 hF.hx).1
        obtain ⟨b, o, x0', rfl, hb, hx0', hcx0⟩ := (HIN.out.hl.nw HNR.out).get hopn
        obtain rfl : x0 = x0' := by rw [hF.hx] at hx0'; injection hx0'
        haveI : CallAt wo b (o + q * 18) x0 := ⟨hcx0, hb⟩
        haveI : In b wo := ⟨hb⟩
        haveI : In bp wo := ⟨hbp⟩
        haveI : In bz wo := ⟨hbz⟩
        obtain ⟨w10, hw10⟩ : ∃ q, q = (wo.alloc (.cells #[.int .i64 x0.th, .int .i64 x0.ix, .int .u8 x0.kd, .int .u64 x0.ka, .int .u64 x0.kb, .int .u64 x0.kc, .int .u64 x0.kx, .int .u64 x0.ky, .int .u64 x0.kz, .int .i64 x0.inv, .int .i64 x0.took, .int .i64 x0.ans, .int .i64 x0.st, .int .i64 x0.re, .bool x0.rf, .int .u64 x0.rk, .int .u64 x0.rv, .int .i64 x0.rc] 45)) := ⟨_, rfl⟩
        have hn10 : Nw wo w10 := by rw [hw10]; exact nwa
        haveI hco10 : CallAt w10 wo.heap.size 0 x0 := by rw [hw10]; infer_instance
        haveI : In bp w10 := ⟨Nat.lt_of_lt_of_le hbp hn10.grown.size⟩
        haveI : In bz w10 := ⟨Nat.lt_of_lt_of_le hbz hn10.grown.size⟩
        haveI hca10 : ConfAt w10 b0 c' := hcao.nw hn10
        haveI : In b0 w10 := ⟨hca10.lt⟩
        have hc10 := cell_nw hcl hn10
        have hz10 := cell_nw hcz hn10
        have HF1 := Lib.hid hF
        have HT := Lib.hid (fun W (hq : Nw W3 W) => HTL.out W hq (q : Int))
        have HO := Lib.hid (fun W (hq : Nw W3 W) => HOW.out W hq (q : Int))
        rw [hF.told] at HT
        rw [hF.owed] at HO
        have i1 : (i : Int) < (np : Int) := by omega
        have i2 : i < 1000000 := by omega
        have i3 : (q : Int) < (m : Int) := by omega
        have i4 : q < 1000000 := by have := HM16.out; omega
        have i5 : (0 : Int) < (nr : Int) := by omega
        have HN10 := Lib.hid (HNR.out.trans hn10)
        have HN610 := Lib.hid (hnr.trans hn10)
        have HW10 := Lib.hid hw10
        have HINP := Lib.hid hin
        clear hi hnr hin hr hr0 hF hnrr hzv hq hx0' hcx0 hb hbp hbz hw10 hn10 his hopn hca5 hca6
        go_upto_region 13 with (fail)
        rw [← HW10.out]
        go_wp2_with fail
        refine (HT.out _ (HN10.out.trans (nwa))).mono ?_
        rintro e W11 ⟨vt, rfl, hownT, hn11⟩
        dsimp only at hownT ⊢
        obtain ⟨At, ct, rfl⟩ := own_slice hownT
        obtain ⟨nt, hnt⟩ : ∃ q, q = T.length := ⟨_, rfl⟩
        rw [← hnt] at hownT ⊢
        have HRT := Lib.hid (own_rd hownT)
        have hn1011 : Nw w10 W11 := Nw.trans (nwa) hn11
        haveI hco11 : CallAt W11 wo.heap.size 0 x0 := CallAt.nwq hn1011
        haveI hca11 : ConfAt W11 b0 c' := hca10.nw hn1011
        haveI : In b0 W11 := ⟨hca11.lt⟩
        haveI : In wo.heap.size W11 := ⟨hco11.lt⟩
        haveI : In bp W11 := ⟨Nat.lt_of_lt_of_le (In.lt (w := w10)) hn1011.grown.size⟩
        haveI : In bz W11 := ⟨Nat.lt_of_lt_of_le (In.lt (w := w10)) hn1011.grown.size⟩
        have hc11 := cell_nw hc10 hn1011
        have hz11 := cell_nw hz10 hn1011
        have HNT := Lib.hid hnt
        have hnt40 : nt ≤ 40 := by have h1 := HF1.out.tlen; have h2 := HM.out; have h3 := HM16.out; omega
        have HN11 := Lib.hid (HN10.out.trans hn1011)
        have HN611 := Lib.hid (HN610.out.trans hn1011)
        clear hownT hn11 hnt hc10 hz10 hn1011
        go_wp2_with fail
        go_loopw [14] (fun a wr => ∃ k : Nat, k ≤ nt ∧ a = .int .i64 k ∧ Nw W11 wr) (fun a _ => nt - (intOf a).toNat)
        case atStart => exact ⟨0, Nat.zero_le _, rfl, nwa⟩
        case round =>
          obtain ⟨k, hk, rfl, hnr⟩ := hrel
          obtain ⟨ws, hws⟩ : ∃ q, q = wr := ⟨_, rfl⟩
          subst hws
          haveI hcos : CallAt ws wo.heap.size 0 x0 := CallAt.nwq hnr
          haveI hcas : ConfAt ws b0 c' := hca11.nw hnr
          haveI : In b0 ws := ⟨hcas.lt⟩
          haveI : In wo.heap.size ws := ⟨hcos.lt⟩
          by_cases hkn : k < nt
          · obtain ⟨bt, ot, rfl, hbt, hct⟩ := (HRT.out.nw hnr).2 (by omega)
            haveI : In bt ws := ⟨hbt⟩
            obtain ⟨⟨y1, y2⟩, hy⟩ : ∃ y, T[k]? = some y := ⟨_, List.getElem?_eq_getElem (by rw [← HNT.out]; exact hkn)⟩
            obtain ⟨g0, g1⟩ := pcells_get T k _ hy
            have a0 : ws.cell? ⟨bt, ot + k * 2, none⟩ = some (.int .u64 y1) := hct _ _ g0
            have a1 : ws.cell? ⟨bt, ot + k * 2 + 1, none⟩ = some (.int .u64 y2) := by have := hct _ _ g1; rw [← Nat.add_assoc] at this; exact this
            obtain ⟨t1, t2, j0, t, t3, t4, t5⟩ := HF1.out.tin (y1, y2) (List.mem_of_getElem? hy)
            have c3' : ws.cell? ⟨wo.heap.size, 3, none⟩ = some (.int .u64 x0.ka) := (AtC.range hcos.at_) 3 _ rfl
            have c4 : ws.cell? ⟨wo.heap.size, 4, none⟩ = some (.int .u64 x0.kb) := (AtC.range hcos.at_) 4 _ rfl
            have c10 : ws.cell? ⟨wo.heap.size, 10, none⟩ = some (.int .i64 x0.took) := (AtC.range hcos.at_) 10 _ rfl
            have HWQ := Lib.hid (fun W (hq : Nw W3 W) => HWA.out W hq y1 y2 x0.took HF1.out.took j0 t t3 t4 t5)
            have d1 : decide (y1 < x0.ka) = false := decide_eq_false (by have := t1; simp only at this; omega)
            have d2 : decide (x0.kb < y1) = false := decide_eq_false (by have := t2; simp only at this; omega)
            have HNS := Lib.hid (show Nw W3 ws from HN11.out.trans hnr)
            have HNR2 := Lib.hid hnr
            have HKN := Lib.hid hkn
            have i6 : (k : Int) < (nt : Int) := by omega
            have i7 : k < 1000000 := by omega
            have hld : ∀ W, Nw ws W → (loadConf (.pointer (some ⟨b0, 0, none⟩))).run Tryz.prog W = .ok (.agg #[.int .i64 c'.thr, .int .i64 c'.sl, .int .u8 c'.eng, .int .i64 c'.bk, .int .u8 c'.dk, .int .i64 c'.dn, .slice c'.cA c'.cn c'.cc, .int .i64 c'.t1, .int .i64 c'.t2, .int .i64 c'.t3, .int .i64 c'.t4, .int .i64 c'.t5, .int .i64 c'.t6, .int .i64 c'.lk, .int .i64 c'.tr, .int .i64 c'.ba]) W := fun W hq => by
              haveI := hcas.nw hq
              exact run_loadConf
            rcases Nat.eq_zero_or_pos k with h0 | h0
            · subst h0
              rw [show ((0 : Nat) : Int) = 0 from rfl]
              rw [Nat.zero_mul, Nat.add_zero] at a0 a1
              have q0 : decide ((0 : Int) < 0) = false := rfl
              clear hy g0 g1 hct hbt hkn hk t1 t2 t3 t4 t5 hnr hcos hcas
              have hld1 := hld ws.drew (Nw.refl _).drew
              clear hld
              go_upto_region 19 with (fail)
              refine wp_region_still_tail 47 (by kernel_rfl) (by kernel_rfl) ?_
              simp only [List.take_succ_cons, List.take_zero, List.drop_succ_cons, List.drop_zero]
              change wpStill _ _ ws.drew _ _ _
              refine still_of_quiet _ _ ?_
              repeat (go_big_quiet_step (fail))
              refine wpQuiet_nil ?_
              change wpList _ _ _ _ _ ws.drew
              go_wp2_with fail
              refine (HWQ.out _ (HNS.out.trans (nwa))).mono ?_
              rintro e w8 ⟨rfl, hn8⟩
              have hn18 : Nw ws w8 := Nw.trans (nwa) hn8
              clear hn8 hld1
              go_wp2
              exact ⟨⟨0 + 1, by have := HKN.out; omega, by simp, HNR2.out.trans (hn18.trans (nwa))⟩, by have := HKN.out; simp [intOf]; omega⟩
            · obtain ⟨k', hkk⟩ : ∃ k', k = k' + 1 := ⟨k - 1, by omega⟩
              have HKK := Lib.hid hkk
              obtain ⟨⟨z1, z2⟩, hz⟩ : ∃ y, T[k']? = some y := ⟨_, List.getElem?_eq_getElem (by rw [← HNT.out]; omega)⟩
              obtain ⟨f0, -⟩ := pcells_get T k' _ hz
              have a2 : ws.cell? ⟨bt, ot + k' * 2, none⟩ = some (.int .u64 z1) := hct _ _ f0
              have d3 : decide (y1 ≤ z1) = false := decide_eq_false (by
                obtain ⟨p1, q1⟩ := List.getElem?_eq_some_iff.1 hz
                obtain ⟨p2, q2⟩ := List.getElem?_eq_some_iff.1 hy
                have h9 := (List.pairwise_iff_getElem.1 HF1.out.tasc) k' k p1 p2 (by omega)
                rw [q1, q2] at h9
                simp only at h9
                omega)
              have q0 : decide ((0 : Int) < (k : Int)) = true := decide_eq_true (by omega)
              have e8 : IntKind.i64.wrap ((k : Int) - 1) = (k' : Int) := by rw [IntWalk.i64_in _ (by omega)]; omega
              have i8 : (k' : Int) < (nt : Int) := by omega
              have i10 : k' < 1000000 := by omega
              clear hy g0 g1 hz f0 hct hbt hkn hk t1 t2 t3 t4 t5 hnr hcos hcas hkk
              have hld1 := hld ws.drew (Nw.refl _).drew
              clear hld
              go_upto_region 19 with (fail)
              refine wp_region_still_tail 47 (by kernel_rfl) (by kernel_rfl) ?_
              simp only [List.take_succ_cons, List.take_zero, List.drop_succ_cons, List.drop_zero]
              change wpStill _ _ ws.drew _ _ _
              refine still_of_quiet _ _ ?_
              repeat (go_big_quiet_step (fail))
              refine wpQuiet_nil ?_
              change wpList _ _ _ _ _ ws.drew
              go_wp2_with fail
              refine (HWQ.out _ (HNS.out.trans (nwa))).mono ?_
              rintro e w8 ⟨rfl, hn8⟩
              have hn18 : Nw ws w8 := Nw.trans (nwa) hn8
              clear hn8 hld1
              go_wp2
              exact ⟨⟨k + 1, by have := HKN.out; omega, by go_num, HNR2.out.trans (hn18.trans (nwa))⟩, by have := HKN.out; simp [intOf]; omega⟩
          · have i6 : ¬ (k : Int) < (nt : Int) := by omega
            have hRTs := HRT.out.nw hnr
            have HNS := Lib.hid (show Nw W3 ws from HN11.out.trans hnr)
            have HN6S := Lib.hid (HN611.out.trans hnr)
            have hc12 := cell_nw hc11 hnr
            have hz12 := cell_nw hz11 hnr
            haveI : In bp ws := ⟨Nat.lt_of_lt_of_le (In.lt (w := W11)) hnr.grown.size⟩
            haveI : In bz ws := ⟨Nat.lt_of_lt_of_le (In.lt (w := W11)) hnr.grown.size⟩
            have HRS := Lib.hid hRTs
            have hld : ∀ W, Nw ws W → (loadConf (.pointer (some ⟨b0, 0, none⟩))).run Tryz.prog W = .ok (.agg #[.int .i64 c'.thr, .int .i64 c'.sl, .int .u8 c'.eng, .int .i64 c'.bk, .int .u8 c'.dk, .int .i64 c'.dn, .slice c'.cA c'.cn c'.cc, .int .i64 c'.t1, .int .i64 c'.t2, .int .i64 c'.t3, .int .i64 c'.t4, .int .i64 c'.t5, .int .i64 c'.t6, .int .i64 c'.lk, .int .i64 c'.tr, .int .i64 c'.ba]) W := fun W hq => by
              haveI := hcas.nw hq
              exact run_loadConf
            clear hRTs hnr hc11 hz11 hk hcos
            go_upto_region 21 with (fail)
            go_region_held3 (fun wq => (loadConf (.pointer (some ⟨b0, 0, none⟩))).run Tryz.prog wq = .ok (.agg #[.int .i64 c'.thr, .int .i64 c'.sl, .int .u8 c'.eng, .int .i64 c'.bk, .int .u8 c'.dk, .int .i64 c'.dn, .slice c'.cA c'.cn c'.cc, .int .i64 c'.t1, .int .i64 c'.t2, .int .i64 c'.t3, .int .i64 c'.t4, .int .i64 c'.t5, .int .i64 c'.t6, .int .i64 c'.lk, .int .i64 c'.tr, .int .i64 c'.ba]) wq ∧ wq.cell? ⟨bp, op_ + i, none⟩ = some (.slice (some ⟨bz, oz, none⟩) nr cr) ∧ wq.cell? ⟨bz, oz, none⟩ = some (.int .i64 (q : Int))) (exact ⟨hld _ (by (repeat (first | exact Xt.Nw.refl _ | assumption | refine Xt.Nw.drew ?_ | refine Xt.Nw.drewN ?_ _ | refine Xt.Nw.alloc ?_ _ | refine Xt.Nw.ext ?_))), cell_nw hc12 (by (repeat (first | exact Xt.Nw.refl _ | assumption | refine Xt.Nw.drew ?_ | refine Xt.Nw.drewN ?_ _ | refine Xt.Nw.alloc ?_ _ | refine Xt.Nw.ext ?_))), cell_nw hz12 (by (repeat (first | exact Xt.Nw.refl _ | assumption | refine Xt.Nw.drew ?_ | refine Xt.Nw.drewN ?_ _ | refine Xt.Nw.alloc ?_ _ | refine Xt.Nw.ext ?_)))⟩)
              ((go_at_call 15; refine (HO.out _ (HNS.out.trans (by (repeat (first | exact Xt.Nw.refl _ | assumption | refine Xt.Nw.drew ?_ | refine Xt.Nw.drewN ?_ _ | refine Xt.Nw.alloc ?_ _ | refine Xt.Nw.ext ?_))))).mono ?_; rintro e w8 ⟨vo, rfl, hownO, hn8⟩; have hn18 : Nw ws w8 := Nw.trans (by (repeat (first | exact Xt.Nw.refl _ | assumption | refine Xt.Nw.drew ?_ | refine Xt.Nw.drewN ?_ _ | refine Xt.Nw.alloc ?_ _ | refine Xt.Nw.ext ?_))) hn8; dsimp only at hownO ⊢; obtain ⟨Ao, co, rfl⟩ := own_slice hownO; have HRO := Lib.hid (own_rd hownO); clear hownO hn8))
            clear hld
            obtain ⟨no, hno⟩ : ∃ q, q = O.length := ⟨_, rfl⟩
            rw [← hno] at HRO ⊢
            have hno40 : no ≤ 40 := by have h1 := HF1.out.olen; have h2 := HNT.out; omega
            have HNO := Lib.hid hno
            have HN18 := Lib.hid hn18
            have HRT8 := Lib.hid (HRS.out.nw hn18)
            clear hno hn18 hc12 hz12 hcas i6
            rcases HF1.out.e08 with rfl | rfl
            all_goals
              go_wp2_with fail
              go_loopw [17, 18, 19] (fun a _ _ wr => ∃ j : Nat, j ≤ no ∧ a = .int .i64 j ∧ Nw w8 wr) (fun a _ _ _ => no - (intOf a).toNat)
              case atStart => exact ⟨0, Nat.zero_le _, rfl, nwa⟩
              case round =>
                obtain ⟨j, hj, rfl, hnr⟩ := hrel
                obtain ⟨wq, hwq⟩ : ∃ q, q = wr := ⟨_, rfl⟩
                subst hwq
                have HNQ := Lib.hid hnr
                by_cases hjn : j < no
                · obtain ⟨bo, oo, rfl, hbo, hco⟩ := (HRO.out.nw hnr).2 (by omega)
                  haveI : In bo wq := ⟨hbo⟩
                  obtain ⟨y, hy⟩ : ∃ y, O[j]? = some y := ⟨_, List.getElem?_eq_getElem (by rw [← HNO.out]; exact hjn)⟩
                  have a0 : wq.cell? ⟨bo, oo + j, none⟩ = some (.int .u64 y) := hco _ _ (u64c_get hy)
                  obtain ⟨j1, ⟨x1, x2⟩, hx, hxy⟩ := HF1.out.oin y (List.mem_of_getElem? hy)
                  have hj1 : j1 < nt := by rw [HNT.out]; exact (List.getElem?_eq_some_iff.1 hx).1
                  have HJN := Lib.hid hjn
                  have HX := Lib.hid (And.intro hx hxy)
                  have HJ1 := Lib.hid hj1
                  have HY := Lib.hid hy
                  have HCO := Lib.hid hco
                  have HRTQ := Lib.hid (HRT8.out.nw hnr)
                  have i6 : (j : Int) < (no : Int) := by omega
                  have i7 : j < 1000000 := by omega
                  clear hnr hbo hco hx hxy hj1 hjn hj hy
                  go_wp2_with fail
                  go_loopw [18, 19] (fun f a wr => ∃ (fb : Bool) (kk : Nat), kk ≤ nt ∧ f = .bool fb ∧ a = .int .i64 kk ∧ Nw wq wr ∧ Hid (j1 < kk → fb = true)) (fun _ a _ => nt - (intOf a).toNat)
                  case atStart => exact ⟨false, 0, Nat.zero_le _, rfl, rfl, nwa, Lib.hid (fun h => by omega)⟩
                  case round =>
                    obtain ⟨fb, kk, hkk, rfl, rfl, ⟨d, rfl⟩, HFB⟩ := hrel
                    by_cases hkn : kk < nt
                    · obtain ⟨bt, ot, rfl, hbt, hct⟩ := HRTQ.out.2 (by omega)
                      haveI : In bt wq := ⟨hbt⟩
                      obtain ⟨⟨z1, z2⟩, hz⟩ : ∃ z, T[kk]? = some z := ⟨_, List.getElem?_eq_getElem (by rw [← HNT.out]; exact hkn)⟩
                      obtain ⟨g0, -⟩ := pcells_get T kk _ hz
                      have b0' : wq.cell? ⟨bt, ot + kk * 2, none⟩ = some (.int .u64 z1) := hct _ _ g0
                      have HKN := Lib.hid hkn
                      have i8 : (kk : Int) < (nt : Int) := by omega
                      have i9 : kk < 1000000 := by omega
                      cases fb with
                      | true =>
                        have HF2 := Lib.hid (show j1 < kk + 1 → true = true from fun _ => rfl)
                        clear hz g0 hct hbt hkn hkk
                        go_upto_region 31 with (fail)
                        go_quiet (fail)
                        go_wp2
                        exact ⟨⟨true, kk + 1, by have := HKN.out; omega, rfl, by go_num, nwa, HF2⟩, by have := HKN.out; simp [intOf]; omega⟩
                      | false =>
                        obtain ⟨f2, hf2⟩ : ∃ q, q = decide (z1 = y) := ⟨_, rfl⟩
                        have e0 : (z1 == y) = f2 := by rw [hf2]; rfl
                        have HF2 := Lib.hid (show j1 < kk + 1 → f2 = true from fun h => by
                          by_cases h2 : j1 < kk
                          · have h9 := HFB.out h2; cases h9
                          · have h3 : j1 = kk := by omega
                            have h4 := HX.out.1
                            rw [h3, hz] at h4
                            injection h4 with h4; injection h4 with h5 h6
                            have h7 := HX.out.2
                            rw [hf2]; exact decide_eq_true (by omega))
                        have e1 : decide (z1 = y) = f2 := hf2.symm
                        clear hz g0 hct hbt hkn hkk hf2
                        go_upto_region 31 with (fail)
                        go_quiet (fail)
                        go_wp2
                        exact ⟨⟨f2, kk + 1, by have := HKN.out; omega, rfl, by go_num, nwa, HF2⟩, by have := HKN.out; simp [intOf]; omega⟩
                    · obtain rfl : fb = true := HFB.out (by have := HJ1.out; omega)
                      have i8 : ¬ (kk : Int) < (nt : Int) := by omega
                      clear hkn hkk
                      rcases Nat.eq_zero_or_pos j with h0 | h0
                      · subst h0
                        rw [show ((0 : Nat) : Int) = 0 from rfl]
                        rw [Nat.add_zero] at a0
                        go_upto_region 32 with (fail)
                        go_quiet (fail)
                        go_wp2
                        exact ⟨⟨0 + 1, by have := HJN.out; omega, by simp, HNQ.out.trans (nwa)⟩, by have := HJN.out; simp [intOf]; omega⟩
                      · obtain ⟨j', hjj⟩ : ∃ j', j = j' + 1 := ⟨j - 1, by omega⟩
                        obtain ⟨y', hy'⟩ : ∃ y, O[j']? = some y := ⟨_, List.getElem?_eq_getElem (by rw [← HNO.out]; have := HJN.out; omega)⟩
                        have a2 : wq.cell? ⟨bo, oo + j', none⟩ = some (.int .u64 y') := HCO.out _ _ (u64c_get hy')
                        have d3 : decide (y ≤ y') = false := decide_eq_false (by
                          obtain ⟨p1, q1⟩ := List.getElem?_eq_some_iff.1 hy'
                          obtain ⟨p2, q2⟩ := List.getElem?_eq_some_iff.1 HY.out
                          have h9 := (List.pairwise_iff_getElem.1 HF1.out.oasc) j' j p1 p2 (by omega)
                          rw [q1, q2] at h9
                          omega)
                        have q0 : decide ((0 : Int) < (j : Int)) = true := decide_eq_true (by omega)
                        have i9 : (j' : Int) < (no : Int) := by omega
                        have i10 : j' < 1000000 := by omega
                        have e8 : IntKind.i64.wrap ((j : Int) - 1) = (j' : Int) := by rw [IntWalk.i64_in _ (by omega)]; omega
                        clear hy' hjj
                        go_upto_region 32 with (fail)
                        go_quiet (fail)
                        clear e8
                        go_wp2
                        exact ⟨⟨j + 1, by have := HJN.out; omega, by go_num, HNQ.out.trans (nwa)⟩, by have := HJN.out; simp [intOf]; omega⟩
                · have i6 : ¬ (j : Int) < (no : Int) := by omega
                  clear hjn hj
                  go_wp2_with fail
                  exact ⟨⟨i + 1, by have := HINP.out; omega, by go_num, HN6S.out.trans (HN18.out.trans (HNQ.out.trans (nwa)))⟩, by have := HINP.out; simp [intOf]; omega⟩
      · have ei : i = np := by omega
        subst ei
        go_wp2_with fail
        refine (HAW.out _ (Nw.trans (HN6.out.trans hnr) (nwa))).mono ?_
        rintro e W6 ⟨rfl, hn6⟩
        have HN6 := Lib.hid (HN3.out.trans (Nw.trans (Nw.trans (HN6.out.trans hnr) (nwa)) hn6))
        clear hn6
        go_wp2
        go_ret
        exact ⟨rfl, HN6.out⟩
  · have hne1 : (e1 != 0) = true := by simpa using h1
    go_wp2_with fail
    refine (HAW.out _ (Nw.trans HN4.out (nwa))).mono ?_
    rintro e W6 ⟨rfl, hn6⟩
    have HN6 := Lib.hid (HN3.out.trans (Nw.trans (Nw.trans HN4.out (nwa)) hn6))
    clear hn6
    go_wp2
    go_ret
    exact ⟨rfl, HN6.out⟩
end Go.Proofs.YtkikdpdainmlcaaGreat
