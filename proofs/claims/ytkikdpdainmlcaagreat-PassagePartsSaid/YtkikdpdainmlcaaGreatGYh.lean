import Derived.Test.YtkikdpdainmlcaaGreatGYf
set_option linter.unusedVariables false
set_option linter.unusedSimpArgs false
set_option linter.unnecessarySimpa false
namespace Go.Proofs.YtkikdpdainmlcaaGreat
open Go.RowKit Go.Xt
/-! The law PassageParts. -/
set_option maxRecDepth 20000 in
set_option maxHeartbeats 8000000 in
theorem parts_M (A : Option Addr) (n cap : Nat) (l : List Cl) (w : World) (hnc : n ≤ cap) (hc : cap ≤ 9223372036854775807) (hl : Cs w A n l) (hw : ∀ y ∈ l, WfX y) :
    Calls Tryz.prog 5 #[.slice A n cap] w fun e w' => e = .returned (.bool true) ∧ Nw w w' := by
  have HFE := Lib.hid (few30_any A n cap l w hnc hc hl)
  have HW := Lib.hid hw
  clear hl hw hnc hc
  go_enter Tryz.func5, Tryz.ntmps5
  go_wp2_with fail
  refine HFE.out.mono ?_
  rintro e W3 ⟨v, rfl, hown, hn3⟩
  obtain ⟨A3, c3, rfl, hcs, hle, hcm3, hfz⟩ := hown.form
  obtain ⟨L, hL⟩ : ∃ L, L = l.take 30 := ⟨_, rfl⟩
  rw [← hL] at hown hcs hle ⊢
  obtain ⟨m, hm⟩ : ∃ m, m = L.length := ⟨_, rfl⟩
  rw [← hm] at hown hcs hle ⊢
  have hm16 : m ≤ 30 := by rw [hm, hL]; simp only [List.length_take]; omega
  have hwl : ∀ y ∈ L, WfC y := fun y hy => (HW.out y (List.mem_of_mem_take (hL ▸ hy))).wf
  have HCS := Lib.hid hcs
  have HM := Lib.hid hm
  have HM16 := Lib.hid hm16
  have HAW := Lib.hid (fun W (_ : Nw W3 W) => awake_any W)
  have HPS := Lib.hid (fun W (hq : Nw W3 W) => passages_any A3 m c3 L W (by omega) hle hcm3 (hcs.nw hq) hwl)
  have HCK := Lib.hid (fun W (hq : Nw W3 W) => hcheck_any A3 m c3 L W (by omega) hle hcm3 (hcs.nw hq) hwl)
  have HN3 := Lib.hid hn3
  have hmc : (m : Int) ≤ (c3 : Int) := by omega
  rcases chk_cases L with ⟨hb, hv⟩ | ⟨ib, hb, hv⟩
  · have HB := Lib.hid hb
    unfold PassP at HPS
    simp only [if_pos hb] at HPS
    simp only [hv] at HCK
    clear hb hv hown hcs hle hcm3 hfz hL hm hwl hm16 hn3
    go_wp2_with fail
    refine (HPS.out _ (nwa)).mono ?_
    rintro e W5 ⟨v, zs, rfl, hRR, hn5⟩
    obtain ⟨Ap, cp, rfl, hRI⟩ := hRR.rowsI
    have hpl := passL_len (l := L)
    have hbn := begN_all L
    rw [← HM.out] at hbn
    have hwi := passL_within (l := L) (by have := HM.out; have := HM16.out; omega)
    have HF := Lib.hid (fun (i k q : Nat) (r : List Nat) (hr : (passL L)[i]? = some r) (hq : r[k]? = some q) => parts_fact hr hq)
    have HUR := Lib.hid (fun (i : Nat) (r : List Nat) (hr : (passL L)[i]? = some r) (j : Nat) => usedQ_row hr j)
    obtain ⟨P, hP⟩ : ∃ P, P = passL L := ⟨_, rfl⟩
    rw [← hP] at hRI hpl hbn hwi HF HUR ⊢
    rw [← HM.out] at hwi
    obtain ⟨np, hnp⟩ : ∃ np, np = P.length := ⟨_, rfl⟩
    rw [← hnp] at hRI hpl hbn ⊢
    have hnp30 : np ≤ 30 := by have := HM.out; have := HM16.out; omega
    have HN5 := Lib.hid (show Nw W3 W5 from Nw.trans (nwa) hn5)
    have HRI := Lib.hid hRI
    have HNP := Lib.hid hnp
    have HWI := Lib.hid hwi
    have HBN := Lib.hid hbn
    clear hRR hn5 hP hRI hpl hwi hnp hbn
    go_wp2_with fail
    refine (HCK.out _ (Nw.trans HN5.out (nwa))).mono ?_
    rintro e W6 ⟨rfl, hn6⟩
    have hn56 : Nw W5 W6 := Nw.trans (nwa) hn6
    have HRI6 := Lib.hid (HRI.out.nw hn56)
    have HN6 := Lib.hid (HN5.out.trans hn56)
    have HC6 := Lib.hid (HCS.out.nw HN6.out)
    clear hn6 hn56
    go_wp2_with fail
    go_loopw [8, 9] (fun b a wr => ∃ i bn : Nat, i ≤ m ∧ b = .int .i64 bn ∧ a = .int .i64 i ∧ bn ≤ i ∧ Hid (bn = begN L i) ∧ Nw W6 wr) (fun _ a _ => m - (intOf a).toNat)
    case atStart => exact ⟨0, 0, Nat.zero_le _, rfl, rfl, Nat.le_refl _, Lib.hid rfl, nwa⟩
    case round =>
      obtain ⟨i, bn, hi, rfl, rfl, hbi, HBI, ⟨d, rfl⟩⟩ := hrel
      by_cases him : i < m
      · obtain ⟨b, o, x, rfl, hb, hx, hcx⟩ := HC6.out.get him
        haveI : CallAt W6 b (o + i * 18) x := ⟨hcx, hb⟩
        haveI : In b W6 := ⟨hb⟩
        have x2 : W6.cell? ⟨b, o + i * 18 + 2, none⟩ = some (.int .u8 x.kd) := hcx.range 2 _ rfl
        have x11 : W6.cell? ⟨b, o + i * 18 + 11, none⟩ = some (.int .i64 x.ans) := hcx.range 11 _ rfl
        have x13 : W6.cell? ⟨b, o + i * 18 + 13, none⟩ = some (.int .i64 x.re) := hcx.range 13 _ rfl
        have HST := Lib.hid (begN_step hx)
        have i1 : (i : Int) < (m : Int) := by omega
        have i2 : i < 1000000 := by have := HM16.out; omega
        have i3 : bn < 1000000 := by have := HM16.out; omega
        have HIM := Lib.hid him
        have HBL := Lib.hid hbi
        clear hx hcx hb him hi hbi
        by_cases k1 : x.kd = 11
        · by_cases k2 : 0 ≤ x.ans
          · by_cases k3 : x.re = 0
            · have e1 : (x.kd == 11) = true := by simpa using k1
              have e1' : decide (x.kd = 11) = true := by simpa using k1
              have e2 : decide (0 ≤ x.ans) = true := by simpa using k2
              have e3 : (x.re == 0) = true := by simpa using k3
              have e3' : decide (x.re = 0) = true := by simpa using k3
              have HT := Lib.hid (show bn + 1 = begN L (i + 1) by rw [HST.out, if_pos (by simp [begB, k1, k2, k3]), HBI.out])
              clear k1 k2 k3
              go_wp2
              exact ⟨⟨i + 1, bn + 1, by have := HIM.out; omega, by go_num, by go_num, by have := HBL.out; omega, HT, nwa⟩, by have := HIM.out; simp [intOf]; omega⟩
            · have e1 : (x.kd == 11) = true := by simpa using k1
              have e1' : decide (x.kd = 11) = true := by simpa using k1
              have e2 : decide (0 ≤ x.ans) = true := by simpa using k2
              have e3 : (x.re == 0) = false := by simpa using k3
              have e3' : decide (x.re = 0) = false := by simpa using k3
              have HT := Lib.hid (show bn = begN L (i + 1) by rw [HST.out, if_neg (by simp [begB, k1, k2, k3]), HBI.out, Nat.add_zero])
              clear k1 k2 k3
              go_wp2
              exact ⟨⟨i + 1, bn, by have := HIM.out; omega, by go_num, by go_num, by have := HBL.out; omega, HT, nwa⟩, by have := HIM.out; simp [intOf]; omega⟩
          · have e1 : (x.kd == 11) = true := by simpa using k1
            have e1' : decide (x.kd = 11) = true := by simpa using k1
            have e2 : decide (0 ≤ x.ans) = false := by simpa using k2
            have HT := Lib.hid (show bn = begN L (i + 1) by rw [HST.out, if_neg (by simp [begB, k2]), HBI.out, Nat.add_zero])
            clear k1 k2
            go_wp2
            exact ⟨⟨i + 1, bn, by have := HIM.out; omega, by go_num, by go_num, by have := HBL.out; omega, HT, nwa⟩, by have := HIM.out; simp [intOf]; omega⟩
        · have e1 : (x.kd == 11) = false := by simpa using k1
          have e1' : decide (x.kd = 11) = false := by simpa using k1
          have HT := Lib.hid (show bn = begN L (i + 1) by rw [HST.out, if_neg (by simp [begB, k1]), HBI.out, Nat.add_zero])
          clear k1
          go_wp2
          exact ⟨⟨i + 1, bn, by have := HIM.out; omega, by go_num, by go_num, by have := HBL.out; omega, HT, nwa⟩, by have := HIM.out; simp [intOf]; omega⟩
      · obtain rfl : np = bn := by have h1 := HBI.out; rw [show i = m by omega] at h1; exact (h1.trans HBN.out).symm
        have i1 : ¬ (i : Int) < (m : Int) := by omega
        obtain ⟨W7, hW7⟩ : ∃ W, W = W6.ext none d := ⟨_, rfl⟩
        have hn67 : Nw W6 W7 := by rw [hW7]; exact nwa
        have HRI7 := Lib.hid (HRI6.out.nw hn67)
        have HN7 := Lib.hid (HN6.out.trans hn67)
        have HC7 := Lib.hid (HC6.out.nw hn67)
        rw [← hW7]
        obtain ⟨W8, hmk, hs8, hn8⟩ := make_bools W7 m (by have := HM16.out; omega)
        have HS8 := Lib.hid hs8
        have HN8 := Lib.hid hn8
        have HRI8 := Lib.hid (HRI7.out.nw hn8)
        have HC8 := Lib.hid (HC7.out.nw hn8)
        generalize hbs : W7.heap.size = bs at hmk HS8
        have HBS := Lib.hid hbs
        clear hW7 hn67 hs8 hn8 hbs him hi hbi HBI HRI6 HC6
        go_wp2_with fail
        go_loopw [11, 12, 13, 14] (fun a _ _ _ wr => ∃ i : Nat, i ≤ np ∧ a = .int .i64 i ∧ Hid (Seen wr bs m (usedQ L i [] 0)) ∧ Hid (Nw W7 wr)) (fun a _ _ _ _ => np - (intOf a).toNat)
        case atStart => exact ⟨0, Nat.zero_le _, rfl, Lib.hid (HS8.out.congr fun j _ => by simp [usedQ]), HN8⟩
        case round =>
          obtain ⟨i, hi, rfl, HSE, HNO⟩ := hrel
          obtain ⟨wo, hwo⟩ : ∃ q, q = wr := ⟨_, rfl⟩
          subst hwo
          by_cases hin : i < np
          · obtain ⟨bp, op_, Ar, cr, r, rfl, hbp, hr, hcl, his⟩ := (HRI7.out.nw HNO.out).get hin
            have hne := (HWI.out r (List.mem_of_getElem? hr)).1
            obtain ⟨nr, hnr⟩ : ∃ q, q = r.length := ⟨_, rfl⟩
            have hnr1 : nr ≤ 2000 := by rw [hnr]; exact (HWI.out r (List.mem_of_getElem? hr)).2.1
            rw [← hnr] at hcl his
            have hr0 : nr ≠ 0 := fun e => hne (List.length_eq_zero_iff.1 (by omega))
            have e0 : ((nr : Int) == 0) = false := by simpa using hr0
            have i1 : (i : Int) < (np : Int) := by omega
            have i2 : i < 1000000 := by omega
            haveI : In bp wo := ⟨hbp⟩
            have HIN := Lib.hid hin
            have HR := Lib.hid hr
            have HNR := Lib.hid hnr
            have HR1 := Lib.hid (And.intro hnr1 hr0)
            have HCL := Lib.hid hcl
            have HIS := Lib.hid his
            clear hin hr hnr hnr1 hr0 his hne hi hbp
            go_wp2_with fail
            go_loopw [12, 13, 14] (fun a _ _ wr => ∃ k : Nat, k ≤ nr ∧ a = .int .i64 k ∧ Hid (Seen wr bs m (usedQ L i r k)) ∧ Hid (Nw W7 wr)) (fun a _ _ _ => nr - (intOf a).toNat)
            case atStart => exact ⟨0, Nat.zero_le _, rfl, Lib.hid (HSE.out.congr fun j _ => (usedQ_nil L i r j).symm), HNO⟩
            case round =>
              obtain ⟨k, hk, rfl, HSI, HNI⟩ := hrel
              obtain ⟨ws, hws⟩ : ∃ q, q = wr := ⟨_, rfl⟩
              subst hws
              obtain ⟨bp', op', Ar', cr', r', e', hbp', hr', hcl', his'⟩ := HRI7.out.get HIN.out
              obtain ⟨rfl, rfl⟩ : bp = bp' ∧ op_ = op' := by simpa using e'
              obtain rfl : r = r' := by rw [HR.out] at hr'; injection hr'
              rw [← HNR.out] at hcl' his'
              have hcls := cell_nw hcl' HNI.out
              haveI : In bp ws := ⟨Nat.lt_of_lt_of_le hbp' HNI.out.grown.size⟩
              by_cases hkn : k < nr
              · obtain ⟨bz, oz, z, rfl, hbz, hz, hcz'⟩ := his'.get hkn
                obtain ⟨q, rfl, hq⟩ := natI_get hz
                obtain ⟨q0, x, y, hq0, hy, hF⟩ := HF.out i k q r HR.out hq
                have HFQ := Lib.hid hF
                have hqm : q < m := by rw [HM.out]; exact (List.getElem?_eq_some_iff.1 hF.hx).1
                have hq0m : q0 < m := by rw [HM.out]; exact (List.getElem?_eq_some_iff.1 hy).1
                obtain ⟨b0, o0, z0, e0', hb0, hz0, hcz0'⟩ := his'.get (i := 0) (by omega)
                obtain ⟨rfl, rfl⟩ : bz = b0 ∧ oz = o0 := by simpa using e0'
                obtain ⟨p0, rfl, hp0⟩ := natI_get hz0
                obtain rfl : q0 = p0 := by rw [hq0] at hp0; injection hp0
                obtain ⟨b, o, x', rfl, hb, hx', hcx⟩ := HC7.out.get hqm
                obtain rfl : x = x' := by rw [hF.hx] at hx'; injection hx'
                obtain ⟨b1, o1, y', e1', hb1, hy', hcy⟩ := HC7.out.get hq0m
                obtain ⟨rfl, rfl⟩ : b = b1 ∧ o = o1 := by simpa using e1'
                obtain rfl : y = y' := by rw [hy] at hy'; injection hy'
                rw [Nat.add_zero] at hcz0'
                haveI hcx7 : CallAt W7 b (o + q * 18) x := ⟨hcx, hb⟩
                haveI : In b ws := ⟨Nat.lt_of_lt_of_le hb HNI.out.grown.size⟩
                haveI : In bz ws := ⟨Nat.lt_of_lt_of_le hbz HNI.out.grown.size⟩
                haveI : In bs ws := ⟨HSI.out.lt⟩
                have hcz := cell_nw hcz' HNI.out
                have hcz0 := cell_nw hcz0' HNI.out
                have hsq : ws.cell? ⟨bs, q, none⟩ = some (.bool false) := by rw [HSI.out.cell q hqm, hF.free]
                have hsf := HSI.out.fz q hqm
                obtain ⟨w7, hw7⟩ : ∃ v, v = ws.setCell ⟨bs, q, none⟩ (.bool true) := ⟨_, rfl⟩
                have hn77 : Nw W7 w7 := by rw [hw7]; exact Nw.setCell HNI.out (p := ⟨bs, q, none⟩) (by show W7.heap.size ≤ bs; have := HBS.out; omega) _
                have hs7 : Seen w7 bs m (usedQ L i r (k + 1)) := by rw [hw7]; exact (HSI.out.set hqm).congr fun j _ => usedQ_step hq j
                haveI hcxw : CallAt w7 b (o + q * 18) x := CallAt.nwq hn77
                haveI : In b w7 := ⟨hcxw.lt⟩
                obtain ⟨w10, hw10⟩ : ∃ v, v = w7.alloc (.cells #[.int .i64 x.th, .int .i64 x.ix, .int .u8 x.kd, .int .u64 x.ka, .int .u64 x.kb, .int .u64 x.kc, .int .u64 x.kx, .int .u64 x.ky, .int .u64 x.kz, .int .i64 x.inv, .int .i64 x.took, .int .i64 x.ans, .int .i64 x.st, .int .i64 x.re, .bool x.rf, .int .u64 x.rk, .int .u64 x.rv, .int .i64 x.rc] 45) := ⟨_, rfl⟩
                have hn710 : Nw w7 w10 := by rw [hw10]; exact nwa
                have hn7a : Nw W7 w10 := hn77.trans hn710
                haveI hco10 : CallAt w10 w7.heap.size 0 x := by rw [hw10]; infer_instance
                haveI : In w7.heap.size w10 := ⟨hco10.lt⟩
                haveI : In b w10 := ⟨Nat.lt_of_lt_of_le hb hn7a.grown.size⟩
                haveI : In bz w10 := ⟨Nat.lt_of_lt_of_le hbz hn7a.grown.size⟩
                haveI : In bp w10 := ⟨Nat.lt_of_lt_of_le hbp' hn7a.grown.size⟩
                have hcl10 := cell_nw hcl' hn7a
                have hcz10 := cell_nw hcz0' hn7a
                have y0 : w10.cell? ⟨b, o + q0 * 18, none⟩ = some (.int .i64 x.th) := by rw [hF.th]; exact cell_nw (hcy.range 0 _ rfl) hn7a
                have c0 : w10.cell? ⟨w7.heap.size, 0, none⟩ = some (.int .i64 x.th) := (AtC.range hco10.at_) 0 _ rfl
                have c2 : w10.cell? ⟨w7.heap.size, 2, none⟩ = some (.int .u8 x.kd) := (AtC.range hco10.at_) 2 _ rfl
                have c11 : w10.cell? ⟨w7.heap.size, 11, none⟩ = some (.int .i64 x.ans) := (AtC.range hco10.at_) 11 _ rfl
                have i3 : (k : Int) < (nr : Int) := by omega
                have i4 : k < 1000000 := by have := HR1.out.1; omega
                have i5 : (q : Int) < (m : Int) := by omega
                have i6 : q < 1000000 := by have := HM16.out; omega
                have i5' : (q0 : Int) < (m : Int) := by omega
                have i6' : q0 < 1000000 := by have := HM16.out; omega
                have i7 : (0 : Int) < (nr : Int) := by omega
                have d1 : decide ((q : Int) < 0) = false := decide_eq_false (by omega)
                have d2 : decide ((m : Int) ≤ (q : Int)) = false := decide_eq_false (by omega)
                have d3 : decide (m ≤ q) = false := decide_eq_false (by omega)
                have h5 : decide (x.ans < 0) = false := decide_eq_false (by have := hF.ans; omega)
                have HKN := Lib.hid hkn
                have HW7 := Lib.hid hw7
                have HW10 := Lib.hid hw10
                have HN77 := Lib.hid hn77
                have HN710 := Lib.hid hn710
                have HS7 := Lib.hid hs7
                have HIS7 := Lib.hid his'
                have hkd := hF.kd
                have hcl7 : True := trivial
                have HCZE := Lib.hid (show k = 0 → q = q0 from fun e => by subst e; rw [hq] at hq0; injection hq0)
                clear hk hkn hbz hz hq hq0 hy hF hqm hq0m e0' hb0 hz0 hp0 hb hx' hcx e1' hb1 hy' e' hbp' hr' hcy hcx7 hw7 hw10 hn77 hn710 hn7a hs7 hcl' his' hcz' hcz0'
                rcases hkd with ⟨rfl, hkd⟩ | ⟨hk0, hkd⟩
                · rw [show ((0 : Nat) : Int) = 0 from rfl]
                  rw [Nat.add_zero] at hcz
                  obtain rfl : q = q0 := HCZE.out rfl
                  have q9 : decide ((0 : Int) < 0) = false := rfl
                  have h1 : (x.kd == 11) = true := by simpa using hkd
                  have h1' : decide (x.kd = 11) = true := by simpa using hkd
                  have h2 : decide (x.kd < 11) = false := decide_eq_false (by omega)
                  have h3 : decide (14 < x.kd) = false := decide_eq_false (by omega)
                  clear hkd
                  go_upto_region 29 with (fail)
                  rw [← HW7.out]
                  go_upto_region 30 with (fail)
                  rw [← HW10.out]
                  clear hcz hcz0 hcl7 hsq hsf
                  go_quiet (fail)
                  go_wp2
                  exact ⟨⟨0 + 1, by have := HKN.out; omega, by simp, Lib.hid (HS7.out.nw (Nw.trans HN710.out (nwa))), Lib.hid (HN77.out.trans (HN710.out.trans (nwa)))⟩, by have := HKN.out; simp [intOf]; omega⟩
                · have hkz : True := trivial
                  have q9 : decide (0 < k) = true := decide_eq_true hk0
                  have q8 : decide ((0 : Int) < (k : Int)) = true := decide_eq_true (by omega)
                  have h1 : (x.kd == 11) = false := by simp; omega
                  have h1' : decide (x.kd = 11) = false := decide_eq_false (by omega)
                  have h6 : ((k : Int) == 0) = false := by simp; omega
                  have h6' : decide ((k : Int) = 0) = false := decide_eq_false (by omega)
                  have h2 : decide (x.kd < 11) = false := decide_eq_false (by omega)
                  have h3 : decide (14 < x.kd) = false := decide_eq_false (by omega)
                  obtain ⟨k', hkk⟩ : ∃ k', k = k' + 1 := ⟨k - 1, by omega⟩
                  obtain ⟨b', o', z', e9, -, hz', hcz'⟩ := HIS7.out.get (i := k') (by have := HKN.out; omega)
                  obtain ⟨rfl, rfl⟩ : bz = b' ∧ oz = o' := by simpa using e9
                  obtain ⟨p, rfl, hp⟩ := natI_get hz'
                  have hpq : p < q := HFQ.out.prev p (by rw [show k - 1 = k' by omega]; exact hp) hk0
                  have d4 : decide (q ≤ p) = false := decide_eq_false (by omega)
                  have hczp := cell_nw hcz' HNI.out
                  have i8 : (k' : Int) < (nr : Int) := by have := HKN.out; omega
                  have i9 : k' < 1000000 := by omega
                  have e8 : IntKind.i64.wrap ((k : Int) - 1) = (k' : Int) := by rw [IntWalk.i64_in _ (by omega)]; omega
                  have e8' : IntKind.i64.wrap ((k' : Int) + 1 - 1) = (k' : Int) := by rw [IntWalk.i64_in _ (by omega)]; omega
                  clear e9 hz' hp hpq hkk hcz'
                  clear hkd
                  go_upto_region 29 with (fail)
                  rw [← HW7.out]
                  go_upto_region 30 with (fail)
                  rw [← HW10.out]
                  clear hcz hcz0 hcl7 hsq hsf
                  go_quiet (fail)
                  go_wp2
                  exact ⟨⟨k + 1, by have := HKN.out; omega, by go_num, Lib.hid (HS7.out.nw (Nw.trans HN710.out (nwa))), Lib.hid (HN77.out.trans (HN710.out.trans (nwa)))⟩, by have := HKN.out; simp [intOf]; omega⟩
              · obtain rfl : k = nr := by omega
                have j1 : ¬ (k : Int) < (k : Int) := by omega
                clear hkn hk
                go_wp2_with fail
                exact ⟨⟨i + 1, by have := HIN.out; omega, by go_num, Lib.hid ((HSI.out.congr fun j _ => by rw [HNR.out]; exact HUR.out i r HR.out j).nw (nwa)), Lib.hid (HNI.out.trans (nwa))⟩, by have := HIN.out; simp [intOf]; omega⟩
          · obtain rfl : i = np := by omega
            have j1 : ¬ (i : Int) < (i : Int) := by omega
            go_wp2_with fail
            refine (HAW.out _ (HN7.out.trans (HNO.out.trans (nwa)))).mono ?_
            rintro e W9 ⟨rfl, hn9⟩
            have HN9 := Lib.hid (HN3.out.trans (Nw.trans (HN7.out.trans (HNO.out.trans (nwa))) hn9))
            clear hn9
            go_wp2
            go_ret
            exact ⟨rfl, HN9.out⟩
  · have HB := Lib.hid (show ¬ bad L = none by rw [hb]; simp)
    unfold PassP at HPS
    simp only [if_neg HB.out] at HPS
    simp only [hv] at HCK
    clear hb hv hown hcs hle hcm3 hfz hL hm hwl hm16 hn3
    go_wp2_with fail
    refine (HPS.out _ (nwa)).mono ?_
    rintro e W5 ⟨rfl, hn5⟩
    have HN5 := Lib.hid (show Nw W3 W5 from Nw.trans (nwa) hn5)
    clear hn5
    go_wp2_with fail
    refine (HCK.out _ (Nw.trans HN5.out (nwa))).mono ?_
    rintro e W6 ⟨rfl, hn6⟩
    have HN6 := Lib.hid (show Nw W3 W6 from Nw.trans (Nw.trans HN5.out (nwa)) hn6)
    clear hn6
    go_wp2_with fail
    refine (HAW.out _ (HN6.out.trans (nwa))).mono ?_
    rintro e W9 ⟨rfl, hn9⟩
    have HN9 := Lib.hid (HN3.out.trans (Nw.trans (HN6.out.trans (nwa)) hn9))
    clear hn9
    go_wp2
    go_ret
    exact ⟨rfl, HN9.out⟩
end Go.Proofs.YtkikdpdainmlcaaGreat
