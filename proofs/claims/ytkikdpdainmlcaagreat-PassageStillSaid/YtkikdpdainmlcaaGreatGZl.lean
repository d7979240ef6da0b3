import Derived.Test.YtkikdpdainmlcaaGreatGZi
import Derived.Deep.RegionHeld3
set_option linter.unusedVariables false
set_option linter.unusedSimpArgs false
set_option linter.unnecessarySimpa false
namespace Go.Proofs.YtkikdpdainmlcaaGreat
open Go.RowKit Go.Xt
/-! passage's during: the maps between two steps. -/
theorem psInfo : (Tryz.prog.info? 47).map (fun i => (i.zero, i.size, i.bytes)) = some (some (.slice none 0 0), 1, 24) := by kernel_rfl
def DurP (w : World) (ms : List Mp) (e : Ending) (w' : World) : Prop := ∃ v zs, e = .returned (.tuple #[v, .int .i64 0]) ∧ RR w' w.heap.size 47 51 2 List.length pcells v zs ms ∧ (∀ p ∈ ms, p.length ≤ 500000) ∧ Nw w w'
theorem fold_step {α β : Type} {f : α → β → α} {a : α} {ts : List β} {k : Nat} {t : β} (h : ts[k]? = some t) : (ts.take (k + 1)).foldl f a = f ((ts.take k).foldl f a) t := by
  obtain ⟨p, e⟩ := List.getElem?_eq_some_iff.1 h
  rw [List.take_succ_eq_append_getElem p, List.foldl_append, e]; rfl
set_option maxRecDepth 20000 in
set_option maxHeartbeats 8000000 in
theorem pdur_any {w : World} {c : Cf} {cuts : List Nat} {A : Option Addr} {n cap : Nat} {l : List Cl} (hi : In3 w c cuts A n cap l) {o2 : List Sta} (hX : wX c cuts l = .ok o2) (fr tz : Int) (hfr : -1 ≤ fr) :
    Calls Tryz.prog 33 #[confV c, .int .i64 fr, .int .i64 tz, .slice A n cap] w (DurP w (durM (mapsA c cuts l) (tksL l) fr tz)) := by
  obtain ⟨-, hbad, -⟩ := wX_ok hX
  have hAT : ∀ W, Nw w W → ∀ t : Int, -1 ≤ t → Calls Tryz.prog 16 #[confV c, .int .i64 t, .slice A n cap] W (PairsP W (0, mapsA c cuts l t)) := fun W hq t ht => by
    have h := wat_any (hi.nw hq) t
    rw [wAt_ok hX ht] at h
    exact h
  have hee : chkE l = 0 := by rw [chkE, if_pos hbad]
  have HEF := Lib.hid (fun W' (hq : Nw w W') => effects_any A n cap l W' hi.n1 hi.nc hi.cap_ (hi.hl.nw hq) (fun y hy => (hi.wf y hy).wf))
  rw [hee] at HEF
  have HI := Lib.hid hi
  have HB := Lib.hid hbad
  have HFR := Lib.hid hfr
  obtain ⟨Am, hAm⟩ : ∃ Am, Am = mapsA c cuts l := ⟨_, rfl⟩
  rw [← hAm] at hAT ⊢
  have HAT := Lib.hid hAT
  clear hAm hAT
  unfold confV at HAT ⊢
  haveI hca : ConfAt (w.alloc (cellsOf c 27)) w.heap.size c := ⟨fun i v hv => by unfold cellsOf; unfold ccells at hv; rw [World.cell?_alloc_new]; simpa using hv, by simp⟩
  obtain ⟨W1, hW1⟩ : ∃ W, W = w.alloc (cellsOf c 27) := ⟨_, rfl⟩
  rw [← hW1] at hca
  have hn1 : Nw w W1 := by rw [hW1]; exact nwa
  unfold cellsOf at hW1
  have HW1 := Lib.hid hW1
  have HN1 := Lib.hid hn1
  haveI : In w.heap.size W1 := ⟨hca.lt⟩
  clear hW1 hn1 hi hX hbad hee hfr
  go_enter Tryz.func33, Tryz.ntmps33
  go_upto_region 1 with (fail)
  rw [← HW1.out]
  go_wp2_with fail
  refine (HAT.out W1 HN1.out fr HFR.out).mono ?_
  rintro e W2 ⟨pv, rfl, hpv, hn2, hp5⟩
  dsimp only at hpv hp5 ⊢
  obtain ⟨Ap, cp, rfl⟩ := own_slice hpv
  obtain ⟨np, hnp⟩ : ∃ k, k = (Am fr).length := ⟨_, rfl⟩
  rw [← hnp]
  have hpv2 := hpv
  rw [← hnp] at hpv2
  have hR1 : RR (W2.alloc (.cells #[.slice Ap np cp] 47)) W1.heap.size 47 51 2 List.length pcells (.slice (some ⟨W2.heap.size, 0, none⟩) 1 1) [.slice Ap np cp] [Am fr] := RR.one hn2.grown.size (by rw [hnp] at hpv2 ⊢; exact hpv2)
  have HR1 := Lib.hid hR1
  have HN2 := Lib.hid hn2
  have HP5 := Lib.hid hp5
  clear hpv hpv2 hnp hp5 hn2 hR1
  obtain ⟨g1, hg1⟩ : ∃ g, g = W2.heap.size := ⟨_, rfl⟩
  go_upto_region 5 with (fail)
  rw [← hg1] at HR1 ⊢
  obtain ⟨W3, hW3⟩ : ∃ W, W = W2.alloc (.cells #[.slice Ap np cp] 47) := ⟨_, rfl⟩
  rw [← hW3] at HR1 ⊢
  have hn3 : Nw W1 W3 := by rw [hW3]; exact Nw.alloc HN2.out _
  have hg3 : g1 < W3.heap.size := by rw [hW3, hg1]; simp
  have HN3 := Lib.hid hn3
  have HG3 := Lib.hid hg3
  clear hW3 hn3 hg1 hg3
  go_wp2_with fail
  refine (HEF.out W3 (HN1.out.trans HN3.out)).mono ?_
  rintro e W4 ⟨vo, ys, rfl, hys, hown, hn4⟩
  have hyo : ys = effL l := (hys.1 HB.out).unique (effL_is HB.out)
  obtain ⟨no, hno⟩ : ∃ no, no = ys.length := ⟨_, rfl⟩
  obtain ⟨Ao, co, rfl, his, hle, hcm, hba⟩ := hown.newc (n := no) (by rw [natI_len, hno])
  have hnl : no ≤ 1000 := by rw [hno, hyo]; have := (effL_is HB.out).len; have := HI.out.hl.1; have := HI.out.n1; omega
  have HEF2 := Lib.hid (show ∀ i ∈ ys, ∃ x, l[i]? = some x ∧ 0 ≤ x.took from fun i hi => by
    have := hyo; subst this; exact ((effL_is HB.out).2 i).1 hi)
  have HTK := Lib.hid (show tksL l = ys.map (tk l) by rw [hyo]; rfl)
  have HNO := Lib.hid hno
  have hst : RR W4 W1.heap.size 47 51 2 List.length pcells (.slice (some ⟨g1, 0, none⟩) 1 1) [.slice Ap np cp] [Am fr] ∧ Is W4 Ao no (natI ys) ∧ (∀ b o, Ao = some ⟨b, o, none⟩ → b < W4.heap.size ∧ b ≠ g1) ∧ Nw W1 W4 :=
    ⟨HR1.out.nw hn4, his, fun b o e => ⟨(hown.lt b (by rw [e]; rfl)).2, by have := (hba b o e).1; have := HG3.out; omega⟩, HN3.out.trans hn4⟩
  have HST := Lib.hid hst
  clear hys hown hyo hno his hba hn4 hst
  go_wp2_with fail
  go_loopw [12, 15, 16, 17, 40] (fun v _ _ _ a wr => ∃ (k m : Nat) (Av : Option Addr) (cv : Nat), k ≤ no ∧ a = .int .i64 k ∧ v = .slice Av (m + 1) cv ∧ Hid (∃ (zs : List Value) (out : List Mp), zs.length = m + 1 ∧ m ≤ k ∧ out = ((tksL l).take k).foldl (putM Am fr tz) [Am fr] ∧ RR wr W1.heap.size 47 51 2 List.length pcells v zs out ∧ Is wr Ao no (natI ys) ∧ (∀ b o, Ao = some ⟨b, o, none⟩ → b < wr.heap.size ∧ v.ownBlock ≠ some b) ∧ (∀ p ∈ out, p.length ≤ 500000)) ∧ Nw W1 wr) (fun _ _ _ _ a _ => no - (intOf a).toNat)
  case atStart =>
    exact ⟨0, 0, _, _, Nat.zero_le _, rfl, rfl, Lib.hid ⟨_, _, rfl, Nat.le_refl _, by simp, HST.out.1, HST.out.2.1, fun b o e => ⟨(HST.out.2.2.1 b o e).1, fun h => (HST.out.2.2.1 b o e).2 (by simp [Value.ownBlock] at h; exact h.symm)⟩, fun p hp => by simp at hp; subst hp; exact HP5.out⟩, HST.out.2.2.2⟩
  case round =>
    obtain ⟨k, m, Av, cv, hk, rfl, rfl, HH, d, rfl⟩ := hrel
    by_cases hlt : k < no
    · obtain ⟨zs, out, hzl, hmk, hout, hrr, his, hao, hpl⟩ := HH.out
      obtain ⟨i, hi⟩ : ∃ i, ys[k]? = some i := ⟨_, List.getElem?_eq_getElem (by rw [← HNO.out]; exact hlt)⟩
      obtain ⟨x, hx, hx0⟩ := HEF2.out i (List.mem_of_getElem? hi)
      have hin : i < n := by rw [← HI.out.hl.1]; exact (List.getElem?_eq_some_iff.1 hx).1
      obtain ⟨b, o, z, rfl, hb, hz, hc⟩ := his.get hlt
      obtain ⟨q, rfl, hq⟩ := natI_get hz
      obtain rfl : q = i := by rw [hi] at hq; injection hq with hq; exact hq.symm
      obtain ⟨b2, o2, x2, rfl, hb2, hx2, hc2⟩ := (HI.out.hl.nw HN1.out).get hin
      obtain rfl : x = x2 := by rw [hx] at hx2; injection hx2
      haveI : CallAt W1 b2 (o2 + q * 18) x := ⟨hc2, hb2⟩
      haveI : In b (W1.ext none d) := ⟨hb⟩
      haveI : In b2 W1 := ⟨hb2⟩
      have htk1 : W1.cell? ⟨b2, o2 + q * 18 + 10, none⟩ = some (.int .i64 x.took) := (AtC.range hc2) 10 _ rfl
      have hstep := fold_step (f := putM Am fr tz) (a := [Am fr]) (show (tksL l)[k]? = some x.took by rw [HTK.out, List.getElem?_map, hi]; show some (tk l q) = _; rw [tk_of hx])
      rw [← hout] at hstep
      have HST2 := Lib.hid hstep
      have HSV := Lib.hid (And.intro hzl (And.intro hmk (And.intro hrr (And.intro his (And.intro hao hpl)))))
      have HX0 := Lib.hid hx0
      have i1 : (k : Int) < (no : Int) := by omega
      have i2 : (q : Int) < (n : Int) := by omega
      have i3 : k < 1000000 := by omega
      clear hstep hzl hmk hout hrr his hao hpl hi hx hx0 hin hb hz hq hb2 hx2 hc2 HH
      by_cases k1 : x.took ≤ fr
      · have d1 : decide (x.took ≤ fr) = true := by simpa using k1
        have hf : ((tksL l).take (k + 1)).foldl (putM Am fr tz) [Am fr] = out := by rw [HST2.out, putM, if_pos (.inl k1)]
        have HF := Lib.hid hf
        clear hf k1
        go_wp2_with fail
        obtain ⟨hzl, hmk, hrr, his, hao, hpl⟩ := HSV.out
        exact ⟨⟨k + 1, m, Av, cv, by omega, by go_num, rfl, Lib.hid ⟨zs, out, hzl, by omega, HF.out.symm, hrr, his, hao, hpl⟩, nwa⟩, by simp [intOf]; omega⟩
      · have d1 : decide (x.took ≤ fr) = false := by simpa using k1
        by_cases k2 : tz < x.took
        · have d2 : decide (tz < x.took) = true := by simpa using k2
          have hf : ((tksL l).take (k + 1)).foldl (putM Am fr tz) [Am fr] = out := by rw [HST2.out, putM, if_pos (.inr k2)]
          have HF := Lib.hid hf
          clear hf k1 k2
          go_wp2_with fail
          obtain ⟨hzl, hmk, hrr, his, hao, hpl⟩ := HSV.out
          exact ⟨⟨k + 1, m, Av, cv, by omega, by go_num, rfl, Lib.hid ⟨zs, out, hzl, by omega, HF.out.symm, hrr, his, hao, hpl⟩, nwa⟩, by simp [intOf]; omega⟩
        · have d2 : decide (tz < x.took) = false := by simpa using k2
          have hf := HST2.out
          rw [putM, if_neg (by rintro (h | h); exact k1 h; exact k2 h)] at hf
          have HF := Lib.hid hf
          have HA2 := Lib.hid (fun W hq => HAT.out W hq x.took (by have := HX0.out; omega))
          clear hf k1 k2 HST2
          have hld : ∀ W, Nw (W1.ext none d) W → (loadConf (.pointer (some ⟨w.heap.size, 0, none⟩))).run Tryz.prog W = .ok (confV c) W := fun W hq => by
            haveI := hca.nw ((show Nw W1 (W1.ext none d) from ⟨d, rfl⟩).trans hq)
            exact run_loadConf
          unfold confV at hld
          have htk : (W1.ext none d).cell? ⟨b2, o2 + q * 18 + 10, none⟩ = some (.int .i64 x.took) := by simp [go_sem, htk1]
          go_upto_region 12 with (fail)
          go_region_held3 (fun wq => (loadConf (.pointer (some ⟨w.heap.size, 0, none⟩))).run Tryz.prog wq = .ok (.agg #[.int .i64 c.thr, .int .i64 c.sl, .int .u8 c.eng, .int .i64 c.bk, .int .u8 c.dk, .int .i64 c.dn, .slice c.cA c.cn c.cc, .int .i64 c.t1, .int .i64 c.t2, .int .i64 c.t3, .int .i64 c.t4, .int .i64 c.t5, .int .i64 c.t6, .int .i64 c.lk, .int .i64 c.tr, .int .i64 c.ba]) wq ∧ wq.cell? ⟨b2, o2 + q * 18 + 10, none⟩ = some (.int .i64 x.took)) (exact ⟨hld _ (by (repeat (first | exact Xt.Nw.refl _ | assumption | refine Xt.Nw.drew ?_ | refine Xt.Nw.drewN ?_ _ | refine Xt.Nw.alloc ?_ _ | refine Xt.Nw.ext ?_))), cell_nw htk (by (repeat (first | exact Xt.Nw.refl _ | assumption | refine Xt.Nw.drew ?_ | refine Xt.Nw.drewN ?_ _ | refine Xt.Nw.alloc ?_ _ | refine Xt.Nw.ext ?_)))⟩)
            ((go_at_call 16; refine (HA2.out _ (Nw.trans (HN1.out.trans (show Nw W1 (W1.ext none d) from ⟨d, rfl⟩)) (by (repeat (first | exact Xt.Nw.refl _ | assumption | refine Xt.Nw.drew ?_ | refine Xt.Nw.drewN ?_ _ | refine Xt.Nw.alloc ?_ _ | refine Xt.Nw.ext ?_))))).mono ?_; rintro e W8 ⟨pv8, rfl, hpv8, hn8, hp8⟩; dsimp only at hpv8 hp8 ⊢; obtain ⟨A8, c8, rfl⟩ := own_slice hpv8; have hnq8 : Nw (W1.ext none d) W8 := Nw.trans (by (repeat (first | exact Xt.Nw.refl _ | assumption | refine Xt.Nw.drew ?_ | refine Xt.Nw.drewN ?_ _ | refine Xt.Nw.alloc ?_ _ | refine Xt.Nw.ext ?_))) hn8; have HW8 := Lib.hid (And.intro (show W8.ownsRow (W1.ext none d).heap.size 51 2 (.slice A8 (Am x.took).length c8) (Am x.took).length (pcells (Am x.took)) from own_le hpv8 (Nw.grown (by (repeat (first | exact Xt.Nw.refl _ | assumption | refine Xt.Nw.drew ?_ | refine Xt.Nw.drewN ?_ _ | refine Xt.Nw.alloc ?_ _ | refine Xt.Nw.ext ?_)))).size) hp8); clear hpv8 hp8 hn8))
          clear hld htk htk1
          obtain ⟨hzl, hmk, hrr, his, hao, hpl⟩ := HSV.out
          have hm1 : m < out.length := by rw [← hrr.len, hzl]; omega
          obtain ⟨lst, hlst⟩ : ∃ y, out[m]? = some y := ⟨_, List.getElem?_eq_getElem hm1⟩
          have hlast : out.getLast? = some lst := by rw [List.getLast?_eq_getElem?, show out.length - 1 = m by rw [← hrr.len, hzl]; omega]; exact hlst
          obtain ⟨zl, hz1, hz2⟩ := (hrr.nw hnq8).get hlst
          obtain ⟨Al, cl, rfl⟩ := own_slice hz2
          obtain ⟨bv, ov, rfl, hbv, hcv⟩ := (own_rd (by have h := (hrr.nw hnq8).row; rw [hzl] at h; exact h)).2 (by omega)
          have av : W8.cell? ⟨bv, ov + m, none⟩ = some (.slice Al lst.length cl) := hcv _ _ hz1
          haveI : In bv W8 := ⟨hbv⟩
          have q1 : (m : Int) < (m : Int) + 1 := by omega
          have q2 : wrap64 ((m : Int) + 1 - 1) = (m : Int) := by unfold wrap64; omega
          have q3 : IntKind.i64.wrap ((m : Int) + 1 - 1) = (m : Int) := by rw [IntKind.wrap_i64] <;> omega
          have HEQ := Lib.hid (fun W (hq : Nw W8 W) => slEq_any A8 Al (Am x.took).length lst.length c8 cl (Am x.took) lst W ((own_rd HW8.out.1).nw hq) ((own_rd hz2).nw hq) (by have := HW8.out.2; omega) (by have := hpl lst (List.mem_of_getElem? hlst); omega))
          have HLS := Lib.hid hlast
          have HNQ := Lib.hid hnq8
          have hmk2 := hmk
          clear hzl hmk hrr his hao hpl hm1 hlst hlast hz1 hz2 hbv hcv
          by_cases heq : Am x.took = lst
          · have HF2 := Lib.hid (show ((tksL l).take (k + 1)).foldl (putM Am fr tz) [Am fr] = out by rw [HF.out, if_pos (by rw [HLS.out, heq])])
            rw [decide_eq_true heq] at HEQ
            clear heq
            go_wp2_with fail
            refine (HEQ.out _ (nwa)).mono ?_
            rintro e W9 ⟨rfl, hn9⟩
            have HN9 := Lib.hid (HNQ.out.trans (Nw.trans (nwa) hn9))
            clear hn9
            go_wp2_with fail
            obtain ⟨hzl, hmk, hrr, his, hao, hpl⟩ := HSV.out
            exact ⟨⟨k + 1, m, _, cv, by omega, by go_num, rfl, Lib.hid ⟨zs, out, hzl, by omega, HF2.out.symm, hrr.nw HN9.out, Is.nw his HN9.out, fun b' o' e => ⟨Nat.lt_of_lt_of_le (hao b' o' e).1 HN9.out.grown.size, (hao b' o' e).2⟩, hpl⟩, (show Nw W1 (W1.ext none d) from ⟨d, rfl⟩).trans HN9.out⟩, by simp [intOf]; omega⟩
          · have HF2 := Lib.hid (show ((tksL l).take (k + 1)).foldl (putM Am fr tz) [Am fr] = out ++ [Am x.took] by rw [HF.out, if_neg (by rw [HLS.out]; intro h; injection h with h; exact heq h.symm)])
            rw [decide_eq_false heq] at HEQ
            clear heq
            go_wp2_with fail
            refine (HEQ.out _ (nwa)).mono ?_
            rintro e W9 ⟨rfl, hn9⟩
            have HN9 := Lib.hid (HNQ.out.trans (Nw.trans (nwa) hn9))
            have HN89 := Lib.hid (Nw.trans (nwa) hn9)
            clear hn9
            have HL9 := Lib.hid (show W1.heap.size ≤ W9.heap.size from Nat.le_trans (le_size W1 none d) HN9.out.grown.size)
            have HOW := Lib.hid (show W9.ownsRow W1.heap.size 47 1 (.slice (some ⟨bv, ov, none⟩) (m + 1) cv) (m + 1) zs from by
              have h := (HSV.out.2.2.1.nw HN9.out).row
              rw [HSV.out.1] at h
              exact h)
            have HPU := Lib.hid (fun (wA : World) (v2 : Value) (hrow : wA.ownsRow W1.heap.size 47 1 v2 (m + 1 + 1) (zs ++ [.slice A8 (Am x.took).length c8])) hc hmv => HSV.out.2.2.1.push (s := Am x.took) (le_size W1 none d) HN9.out (own_nw HW8.out.1 HN89.out) (by rw [HSV.out.1]; exact hrow) hc hmv)
            go_wp2_with (at_builtin; refine wpList_appC rfl _ _ 81 rfl 47 (.slice none 0 0) 1 24 Tryz.underlying81 psInfo rfl (by decide) W1.heap.size _ HL9.out (.slice (some ⟨bv, ov, none⟩) (m + 1) cv) (m + 1) zs rfl HOW.out _ 1 1 _ [.slice A8 (Am x.took).length c8] rfl rfl rfl (by intro u hu; simp at hu; subst hu; rfl) (by unfold maxLen; omega) (by omega) ?_; intro v10 W10 hA hcA hmA; obtain ⟨A10, c10, rfl⟩ := own_slice hA; have HR10 := Lib.hid (HPU.out W10 _ hA hcA hmA); have HCM := Lib.hid (And.intro hcA hmA); clear hA hcA hmA)
            obtain ⟨hzl, hmk, hrr, his, hao, hpl⟩ := HSV.out
            obtain ⟨hcA, hmA⟩ := HCM.out
            refine ⟨⟨k + 1, m + 1, _, _, by omega, by go_num, rfl, Lib.hid ⟨zs ++ [.slice A8 (Am x.took).length c8], _, by simp [hzl], by omega, HF2.out.symm, HR10.out, ?_, fun b' o' e => ⟨?_, fun h => ?_⟩, fun p hp => ?_⟩, ?_⟩, by simp [intOf]; omega⟩
            · refine Is.chg (Is.nw his HN9.out) hcA (fun b' o' e hb' => ?_)
              rw [Option.mem_toList] at hb'
              exact (hao b' o' e).2 hb'
            · exact Nat.lt_of_lt_of_le (Nat.lt_of_lt_of_le (hao b' o' e).1 HN9.out.grown.size) hcA.size
            · rcases hmA _ h with h2 | h2
              · exact (hao b' o' e).2 h2
              · have h3 := (hao b' o' e).1
                have h4 := HN9.out.grown.size
                omega
            · rcases List.mem_append.1 hp with hp | hp
              · exact hpl p hp
              · simp at hp; subst hp; exact HW8.out.2
            · exact nw_chg2 ((show Nw W1 (W1.ext none d) from ⟨d, rfl⟩).trans HN9.out) hcA (fun q hq => by rw [Option.mem_toList] at hq; exact (HOW.out.lt q hq).1)
    · have hkn : k = no := by omega
      subst hkn
      obtain ⟨zs, out, hzl, hmk, hout, hrr, his, hao, hpl⟩ := HH.out
      have ho2 : out = durM Am (tksL l) fr tz := by rw [hout, List.take_of_length_le (by rw [HTK.out, List.length_map, HNO.out]; exact Nat.le_refl _)]; rfl
      have HSV := Lib.hid (And.intro hrr (And.intro hpl ho2))
      clear hzl hmk hout hrr his hao hpl ho2 HH
      go_wp2
      refine bodyPost_ret (results_tmp2 rfl _ _ _) rfl ?_
      obtain ⟨h1, h2, rfl⟩ := HSV.out
      exact ⟨_, zs, rfl, h1.le HN1.out.grown.size, h2, HN1.out.trans (nwa)⟩
end Go.Proofs.YtkikdpdainmlcaaGreat
