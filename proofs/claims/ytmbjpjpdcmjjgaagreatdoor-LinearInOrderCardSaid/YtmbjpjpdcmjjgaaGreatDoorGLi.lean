import Derived.Test.YtmbjpjpdcmjjgaaGreatDoorGLi0
import Derived.BigRegion
import Derived.Deep.RegionHeld3
set_option linter.unusedVariables false
set_option linter.unusedSimpArgs false
set_option linter.unnecessarySimpa false
namespace Go.Proofs.YtmbjpjpdcmjjgaaGreatDoor
open Go.RowKit Go.Xt
/-! The law LinearInOrder. -/
set_option maxRecDepth 20000 in
set_option maxHeartbeats 8000000 in
theorem inOrder_M (c : Cf) (cuts : List Nat) (A : Option Addr) (n cap : Nat) (l : List Cl) (w : World) (hF : FmtAt w) (hr : Rd w 1 c.cA cuts.length (nums cuts)) (hcn : c.cn = cuts.length) (he : 0 ≤ c.eng ∧ c.eng < 256) (hcm : c.cc ≤ maxLen) (hcc : c.cn ≤ c.cc) (hnc : n ≤ cap) (hc : cap ≤ 9223372036854775807) (hl : Cs w A n l) (hw : ∀ y ∈ l, WfX y) :
    Calls Tryz.prog 3 #[confV c, .slice A n cap] w fun e w' => e = .returned (.bool true) ∧ Nw w w' := by
  obtain ⟨b0, hb0⟩ : ∃ b, b = w.heap.size := ⟨_, rfl⟩
  obtain ⟨W0, hW0⟩ : ∃ W, W = w.alloc (cellsOf c 27) := ⟨_, rfl⟩
  have hn0 : Nw w W0 := by rw [hW0]; exact (Nw.refl w).alloc _
  haveI hca : ConfAt W0 b0 c := by rw [hW0]; exact ⟨fun i v hv => by unfold cellsOf; unfold ccells at hv; rw [hb0, World.cell?_alloc_new]; simpa using hv, by rw [hb0]; simp⟩
  have hbx : BoxAt W0 b0 := by rw [hW0, hb0]; exact ConfAt.box
  have HSM := Lib.hid (small_any c cuts W0 hcn hcc hcm (Rd.nw hr hn0))
  have HFE := Lib.hid (fun W (hq : Nw w W) => few8_any A n cap l W hnc hc (hl.nw hq))
  have HW := Lib.hid hw
  have HF := Lib.hid hF
  have HEN := Lib.hid he
  have HCN := Lib.hid hcn
  unfold cellsOf at hW0
  have HW0 := Lib.hid hW0
  have HN0 := Lib.hid hn0
  have HB0 := Lib.hid hb0
  have HBX := Lib.hid hbx
  unfold confV at HSM ⊢
  haveI : In b0 W0 := ⟨hca.lt⟩
  clear hb0 hW0 hn0 hbx hF hr hcn he hcm hcc hl hw
  go_enter Tryz.func3, Tryz.ntmps3
  go_upto_region 1 with (fail)
  rw [← HW0.out, ← HB0.out]
  go_wp2_with fail
  refine HSM.out.mono ?_
  rintro e W1 ⟨c', rfl, hc', hrd, hap, hn1⟩
  have hbx1 := HBX.out.nw hn1
  have hst := run_storeConf (c := c') hbx1
  unfold confV at hst
  obtain ⟨W2, hW2⟩ : ∃ W, W = putConf W1 b0 c' := ⟨_, rfl⟩
  have hcf : ConfAt W2 b0 c' := by rw [hW2]; exact putConf_at hbx1
  have hch : Chg [b0] W1 W2 := by rw [hW2]; exact putConf_chg W1 b0 c'
  rw [← hW2] at hst
  have hn2 : Nw w W2 := nw_chg2 (HN0.out.trans hn1) hch (fun k hk => by have := HB0.out; simp at hk; omega)
  have hrd2 : Rd W2 1 c'.cA (cuts.take 70).length (nums (cuts.take 70)) := by
    rw [hW2]
    exact rd_chg hrd (putConf_chg W1 b0 c') (fun b o e => by have := hap b o e; have := HBX.out.lt; simp; omega)
  haveI : In b0 W1 := ⟨hbx1.lt⟩
  haveI := hcf
  have HCF0 := Lib.hid hcf
  haveI : In b0 W2 := ⟨hcf.lt⟩
  have HN2 := Lib.hid hn2
  have HIN2 := Lib.hid (show Rd W2 1 c'.cA (cuts.take 70).length (nums (cuts.take 70)) ∧ c'.cn = (cuts.take 70).length ∧ (0 ≤ c'.eng ∧ c'.eng < 256) from ⟨hrd2, by rw [hc', List.length_take, ← HCN.out]; exact Nat.min_comm _ _, by rw [hc']; exact HEN.out⟩)
  have HRD := Lib.hid hrd2
  have HC' := Lib.hid hc'
  clear hW2 hch hn2 hrd hrd2 hn1 hbx1 hc' hap
  go_wp2_with fail
  refine (HFE.out W2 HN2.out).mono ?_
  rintro e W3 ⟨v, rfl, hown, hn3⟩
  obtain ⟨A3, c3, rfl, hcs, hle, hcm3, -⟩ := hown.form
  obtain ⟨L, hL⟩ : ∃ L, L = l.take 8 := ⟨_, rfl⟩
  rw [← hL] at hown hcs hle ⊢
  obtain ⟨m, hm⟩ : ∃ m, m = L.length := ⟨_, rfl⟩
  rw [← hm] at hown hcs hle ⊢
  have hm7 : m ≤ 8 := by rw [hm, hL, List.length_take]; omega
  have hwl : ∀ y ∈ L, WfX y := fun y hy => HW.out y (List.mem_of_mem_take (hL ▸ hy))
  have hin : In2 W3 c' (cuts.take 70) A3 m c3 L := ⟨HRD.out.nw hn3, by rw [HC'.out, List.length_take, ← HCN.out]; exact Nat.min_comm _ _, by rw [HC'.out]; exact HEN.out, by omega, hle, hcm3, hcs, hwl, fun b o e => (hown.lt b (by rw [e]; rfl)).2⟩
  haveI hca3 : ConfAt W3 b0 c' := hcf.nw hn3
  haveI : In b0 W3 := ⟨hca3.lt⟩
  have HIN := Lib.hid hin
  have HW3 := Lib.hid (show Nw W2 W3 ∧ OwnC W3 W2.heap.size (.slice A3 m c3) L from ⟨hn3, hown⟩)
  have HWL := Lib.hid hwl
  have HN3 := Lib.hid (HN2.out.trans hn3)
  have HM7 := Lib.hid hm7
  have HM := Lib.hid hm
  obtain ⟨cu, hcu⟩ : ∃ cu, cu = cuts.take 70 := ⟨_, rfl⟩
  rw [← hcu] at HIN HIN2
  have HAW := Lib.hid (fun W (hq : Nw W3 W) => awake_any W (HF.out.nw (HN3.out.trans hq)))
  have hmc : (m : Int) ≤ (c3 : Int) := by omega
  clear hown hcs hle hcm3 hL hm hwl hin hm7 hn3 hcu hst HRD HC' HFE HSM hcf
  have HLM := Lib.hid (show L.length = m from HM.out.symm)
  have HA3 := Lib.hid (show (∀ b o, A3 = some ⟨b, o, none⟩ → W2.heap.size ≤ b ∧ o = 0 ∧ b < W3.heap.size) ∧ (∀ b o z, A3 = some ⟨b, o, none⟩ → W3.frozen? ⟨b, z, none⟩ = false) from by
    have hrow := HW3.out.2
    unfold OwnC at hrow
    rw [HLM.out] at hrow
    rcases own_forms hrow with ⟨h1, -⟩ | ⟨g, cap9, h1, -⟩
    · injection h1 with h1; exact ⟨fun b o e => (by rw [h1] at e; cases e), fun b o z e => (by rw [h1] at e; cases e)⟩
    · injection h1 with h1 h2 h3
      subst h1 h3
      have hlt := World.ownsRow.lt hrow g rfl
      exact ⟨fun b o e => (by injection e with e; injection e with e1 e2; subst e1 e2; exact ⟨hlt.1, rfl, hlt.2⟩), fun b o z e => (by injection e with e; injection e with e1 e2; subst e1; exact World.ownsRow.frozenAt hrow z)⟩)
  obtain ⟨W4, hmk, hcnt, hn34⟩ := make_ints W3 64 (by omega)
  obtain ⟨gc, hgc⟩ : ∃ g, g = W3.heap.size := ⟨_, rfl⟩
  have his : IS W2 A3 m gc (inM L 0 ++ L.drop 0) (inM L 0) (.slice none 0 0) 0 W4 :=
    { nw := HW3.out.1.trans hn34, cs := (HIN.out.hl.nw hn34), fz := fun b o z e => (frozen_nw (HA3.out.1 b o e).2.2 hn34).trans (HA3.out.2 b o z e)
      ab := fun b o e => by have h := HA3.out.1 b o e; exact ⟨h.1, Nat.lt_of_lt_of_le h.2.2 hn34.grown.size, h.2.1, by omega, by simp [Value.ownBlock]⟩
      cnt := by rw [hgc]; exact own_le hcnt HW3.out.1.grown.size, row := World.ownsRow_nil _ _ _ _, rv := by simp [Value.ownBlock] }
  have hmk2 : (Instr.makeSlice 31 (.int .i64 64) (.int .i64 64)).run Tryz.prog W3 = .ok (.slice (some ⟨gc, 0, none⟩) 64 64) W4 := by rw [hgc]; exact hmk
  have HIS := Lib.hid his
  haveI hca4 : ConfAt W4 b0 c' := hca3.nw hn34
  haveI : In b0 W4 := ⟨hca4.lt⟩
  have hb02 : b0 < W2.heap.size := HCF0.out.lt
  have HB02 := Lib.hid hb02
  clear hmk hcnt hgc his hn34 hb02
  go_upto_region 5 with (fail)
  clear hmk2
  go_wp2_with fail
  go_loopw [6, 8] (fun v a wr => ∃ (k : Nat) (Av : Option Addr) (cv : Nat), k ≤ m ∧ v = .slice Av k cv ∧ a = .int .i64 k ∧ Hid (IS W2 A3 m gc (inM L k ++ L.drop k) (inM L k) (.slice Av k cv) k wr)) (fun _ a _ => m - (intOf a).toNat)
  case atStart => exact ⟨0, none, 0, Nat.zero_le _, rfl, rfl, HIS⟩
  case round =>
    obtain ⟨k, Av, cv, hk, rfl, rfl, hst⟩ := hrel
    by_cases hlt : k < m
    · obtain ⟨x, hx⟩ : ∃ x, L[k]? = some x := ⟨_, List.getElem?_eq_getElem (by rw [HLM.out]; exact hlt)⟩
      obtain ⟨gh, oh, x', hA, hgh, hx', hcx⟩ := hst.out.cs.get hlt
      obtain rfl : x = x' := by rw [inM_at hx] at hx'; injection hx'
      obtain ⟨a1, a2, a3, a4, a5⟩ := hst.out.ab gh oh hA
      subst a3
      subst hA
      obtain ⟨t, ht⟩ : ∃ t, t = thN x := ⟨_, rfl⟩
      obtain ⟨m1, m2, m3, m4, m5⟩ := thN_eq x
      rw [← ht] at m4 m5
      obtain ⟨q, hq⟩ : ∃ q : Int, q = (((ofT (t : Int) (inM L k)).length : Nat) : Int) := ⟨_, rfl⟩
      obtain ⟨y, hy⟩ : ∃ y, y = inC k q x := ⟨_, rfl⟩
      have hql : 0 ≤ q ∧ q ≤ 8 := by
        have h1 : ((ofT (t : Int) (inM L k)).length : Nat) ≤ (inM L k).length := List.length_filter_le _ _
        rw [inM_len L k (by rw [HLM.out]; omega)] at h1
        have := HM7.out; omega
      have hth : wr.cell? ⟨gh, k * 18, none⟩ = some (.int .i64 x.th) := by have h := hcx.1; rw [Nat.zero_add] at h; exact h
      have hct : wr.cell? ⟨gc, t, none⟩ = some (.int .i64 q) := by
        rw [World.ownsRow.cellAt hst.out.cnt t (by omega), cntL_get m5, hq]
      have hcd : AtC wr.drew gh (0 + k * 18) x := AtC.same hcx fun _ => rfl
      have hop := run_loadOp (by have h := hcd.opr; rw [Nat.zero_add] at h; exact h)
      have hre := run_loadRes (by have h := hcd.rsr; rw [Nat.zero_add] at h; exact h)
      unfold opC at hop
      unfold rsC at hre
      have hstd := hst.out.grow ((Nw.refl wr).drew)
      have hthere : wr.drew.there gh (k * 18) 18 := fun j hj => by
        have h := hcd.range j _ (List.getElem?_eq_getElem (show j < (cl x).length from hj))
        rw [Nat.zero_add] at h
        exact ⟨by rw [h]; rfl, hstd.fz gh 0 _ rfl⟩
      have hsc := store_call y hthere
      obtain ⟨W5, hW5⟩ : ∃ W, W = wr.drew.setCells gh (k * 18) (cl y) := ⟨_, rfl⟩
      rw [← hW5] at hsc
      have his5 : IS W2 (some ⟨gh, 0, none⟩) m gc (inM L (k + 1) ++ L.drop (k + 1)) (inM L k) (.slice Av k cv) k W5 := by
        have h := hstd.put hlt y
        rw [hy, hq, ht, inM_set hx] at h
        rw [hW5, hy, hq, ht]; exact h
      have hyc : cv = cv := rfl
      have hst5 : (storeCall (.pointer (some ⟨gh, k * 18, none⟩)) (.agg #[.int .i64 (t : Int), .int .i64 q, .int .u8 x.kd, .int .u64 x.ka, .int .u64 x.kb, .int .u64 x.kc, .int .u64 x.kx, .int .u64 x.ky, .int .u64 x.kz, .int .i64 (2 * (k : Int)), .int .i64 (2 * (k : Int) + 1), .int .i64 (2 * (k : Int) + 1), .int .i64 2, .int .i64 x.re, .bool x.rf, .int .u64 x.rk, .int .u64 x.rv, .int .i64 x.rc])).run Tryz.prog wr.drew = .ok () W5 := by
        have h := hsc
        rw [hy] at h
        unfold inC at h
        rw [← ht] at h
        exact h
      have HI5 := Lib.hid his5
      have HT := Lib.hid (And.intro ht m5)
      have HQ := Lib.hid (And.intro hq hql)
      have HM4 := Lib.hid m4
      have HX := Lib.hid hx
      have HY := Lib.hid (show y.th = (t : Int) by rw [hy, ht]; rfl)
      have HYS := Lib.hid (show inM L (k + 1) = inM L k ++ [y] by rw [hy, hq, ht]; exact inM_succ hx)
      haveI : In gh wr := ⟨hgh⟩
      haveI : In gc wr := ⟨hst.out.gct.2⟩
      have i1 : (k : Int) < (m : Int) := by omega
      have i2 : (0 : Int) ≤ (k : Int) := by omega
      have i3 : k < 1000000 := by have := HM7.out; omega
      have i4 : (t : Int) < 64 := by omega
      have i5 : (0 : Int) ≤ (t : Int) := by omega
      have w1 : IntKind.i64.wrap (2 * (k : Int)) = 2 * (k : Int) := by have := HM7.out; rw [IntKind.wrap_i64]; omega
      have w2 : IntKind.i64.wrap (2 * (k : Int) + 1) = 2 * (k : Int) + 1 := by have := HM7.out; rw [IntKind.wrap_i64]; omega
      have w3 : wrap64 (2 * (k : Int)) = 2 * (k : Int) := by have := HM7.out; unfold wrap64; omega
      have w4 : wrap64 (2 * (k : Int) + 1) = 2 * (k : Int) + 1 := by have := HM7.out; unfold wrap64; omega
      clear hx hx' hcd hcx a1 a2 a4 a5 ht hq hy hql hthere hsc hstd hW5 his5 hyc m4 m5 hgh
      go_upto_region 9 with (fail)
      rw [HM4.out]
      clear m1 m2 m3 hth
      have mixed : Tryz.prog.follows .mixedOrders = true := by kernel_rfl
      go_big_region_o
      obtain ⟨W6, hW6⟩ : ∃ W, W = W5 := ⟨_, rfl⟩
      rw [← hW6]
      have his6 := HI5.out
      rw [← hW6] at his6
      have c6 : W6.cell? ⟨gc, t, none⟩ = some (.int .i64 q) := by
        rw [World.ownsRow.cellAt his6.cnt t (by have := HT.out; omega), cntL_get HT.out.2, HQ.out.1]
      have z6 : W6.frozen? ⟨gc, t, none⟩ = false := World.ownsRow.frozenAt his6.cnt _
      haveI : In gc W6 := ⟨his6.gct.2⟩
      have w5 : IntKind.i64.wrap (q + 1) = q + 1 := by have := HQ.out; rw [IntKind.wrap_i64]; omega
      have w6 : wrap64 (q + 1) = q + 1 := by have := HQ.out; unfold wrap64; omega
      obtain ⟨W7, hW7⟩ : ∃ W, W = W6.setCell ⟨gc, t, none⟩ (.int .i64 (q + 1)) := ⟨_, rfl⟩
      have his7 : IS W2 (some ⟨gh, 0, none⟩) m gc (inM L (k + 1) ++ L.drop (k + 1)) (inM L (k + 1)) (.slice Av k cv) k W7 := by
        have h := his6.count HT.out.2 HY.out
        rw [← HQ.out.1] at h
        rw [hW7, HYS.out]; rw [HYS.out] at h; exact h
      have HI7 := Lib.hid his7
      have HW7 := Lib.hid hW7
      have hsz7 : W2.heap.size ≤ W7.heap.size := his7.nw.grown.size
      have HROW := Lib.hid his7.row
      clear hct hop hre hst5 w1 w2 w3 w4 hW6 his6 hW7 his7 hst
      go_upto_region 11 with (fail)
      rw [← HW7.out]
      clear c6 z6 w5 w6 i4 i5
      go_wp2_with (at_builtin; refine wpList_appC rfl _ _ 31 rfl 3 (.int .i64 0) 1 8 Tryz.underlying31 intInfo rfl (by decide) W2.heap.size W7 hsz7 (.slice Av k cv) k _ rfl HROW.out _ 1 1 _ [.int .i64 (k : Int)] rfl rfl rfl (by intro u hu; simp at hu; subst hu; rfl) (by unfold maxLen; omega) (by omega) ?_; intro v8 W8 hA hcA hmA; have hA2 : W8.ownsRow W2.heap.size 3 1 v8 (k + 1) (ints (natI (List.range (k + 1)))) := (by have e : ints (natI (List.range (k + 1))) = ints (natI (List.range k)) ++ [.int .i64 (k : Int)] := (by rw [List.range_succ]; simp [ints, natI]); rw [e]; exact hA); obtain ⟨A8, c8, rfl⟩ := own_slice hA2; have HI8 := Lib.hid (HI7.out.push hA2 hcA hmA); clear hA hcA hmA hA2)
      exact ⟨⟨k + 1, A8, c8, by omega, by first | exact ⟨rfl, rfl, rfl⟩ | rfl, by go_num, HI8⟩, by simp [intOf]; omega⟩
    · obtain rfl : k = m := by omega
      have i1 : ¬ (k : Int) < (k : Int) := by omega
      obtain ⟨W9, hW9⟩ : ∃ W, W = wr := ⟨_, rfl⟩
      subst hW9
      obtain ⟨H, hH⟩ : ∃ H, H = inM L k := ⟨_, rfl⟩
      have hHl : H.length = k := by rw [hH]; exact inM_len L k (by rw [HLM.out]; exact Nat.le_refl _)
      have hst9 := hst.out
      rw [List.drop_of_length_le (by rw [HLM.out]; exact Nat.le_refl _), List.append_nil, ← hH] at hst9
      have hin9 : In2 W9 c' cu A3 k c3 H := ⟨HIN2.out.1.nw hst9.nw, HIN2.out.2.1, HIN2.out.2.2, by have := HM7.out; omega, HIN.out.nc, HIN.out.cap_, hst9.cs, by rw [hH]; exact inM_wf HWL.out (by rw [HLM.out]; have := HM7.out; omega) k (by rw [HLM.out]; exact Nat.le_refl _), fun b o e => (hst9.ab b o e).2.1⟩
      have hok : InO H := by rw [hH]; exact inM_ok L k (by rw [HLM.out]; exact Nat.le_refl _)
      have hall := ino_all (c := c') (cuts := cu) hok (by rw [hHl]; exact HM7.out)
      rw [hHl] at hall
      have HFM := Lib.hid (HF.out.nw (HN2.out.trans hst9.nw))
      have HFI := Lib.hid (fun W (hq : Nw W9 W) => findL_any (hin9.nw hq) (HFM.out.nw hq))
      have HCO := Lib.hid (fun W (hq : Nw W9 W) => countL_any (most := 50) (hin9.nw hq) (HFM.out.nw hq))
      have HWC := Lib.hid (fun W (hq : Nw W9 W) => wcheck_any (hin9.nw hq).in3)
      unfold FindP at HFI
      unfold CountP at HCO
      rw [count50e] at HCO
      obtain ⟨p9, hp9⟩ : ∃ z, z = (wChk c' cu H).1 := ⟨_, rfl⟩
      obtain ⟨ge, hge⟩ : ∃ z, z = (wChk c' cu H).2 := ⟨_, rfl⟩
      rw [← hp9, ← hge] at HWC
      rw [← hge] at hall
      unfold confV at HFI HCO HWC
      have HAW2 := Lib.hid (fun W (hq : Nw W9 W) => awake_any W (HFM.out.nw hq))
      have HN9 := Lib.hid (HN2.out.trans hst9.nw)
      have HWA := Lib.hid (show Is W9 Av k (natI (List.range k)) from by
        have h := hst9.row
        have h2 : OwnI W9 W2.heap.size (.slice Av k cv) (natI (List.range k)) := OwnI.cast h (by simp [natI]) rfl
        obtain ⟨A', c9, e, h3⟩ := h2.form
        injection e with e1 e2 e3
        rw [← e1] at h3
        rw [show (natI (List.range k)).length = k by simp [natI]] at h3
        exact h3)
      haveI hca9 : ConfAt W9 b0 c' := by
        exact hcf2_at HCF0.out hst9.nw
      haveI : In b0 W9 := ⟨hca9.lt⟩
      clear hst hst9 hin9 hok hp9 hge hH hHl
      rcases hall with ⟨er, her, hb, hfo, hcn, hg⟩ | ⟨hb, hfo, hcn, hg⟩ | ⟨hb, hfo, hcn, hg⟩
      · rw [hb, hfo] at HFI
        rw [hb, hcn] at HCO
        obtain ⟨za, hza⟩ : ∃ z, z = natI ((none : Option (List Nat)).getD []) := ⟨_, rfl⟩
        rw [← hza] at HFI
        have hzl : za.length = 0 := by rw [hza]; rfl
        have HZL := Lib.hid hzl
        have e1 : (er != 0) = true := by simpa using her
        have e2 : (er != er) = false := by simp
        have g1 : (ge == 0) = false := by simpa using hg
        have g2 : ¬ ge = 0 := hg
        clear hb hfo hcn hg hzl hza her
        go_wp2_with fail
        refine (HFI.out _ (nwa)).mono ?_
        rintro e WA ⟨va, rfl, hown, hnA⟩
        obtain ⟨Aa, ca, rfl, hia⟩ := hown.form
        rw [HZL.out] at hia ⊢
        have HIA := Lib.hid hia
        have HNA := Lib.hid (show Nw W9 WA from Nw.trans (nwa) hnA)
        haveI hcaA : ConfAt WA b0 c' := hca9.nw HNA.out
        haveI : In b0 WA := ⟨hcaA.lt⟩
        clear hown hia hnA
        go_wp2_with fail
        refine (HCO.out _ (Nw.trans HNA.out (nwa))).mono ?_
        rintro e WB ⟨rfl, hnB⟩
        have HNAB := Lib.hid (show Nw WA WB from Nw.trans (nwa) hnB)
        have HNB := Lib.hid (HNA.out.trans HNAB.out)
        haveI hcaB : ConfAt WB b0 c' := hca9.nw HNB.out
        haveI : In b0 WB := ⟨hcaB.lt⟩
        clear hnB
        go_wp2_with fail
        refine (HWC.out _ (Nw.trans HNB.out (nwa))).mono ?_
        rintro e WC ⟨rfl, hnC⟩
        have HNAC := Lib.hid (show Nw WA WC from HNAB.out.trans (Nw.trans (nwa) hnC))
        have HNC := Lib.hid (HNA.out.trans HNAC.out)
        clear hnC
        go_wp2_with fail
        refine (HAW2.out _ (Nw.trans HNC.out (nwa))).mono ?_
        rintro e W6z ⟨rfl, hn9⟩
        have HN10 := Lib.hid (HN9.out.trans (Nw.trans (Nw.trans HNC.out (nwa)) hn9))
        clear hn9
        go_wp2
        go_ret
        exact ⟨rfl, HN10.out⟩
      · rw [hb, hfo] at HFI
        rw [hb, hcn] at HCO
        obtain ⟨za, hza⟩ : ∃ z, z = natI ((some (List.range k) : Option (List Nat)).getD []) := ⟨_, rfl⟩
        rw [← hza] at HFI
        have hzl : za.length = k := by rw [hza]; simp [natI]
        have hze : za = natI (List.range k) := by rw [hza]; rfl
        have HZL := Lib.hid hzl
        have g1 : (ge == 0) = true := by rw [hg]; rfl
        have g2 : ge = 0 := hg
        subst g2
        have HZE := Lib.hid hze
        clear hze
        clear hb hfo hcn hg hzl hza
        go_wp2_with fail
        refine (HFI.out _ (nwa)).mono ?_
        rintro e WA ⟨va, rfl, hown, hnA⟩
        obtain ⟨Aa, ca, rfl, hia⟩ := hown.form
        rw [HZL.out] at hia ⊢
        have HIA := Lib.hid hia
        have HNA := Lib.hid (show Nw W9 WA from Nw.trans (nwa) hnA)
        haveI hcaA : ConfAt WA b0 c' := hca9.nw HNA.out
        haveI : In b0 WA := ⟨hcaA.lt⟩
        clear hown hia hnA
        go_wp2_with fail
        refine (HCO.out _ (Nw.trans HNA.out (nwa))).mono ?_
        rintro e WB ⟨rfl, hnB⟩
        have HNAB := Lib.hid (show Nw WA WB from Nw.trans (nwa) hnB)
        have HNB := Lib.hid (HNA.out.trans HNAB.out)
        haveI hcaB : ConfAt WB b0 c' := hca9.nw HNB.out
        haveI : In b0 WB := ⟨hcaB.lt⟩
        clear hnB
        go_wp2_with fail
        refine (HWC.out _ (Nw.trans HNB.out (nwa))).mono ?_
        rintro e WC ⟨rfl, hnC⟩
        have HNAC := Lib.hid (show Nw WA WC from HNAB.out.trans (Nw.trans (nwa) hnC))
        have HNC := Lib.hid (HNA.out.trans HNAC.out)
        clear hnC
        go_wp2_with fail
        have heq := equalInts_any Aa Av k k ca cv za (natI (List.range k)) WC (by have := HM7.out; omega) (by have := HM7.out; omega) (HIA.out.nw HNAC.out) (HWA.out.nw HNC.out)
        rw [HZE.out, decide_eq_true rfl] at heq
        refine Calls.mono heq ?_
        rintro e WD ⟨rfl, hnD⟩
        have HND := Lib.hid (show Nw W9 WD from HNC.out.trans hnD)
        clear hnD heq
        go_wp2_with fail
        refine (HAW2.out _ (Nw.trans HND.out (nwa))).mono ?_
        rintro e W6z ⟨rfl, hn9⟩
        have HN10 := Lib.hid (HN9.out.trans (Nw.trans (Nw.trans HND.out (nwa)) hn9))
        clear hn9
        go_wp2
        go_ret
        exact ⟨rfl, HN10.out⟩
      · rw [hb, hfo] at HFI
        rw [hb, hcn] at HCO
        obtain ⟨za, hza⟩ : ∃ z, z = natI ((none : Option (List Nat)).getD []) := ⟨_, rfl⟩
        rw [← hza] at HFI
        have hzl : za.length = 0 := by rw [hza]; rfl
        have HZL := Lib.hid hzl
        have g1 : (ge == 0) = false := by simpa using hg
        have g2 : ¬ ge = 0 := hg
        clear hb hfo hcn hg hzl hza
        go_wp2_with fail
        refine (HFI.out _ (nwa)).mono ?_
        rintro e WA ⟨va, rfl, hown, hnA⟩
        obtain ⟨Aa, ca, rfl, hia⟩ := hown.form
        rw [HZL.out] at hia ⊢
        have HIA := Lib.hid hia
        have HNA := Lib.hid (show Nw W9 WA from Nw.trans (nwa) hnA)
        haveI hcaA : ConfAt WA b0 c' := hca9.nw HNA.out
        haveI : In b0 WA := ⟨hcaA.lt⟩
        clear hown hia hnA
        go_wp2_with fail
        refine (HCO.out _ (Nw.trans HNA.out (nwa))).mono ?_
        rintro e WB ⟨rfl, hnB⟩
        have HNAB := Lib.hid (show Nw WA WB from Nw.trans (nwa) hnB)
        have HNB := Lib.hid (HNA.out.trans HNAB.out)
        haveI hcaB : ConfAt WB b0 c' := hca9.nw HNB.out
        haveI : In b0 WB := ⟨hcaB.lt⟩
        clear hnB
        go_wp2_with fail
        refine (HWC.out _ (Nw.trans HNB.out (nwa))).mono ?_
        rintro e WC ⟨rfl, hnC⟩
        have HNAC := Lib.hid (show Nw WA WC from HNAB.out.trans (Nw.trans (nwa) hnC))
        have HNC := Lib.hid (HNA.out.trans HNAC.out)
        clear hnC
        go_wp2_with fail
        refine (HAW2.out _ (Nw.trans HNC.out (nwa))).mono ?_
        rintro e W6z ⟨rfl, hn9⟩
        have HN10 := Lib.hid (HN9.out.trans (Nw.trans (Nw.trans HNC.out (nwa)) hn9))
        clear hn9
        go_wp2
        go_ret
        exact ⟨rfl, HN10.out⟩
end Go.Proofs.YtmbjpjpdcmjjgaaGreatDoor
