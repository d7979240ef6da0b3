import Derived.Test.YtfnapkfdocabcaaGreatGOi
import Derived.Test.YtfnapkfdocabcaaGreatGLib
import Derived.Test.YtfnapkfdocabcaaGreatGVe
import Derived.Test.YtfnapkfdocabcaaGreatGFe
import Derived.BigQuiet
set_option linter.unusedVariables false
set_option linter.unusedSimpArgs false
set_option linter.unnecessarySimpa false
namespace Go.Proofs.YtfnapkfdocabcaaGreat
open Go.RowKit Go.Xt
/-! The law WitnessPrefixes. -/
theorem pfx_wfx {s : Int} {x : Cl} (h : WfX x) : WfX (pfx s x) := by
  refine ⟨pfx_wf h.wf, by rw [wpfx_op]; exact h.op, ?_⟩
  have := h.rk
  unfold pfx
  (repeat' split) <;> first | exact this | exact ⟨Int.le_refl 0, by show (0 : Int) < _; decide⟩
theorem wpres_len (s : Int) (l : List Cl) : (pres s l).length ≤ l.length := by
  rw [pres, List.length_map]; exact (List.takeWhile_prefix _).length_le
theorem wpre_wfx {s : Int} {l : List Cl} (h : ∀ y ∈ l, WfX y) : ∀ y ∈ preW s l, WfX y := by
  intro y hy
  unfold preW at hy
  split at hy
  · rw [pres, List.mem_map] at hy
    obtain ⟨x, hx, rfl⟩ := hy
    exact pfx_wfx (h x ((List.takeWhile_prefix _).subset hx))
  · cases hy
theorem wpreW_len (s : Int) (l : List Cl) : (preW s l).length ≤ l.length := by
  unfold preW
  split
  · exact wpres_len s l
  · simp
theorem wAt_ok {c : Cf} {cuts : List Nat} {l : List Cl} {s : Int} {o2 : List Sta} (h : wX c cuts l = .ok o2) (hs : -1 ≤ s) : wAt c cuts s l = (0, atF [] o2 s) := by
  unfold wAt; rw [h]; simp only; rw [if_neg (by omega)]
theorem wFin_ok {c : Cf} {cuts : List Nat} {l : List Cl} {o2 : List Sta} (h : wX c cuts l = .ok o2) : wFin c cuts l = (0, finL o2) := by
  unfold wFin; rw [h]
theorem wprefix_law {c : Cf} {cuts : List Nat} {l : List Cl} {s : Int} (h1 : (wChk c cuts l).2 = 0) (h2 : preE s l = 0) : ∃ P, wChk c cuts (preW s l) = (0, 0) ∧ wAt c cuts s l = (0, P) ∧ wFin c cuts (preW s l) = (0, P) := by
  obtain ⟨o2, e1, e2⟩ := wChk_ok.1 h1
  have hs : -1 ≤ s := by
    unfold preE at h2
    split at h2
    · split at h2
      · cases h2
      · omega
    · cases h2
  have hp : preW s l = pres s l := by unfold preW; rw [if_pos h2]
  obtain ⟨o3, e3, e4, e5⟩ := wprefix_plain hs e1 e2
  rw [hp]
  refine ⟨finL o3, ?_, ?_, wFin_ok e3⟩
  · exact wChk_zero (wChk_ok.2 ⟨o3, e3, e4⟩)
  · rw [wAt_ok e1 hs, e5]
theorem wprefix_err {c : Cf} {cuts : List Nat} {l : List Cl} {s : Int} (h1 : (wChk c cuts l).2 = 0) (h2 : preE s l ≠ 0) : preE s l = 3 ∧ s < -1 := by
  obtain ⟨o2, e1, e2⟩ := wChk_ok.1 h1
  have hb := (wX_ok e1).2.1
  unfold preE at h2 ⊢
  rw [if_pos hb] at h2 ⊢
  split at h2
  · rename_i h; rw [if_pos h]; exact ⟨rfl, h⟩
  · exact absurd rfl h2
set_option maxRecDepth 20000 in
set_option maxHeartbeats 8000000 in
theorem prefixes_M (c : Cf) (cuts : List Nat) (A : Option Addr) (n cap : Nat) (l : List Cl) (s : Int) (w : World) (hr : Rd w 1 c.cA cuts.length (nums cuts)) (hcn : c.cn = cuts.length) (he : 0 ≤ c.eng ∧ c.eng < 256) (hcm : c.cc ≤ maxLen) (hcc : c.cn ≤ c.cc) (hnc : n ≤ cap) (hc : cap ≤ 9223372036854775807) (hl : Cs w A n l) (hw : ∀ y ∈ l, WfX y) :
    Calls Tryz.prog 5 #[confV c, .slice A n cap, .int .i64 s] w fun e w' => e = .returned (.bool true) ∧ Nw w w' := by
  obtain ⟨b0, hb0⟩ : ∃ b, b = w.heap.size := ⟨_, rfl⟩
  obtain ⟨W0, hW0⟩ : ∃ W, W = w.alloc (cellsOf c 27) := ⟨_, rfl⟩
  have hn0 : Nw w W0 := by rw [hW0]; exact (Nw.refl w).alloc _
  haveI hca : ConfAt W0 b0 c := by rw [hW0]; exact ⟨fun i v hv => by unfold cellsOf; unfold ccells at hv; rw [hb0, World.cell?_alloc_new]; simpa using hv, by rw [hb0]; simp⟩
  have hbx : BoxAt W0 b0 := by rw [hW0, hb0]; exact ConfAt.box
  have HSM := Lib.hid (small_any c cuts W0 hcn hcc hcm (Rd.nw hr hn0))
  obtain ⟨nq, hnq⟩ : ∃ k, k = min n 16 := ⟨_, rfl⟩
  have hmin : min (n : Int) 16 = (nq : Int) := by omega
  have hnqc : nq ≤ cap := by omega
  have hlq : Cs w A nq (l.take 16) := by
    rcases Nat.le_total n 16 with h | h
    · rw [List.take_of_length_le (by rw [hl.1]; exact h), show nq = n by omega]; exact hl
    · rw [show nq = 16 by omega]; exact hl.take h
  have HFE := Lib.hid (fun W (hq : Nw w W) => few24_any A nq cap (l.take 16) W hnqc hc (hlq.nw hq))
  have HW := Lib.hid hw
  have HEN := Lib.hid he
  have HCN := Lib.hid hcn
  unfold cellsOf at hW0
  have HW0 := Lib.hid hW0
  have HN0 := Lib.hid hn0
  have HB0 := Lib.hid hb0
  have HBX := Lib.hid hbx
  unfold confV at HSM ⊢
  haveI : In b0 W0 := ⟨hca.lt⟩
  clear hlq hnq hb0 hW0 hn0 hbx hr hcn he hcm hcc hl hw
  go_enter Tryz.func5, Tryz.ntmps5
  go_upto_region 1 with (fail)
  rw [← HW0.out, ← HB0.out]
  go_wp2_with fail
  refine HSM.out.mono ?_
  rintro e W1 ⟨c', rfl, hc', hrd, hap, hn1⟩
  have hbx1 := HBX.out.nw hn1
  have hst := run_storeConf (c := c') hbx1
  unfold confV at hst
  obtain ⟨W2, hW2⟩ : ∃ W, W = putConf W1 b0 c' := ⟨_, rfl⟩
  have hcf : ConfAt W2 b0 c' := by rw [hW2]; exact putConf_at hbx1
  have hch : Chg [b0] W1 W2 := by rw [hW2]; exact putConf_chg W1 b0 c'
  rw [← hW2] at hst
  have hn2 : Nw w W2 := nw_chg2 (HN0.out.trans hn1) hch (fun k hk => by have := HB0.out; simp at hk; omega)
  have hrd2 : Rd W2 1 c'.cA (cuts.take 70).length (nums (cuts.take 70)) := by
    rw [hW2]
    exact rd_chg hrd (putConf_chg W1 b0 c') (fun b o e => by have := hap b o e; have := HBX.out.lt; simp; omega)
  haveI : In b0 W1 := ⟨hbx1.lt⟩
  haveI := hcf
  haveI : In b0 W2 := ⟨hcf.lt⟩
  have HN2 := Lib.hid hn2
  have HRD := Lib.hid hrd2
  have HC' := Lib.hid hc'
  clear hW2 hch hn2 hrd hrd2 hn1 hbx1 hc' hap
  go_wp2_with fail
  refine (HFE.out W2 HN2.out).mono ?_
  rintro e W3 ⟨v, rfl, hown, hn3⟩
  obtain ⟨A3, c3, rfl, hcs, hle, hcm3, hfz⟩ := hown.form
  obtain ⟨L, hL⟩ : ∃ L, L = (l.take 16).take 24 := ⟨_, rfl⟩
  rw [← hL] at hown hcs hle ⊢
  obtain ⟨m, hm⟩ : ∃ m, m = L.length := ⟨_, rfl⟩
  rw [← hm] at hown hcs hle ⊢
  have hm16 : m ≤ 16 := by rw [hm, hL]; simp only [List.length_take]; omega
  have hwl : ∀ y ∈ L, WfX y := fun y hy => HW.out y (List.mem_of_mem_take (List.mem_of_mem_take (hL ▸ hy)))
  have hin : In3 W3 c' (cuts.take 70) A3 m c3 L := ⟨HRD.out.nw hn3, by rw [HC'.out, List.length_take, ← HCN.out]; exact Nat.min_comm _ _, by rw [HC'.out]; exact HEN.out, by omega, hle, hcm3, hcs, hwl⟩
  haveI hca3 : ConfAt W3 b0 c' := hcf.nw hn3
  haveI : In b0 W3 := ⟨hca3.lt⟩
  have HIN := Lib.hid hin
  have HN3 := Lib.hid (HN2.out.trans hn3)
  have HM16 := Lib.hid hm16
  have HM := Lib.hid hm
  obtain ⟨cu, hcu⟩ : ∃ cu, cu = cuts.take 70 := ⟨_, rfl⟩
  rw [← hcu] at HIN
  have HAW := Lib.hid (fun W (hq : Nw W3 W) => awake_any W)
  have hmc : (m : Int) ≤ (c3 : Int) := by omega
  clear hown hcs hle hcm3 hfz hL hm hwl hin hm16 hn3 hcu hst HRD HC' HFE HSM hcf
  have HCK1 := Lib.hid (fun W (hq : Nw W3 W) => wcheck_any (HIN.out.nw hq))
  have HPR := Lib.hid (fun W (hq : Nw W3 W) => prefix_any s A3 m c3 L W (by have := HM16.out; omega) (HIN.out.nw hq).nc (HIN.out.nw hq).cap_ (HIN.out.nw hq).hl (fun y hy => (HIN.out.wf y hy).wf))
  have HAT := Lib.hid (fun W (hq : Nw W3 W) => wat_any (HIN.out.nw hq) s)
  obtain ⟨p1, hp1⟩ : ∃ p1, p1 = (wChk c' cu L).1 := ⟨_, rfl⟩
  obtain ⟨e1, he1⟩ : ∃ e1, e1 = (wChk c' cu L).2 := ⟨_, rfl⟩
  obtain ⟨e2, he2⟩ : ∃ e2, e2 = preE s L := ⟨_, rfl⟩
  have HPL := Lib.hid (fun (h1 : e1 = 0) (h2 : e2 = 0) => wprefix_law (c := c') (cuts := cu) (l := L) (s := s) (he1 ▸ h1) (he2 ▸ h2))
  have HPE := Lib.hid (show e1 = 0 → e2 ≠ 0 → e2 = 3 ∧ s < -1 from fun h1 h2 => he2 ▸ wprefix_err (c := c') (cuts := cu) (he1 ▸ h1) (he2 ▸ h2))
  rw [← hp1, ← he1] at HCK1
  rw [← he2] at HPR
  unfold confV at HCK1 HAT
  clear hp1 he1 he2
  go_wp2_with fail
  refine (HCK1.out _ ((by repeat (first | exact Xt.Nw.refl _ | refine Xt.Nw.drew ?_ | refine Xt.Nw.drewN ?_ _ | refine Xt.Nw.alloc ?_ _ | refine Xt.Nw.joined ?_ | refine Xt.Nw.drewd ?_ | refine Xt.Nw.drewdN ?_ | refine Xt.Nw.ext ?_ | refine Xt.Nw.ext_some ?_ (by assumption) | refine Xt.Nw.setCell ?_ (by simp [go_sem] <;> omega) _)))).mono ?_
  rintro e W4 ⟨rfl, hn4⟩
  haveI hca4 : ConfAt W4 b0 c' := hca3.nw hn4
  haveI : In b0 W4 := ⟨hca4.lt⟩
  have HN4 := Lib.hid hn4
  clear hn4
  by_cases h1 : e1 = 0
  · have h1e := h1
    subst h1
    go_wp2_with fail
    refine (HPR.out _ (Nw.trans HN4.out ((by repeat (first | exact Xt.Nw.refl _ | refine Xt.Nw.drew ?_ | refine Xt.Nw.drewN ?_ _ | refine Xt.Nw.alloc ?_ _ | refine Xt.Nw.joined ?_ | refine Xt.Nw.drewd ?_ | refine Xt.Nw.drewdN ?_ | refine Xt.Nw.ext ?_ | refine Xt.Nw.ext_some ?_ (by assumption) | refine Xt.Nw.setCell ?_ (by simp [go_sem] <;> omega) _))))).mono ?_
    rintro e W5 ⟨v, rfl, hown, hn5⟩
    haveI hca5 : ConfAt W5 b0 c' := hca4.nw (Nw.trans ((by repeat (first | exact Xt.Nw.refl _ | refine Xt.Nw.drew ?_ | refine Xt.Nw.drewN ?_ _ | refine Xt.Nw.alloc ?_ _ | refine Xt.Nw.joined ?_ | refine Xt.Nw.drewd ?_ | refine Xt.Nw.drewdN ?_ | refine Xt.Nw.ext ?_ | refine Xt.Nw.ext_some ?_ (by assumption) | refine Xt.Nw.setCell ?_ (by simp [go_sem] <;> omega) _))) hn5)
    haveI : In b0 W5 := ⟨hca5.lt⟩
    obtain ⟨A5, c5, rfl, hcs5, hle5, hcm5, -⟩ := hown.form
    obtain ⟨m5, hm5⟩ : ∃ m5, m5 = (preW s L).length := ⟨_, rfl⟩
    have HIN5 := Lib.hid (show In3 W5 c' cu A5 (preW s L).length c5 (preW s L) from { HIN.out.nw (Nw.trans HN4.out (Nw.trans ((by repeat (first | exact Xt.Nw.refl _ | refine Xt.Nw.drew ?_ | refine Xt.Nw.drewN ?_ _ | refine Xt.Nw.alloc ?_ _ | refine Xt.Nw.joined ?_ | refine Xt.Nw.drewd ?_ | refine Xt.Nw.drewdN ?_ | refine Xt.Nw.ext ?_ | refine Xt.Nw.ext_some ?_ (by assumption) | refine Xt.Nw.setCell ?_ (by simp [go_sem] <;> omega) _))) hn5)) with n1 := (by have := wpreW_len s L; have := HM.out; have := HM16.out; omega), nc := hle5, cap_ := hcm5, hl := hcs5, wf := wpre_wfx HIN.out.wf })
    rw [← hm5] at HIN5 ⊢
    have HN5 := Lib.hid (Nw.trans HN4.out (Nw.trans ((by repeat (first | exact Xt.Nw.refl _ | refine Xt.Nw.drew ?_ | refine Xt.Nw.drewN ?_ _ | refine Xt.Nw.alloc ?_ _ | refine Xt.Nw.joined ?_ | refine Xt.Nw.drewd ?_ | refine Xt.Nw.drewdN ?_ | refine Xt.Nw.ext ?_ | refine Xt.Nw.ext_some ?_ (by assumption) | refine Xt.Nw.setCell ?_ (by simp [go_sem] <;> omega) _))) hn5))
    clear hown hcs5 hle5 hcm5 hm5 hn5
    by_cases h2 : e2 = 0
    · obtain ⟨P, h4, h5, h6⟩ := HPL.out h1e h2
      have HCK2 := Lib.hid (fun W (hq : Nw W5 W) => wcheck_any (HIN5.out.nw hq))
      have HFI := Lib.hid (fun W (hq : Nw W5 W) => wfinal_any (HIN5.out.nw hq))
      rw [h4] at HCK2
      rw [h5] at HAT
      rw [h6] at HFI
      unfold confV at HCK2 HFI
      clear h4 h5 h6
      subst h2
      go_wp2_with fail
      refine (HCK2.out _ ((by repeat (first | exact Xt.Nw.refl _ | refine Xt.Nw.drew ?_ | refine Xt.Nw.drewN ?_ _ | refine Xt.Nw.alloc ?_ _ | refine Xt.Nw.joined ?_ | refine Xt.Nw.drewd ?_ | refine Xt.Nw.drewdN ?_ | refine Xt.Nw.ext ?_ | refine Xt.Nw.ext_some ?_ (by assumption) | refine Xt.Nw.setCell ?_ (by simp [go_sem] <;> omega) _)))).mono ?_
      rintro e W7 ⟨rfl, hn7⟩
      haveI hca7 : ConfAt W7 b0 c' := hca5.nw hn7
      haveI : In b0 W7 := ⟨hca7.lt⟩
      have HN7 := Lib.hid hn7
      clear hn7
      go_wp2_with fail
      refine (HAT.out _ (HN5.out.trans (Nw.trans HN7.out ((by repeat (first | exact Xt.Nw.refl _ | refine Xt.Nw.drew ?_ | refine Xt.Nw.drewN ?_ _ | refine Xt.Nw.alloc ?_ _ | refine Xt.Nw.joined ?_ | refine Xt.Nw.drewd ?_ | refine Xt.Nw.drewdN ?_ | refine Xt.Nw.ext ?_ | refine Xt.Nw.ext_some ?_ (by assumption) | refine Xt.Nw.setCell ?_ (by simp [go_sem] <;> omega) _)))))).mono ?_
      intro e W8 hP
      unfold PairsP at hP
      obtain ⟨v, rfl, hown, hn8, hlen⟩ := hP
      obtain ⟨A8, c8, rfl⟩ := own_slice hown
      have HR8 := Lib.hid (own_rd hown)
      obtain ⟨m8, hm8⟩ : ∃ k, k = ((0 : Int), P).2.length := ⟨_, rfl⟩
      rw [← hm8] at HR8 hlen ⊢
      haveI hca8 : ConfAt W8 b0 c' := hca7.nw hn8
      haveI : In b0 W8 := ⟨hca8.lt⟩
      have HN8 := Lib.hid (Nw.trans HN7.out hn8)
      have HL8 := Lib.hid hlen
      have HM8 := Lib.hid hm8
      clear hown hn8 hlen hm8
      go_wp2_with fail
      refine (HFI.out _ (Nw.trans HN8.out ((by repeat (first | exact Xt.Nw.refl _ | refine Xt.Nw.drew ?_ | refine Xt.Nw.drewN ?_ _ | refine Xt.Nw.alloc ?_ _ | refine Xt.Nw.joined ?_ | refine Xt.Nw.drewd ?_ | refine Xt.Nw.drewdN ?_ | refine Xt.Nw.ext ?_ | refine Xt.Nw.ext_some ?_ (by assumption) | refine Xt.Nw.setCell ?_ (by simp [go_sem] <;> omega) _))))).mono ?_
      intro e W9 hP
      unfold PairsP at hP
      obtain ⟨v, rfl, hown, hn9, -⟩ := hP
      obtain ⟨A9, c9, rfl⟩ := own_slice hown
      have HR9 := Lib.hid (own_rd hown)
      rw [← HM8.out] at HR9 ⊢
      have HEQ := Lib.hid (fun W (hq : Nw W9 W) => eqPairs_any A8 A9 m8 m8 c8 c9 P P W (HR8.out.nw (Nw.trans (Nw.trans ((by repeat (first | exact Xt.Nw.refl _ | refine Xt.Nw.drew ?_ | refine Xt.Nw.drewN ?_ _ | refine Xt.Nw.alloc ?_ _ | refine Xt.Nw.joined ?_ | refine Xt.Nw.drewd ?_ | refine Xt.Nw.drewdN ?_ | refine Xt.Nw.ext ?_ | refine Xt.Nw.ext_some ?_ (by assumption) | refine Xt.Nw.setCell ?_ (by simp [go_sem] <;> omega) _))) hn9) hq)) (HR9.out.nw hq) (by have := HL8.out; omega) (by have := HL8.out; omega))
      have HN9 := Lib.hid (HN5.out.trans (Nw.trans HN8.out (Nw.trans ((by repeat (first | exact Xt.Nw.refl _ | refine Xt.Nw.drew ?_ | refine Xt.Nw.drewN ?_ _ | refine Xt.Nw.alloc ?_ _ | refine Xt.Nw.joined ?_ | refine Xt.Nw.drewd ?_ | refine Xt.Nw.drewdN ?_ | refine Xt.Nw.ext ?_ | refine Xt.Nw.ext_some ?_ (by assumption) | refine Xt.Nw.setCell ?_ (by simp [go_sem] <;> omega) _))) hn9)))
      clear hown hn9
      go_wp2_with fail
      refine (HEQ.out _ ((by repeat (first | exact Xt.Nw.refl _ | refine Xt.Nw.drew ?_ | refine Xt.Nw.drewN ?_ _ | refine Xt.Nw.alloc ?_ _ | refine Xt.Nw.joined ?_ | refine Xt.Nw.drewd ?_ | refine Xt.Nw.drewdN ?_ | refine Xt.Nw.ext ?_ | refine Xt.Nw.ext_some ?_ (by assumption) | refine Xt.Nw.setCell ?_ (by simp [go_sem] <;> omega) _)))).mono ?_
      rintro e W10 ⟨rfl, hn10⟩
      have HN10 := Lib.hid (HN9.out.trans (Nw.trans ((by repeat (first | exact Xt.Nw.refl _ | refine Xt.Nw.drew ?_ | refine Xt.Nw.drewN ?_ _ | refine Xt.Nw.alloc ?_ _ | refine Xt.Nw.joined ?_ | refine Xt.Nw.drewd ?_ | refine Xt.Nw.drewdN ?_ | refine Xt.Nw.ext ?_ | refine Xt.Nw.ext_some ?_ (by assumption) | refine Xt.Nw.setCell ?_ (by simp [go_sem] <;> omega) _))) hn10))
      clear hn10
      go_wp2_with fail
      refine (HAW.out _ (Nw.trans HN10.out ((by repeat (first | exact Xt.Nw.refl _ | refine Xt.Nw.drew ?_ | refine Xt.Nw.drewN ?_ _ | refine Xt.Nw.alloc ?_ _ | refine Xt.Nw.joined ?_ | refine Xt.Nw.drewd ?_ | refine Xt.Nw.drewdN ?_ | refine Xt.Nw.ext ?_ | refine Xt.Nw.ext_some ?_ (by assumption) | refine Xt.Nw.setCell ?_ (by simp [go_sem] <;> omega) _))))).mono ?_
      rintro e W6 ⟨rfl, hn6⟩
      have HN6 := Lib.hid (HN3.out.trans (Nw.trans (Nw.trans HN10.out ((by repeat (first | exact Xt.Nw.refl _ | refine Xt.Nw.drew ?_ | refine Xt.Nw.drewN ?_ _ | refine Xt.Nw.alloc ?_ _ | refine Xt.Nw.joined ?_ | refine Xt.Nw.drewd ?_ | refine Xt.Nw.drewdN ?_ | refine Xt.Nw.ext ?_ | refine Xt.Nw.ext_some ?_ (by assumption) | refine Xt.Nw.setCell ?_ (by simp [go_sem] <;> omega) _)))) hn6))
      clear hn6
      go_wp2
      go_ret
      exact ⟨rfl, HN6.out⟩
    · have hne2 : (e2 != 0) = true := by simpa using h2
      obtain ⟨rfl, hs⟩ := HPE.out h1e h2
      go_wp2_with fail
      refine (HAW.out _ (Nw.trans HN5.out ((by repeat (first | exact Xt.Nw.refl _ | refine Xt.Nw.drew ?_ | refine Xt.Nw.drewN ?_ _ | refine Xt.Nw.alloc ?_ _ | refine Xt.Nw.joined ?_ | refine Xt.Nw.drewd ?_ | refine Xt.Nw.drewdN ?_ | refine Xt.Nw.ext ?_ | refine Xt.Nw.ext_some ?_ (by assumption) | refine Xt.Nw.setCell ?_ (by simp [go_sem] <;> omega) _))))).mono ?_
      rintro e W6 ⟨rfl, hn6⟩
      have HN6 := Lib.hid (HN3.out.trans (Nw.trans (Nw.trans HN5.out ((by repeat (first | exact Xt.Nw.refl _ | refine Xt.Nw.drew ?_ | refine Xt.Nw.drewN ?_ _ | refine Xt.Nw.alloc ?_ _ | refine Xt.Nw.joined ?_ | refine Xt.Nw.drewd ?_ | refine Xt.Nw.drewdN ?_ | refine Xt.Nw.ext ?_ | refine Xt.Nw.ext_some ?_ (by assumption) | refine Xt.Nw.setCell ?_ (by simp [go_sem] <;> omega) _)))) hn6))
      clear hn6
      go_wp2
      go_ret
      exact ⟨rfl, HN6.out⟩
  · have hne1 : (e1 != 0) = true := by simpa using h1
    go_wp2_with fail
    refine (HAW.out _ (Nw.trans HN4.out ((by repeat (first | exact Xt.Nw.refl _ | refine Xt.Nw.drew ?_ | refine Xt.Nw.drewN ?_ _ | refine Xt.Nw.alloc ?_ _ | refine Xt.Nw.joined ?_ | refine Xt.Nw.drewd ?_ | refine Xt.Nw.drewdN ?_ | refine Xt.Nw.ext ?_ | refine Xt.Nw.ext_some ?_ (by assumption) | refine Xt.Nw.setCell ?_ (by simp [go_sem] <;> omega) _))))).mono ?_
    rintro e W6 ⟨rfl, hn6⟩
    have HN6 := Lib.hid (HN3.out.trans (Nw.trans (Nw.trans HN4.out ((by repeat (first | exact Xt.Nw.refl _ | refine Xt.Nw.drew ?_ | refine Xt.Nw.drewN ?_ _ | refine Xt.Nw.alloc ?_ _ | refine Xt.Nw.joined ?_ | refine Xt.Nw.drewd ?_ | refine Xt.Nw.drewdN ?_ | refine Xt.Nw.ext ?_ | refine Xt.Nw.ext_some ?_ (by assumption) | refine Xt.Nw.setCell ?_ (by simp [go_sem] <;> omega) _)))) hn6))
    clear hn6
    go_wp2
    go_ret
    exact ⟨rfl, HN6.out⟩
end Go.Proofs.YtfnapkfdocabcaaGreat
namespace Go.Proofs.YtfnapkfdocabcaaGreat
open Go.ChangeShapes Go.WideShapes Go.ChangeAt Go.RowKit Go.Joins Go.Xt
/-! A configuration opened. -/
section
variable {H : Type} {enc : TypeId × Value → H} {w : World} {base : Nat} {spare : Nat → Bool} {held : Bool}
theorem cInt : Tryz.prog.cellsOf 3 = 1 := by kernel_rfl
theorem cU8 : Tryz.prog.cellsOf 5 = 1 := by kernel_rfl
theorem cU64 : Tryz.prog.cellsOf 31 = 1 := by kernel_rfl
theorem cSl : Tryz.prog.cellsOf 22 = 1 := by kernel_rfl
theorem cDom : Tryz.prog.cellsOf 24 = 3 := by kernel_rfl
theorem cArr : Tryz.prog.cellsOf 25 = 6 := by kernel_rfl
theorem cConf : Tryz.prog.cellsOf 27 = 16 := by kernel_rfl
theorem int_of {k : IntKind} {t : TypeId} {fuel : Nat} {v : Value} {x : Option (DataW H × List MemPlace)} (ht : Tryz.prog.underlying t = some (.int k)) (h : DataW.trod enc Tryz.prog w base spare held fuel t [v] = x) (hx : x.isSome = true) : ∃ n, v = .int k n ∧ (Lit.int k n).wf = true := by
  obtain ⟨y, hy⟩ := Option.isSome_iff_exists.1 hx
  rw [hy] at h
  obtain ⟨n, e, _, hw⟩ := DataW.trod_int ht h
  simp at e
  exact ⟨n, e, hw⟩
theorem some_of {α : Type} {xs : List α} {n i : Nat} (h : xs.length = n) (hi : i < n) : (xs[i]?).isSome = true := by
  rw [List.getElem?_eq_getElem (by omega)]; rfl
set_option maxRecDepth 100000 in
/-- A configuration by value. -/
theorem open_conf {v : Value} {d : DataW H} {p : List MemPlace} {r : Reach} {b0 : Nat} (hv : Value.okWide Tryz.prog w r b0 27 v) (h : DataW.Trod enc Tryz.prog w base (fun _ => true) held 27 v d p) :
    ∃ (c : Cf) (cuts : List Nat), v = confV c ∧ c.cn = cuts.length ∧ Rd w 1 c.cA cuts.length (nums cuts) ∧ (0 ≤ c.eng ∧ c.eng < 256) ∧ c.cc ≤ maxLen ∧ c.cn ≤ c.cc := by
  obtain ⟨cs, rfl, _⟩ := okWide_struct Tryz.underlying27 hv
  obtain ⟨fuel, hf⟩ := h
  have hf : DataW.trod enc Tryz.prog w base (fun _ => true) held fuel 27 cs.toList = some (d, p) := by simpa [Value.cells] using hf
  obtain ⟨xs, m, -, -, hl, hxl, hfi⟩ := DataW.trod_struct Tryz.underlying27 hf
  rw [cConf] at hl
  obtain ⟨v0, v1, v2, v3, v4, v5, v6, v7, v8, v9, v10, v11, v12, v13, v14, v15, hL⟩ : ∃ v0 v1 v2 v3 v4 v5 v6 v7 v8 v9 v10 v11 v12 v13 v14 v15, cs.toList = [v0, v1, v2, v3, v4, v5, v6, v7, v8, v9, v10, v11, v12, v13, v14, v15] := by
    match cs.toList, hl with
    | [v0, v1, v2, v3, v4, v5, v6, v7, v8, v9, v10, v11, v12, v13, v14, v15], _ => exact ⟨v0, v1, v2, v3, v4, v5, v6, v7, v8, v9, v10, v11, v12, v13, v14, v15, rfl⟩
  have hcs : cs = #[v0, v1, v2, v3, v4, v5, v6, v7, v8, v9, v10, v11, v12, v13, v14, v15] := by cases cs; simp at hL; rw [hL]
  have hxl : xs.length = 9 := hxl
  have g0 : DataW.trod enc Tryz.prog w base (fun _ => true) held m 3 ((cs.toList.drop 0).take (Tryz.prog.cellsOf 3)) = xs[0]? := hfi 0 _ rfl
  have g1 : DataW.trod enc Tryz.prog w base (fun _ => true) held m 3 ((cs.toList.drop 1).take (Tryz.prog.cellsOf 3)) = xs[1]? := hfi 1 _ rfl
  have g2 : DataW.trod enc Tryz.prog w base (fun _ => true) held m 5 ((cs.toList.drop 2).take (Tryz.prog.cellsOf 5)) = xs[2]? := hfi 2 _ rfl
  have g3 : DataW.trod enc Tryz.prog w base (fun _ => true) held m 3 ((cs.toList.drop 3).take (Tryz.prog.cellsOf 3)) = xs[3]? := hfi 3 _ rfl
  have g4 : DataW.trod enc Tryz.prog w base (fun _ => true) held m 24 ((cs.toList.drop 4).take (Tryz.prog.cellsOf 24)) = xs[4]? := hfi 4 _ rfl
  have g5 : DataW.trod enc Tryz.prog w base (fun _ => true) held m 25 ((cs.toList.drop 7).take (Tryz.prog.cellsOf 25)) = xs[5]? := hfi 5 _ rfl
  have g6 : DataW.trod enc Tryz.prog w base (fun _ => true) held m 3 ((cs.toList.drop 13).take (Tryz.prog.cellsOf 3)) = xs[6]? := hfi 6 _ rfl
  have g7 : DataW.trod enc Tryz.prog w base (fun _ => true) held m 3 ((cs.toList.drop 14).take (Tryz.prog.cellsOf 3)) = xs[7]? := hfi 7 _ rfl
  have g8 : DataW.trod enc Tryz.prog w base (fun _ => true) held m 3 ((cs.toList.drop 15).take (Tryz.prog.cellsOf 3)) = xs[8]? := hfi 8 _ rfl
  simp only [hL, cInt, cU8, cDom, cArr, List.drop_zero, List.drop_succ_cons, List.take_succ_cons, List.take_zero] at g0 g1 g2 g3 g4 g5 g6 g7 g8
  obtain ⟨thr, rfl, -⟩ := int_of Tryz.underlying3 g0 (some_of hxl (by decide))
  obtain ⟨sl, rfl, -⟩ := int_of Tryz.underlying3 g1 (some_of hxl (by decide))
  obtain ⟨eng, rfl, weng⟩ := int_of Tryz.underlying5 g2 (some_of hxl (by decide))
  obtain ⟨bk, rfl, -⟩ := int_of Tryz.underlying3 g3 (some_of hxl (by decide))
  obtain ⟨lk, rfl, -⟩ := int_of Tryz.underlying3 g6 (some_of hxl (by decide))
  obtain ⟨tr, rfl, -⟩ := int_of Tryz.underlying3 g7 (some_of hxl (by decide))
  obtain ⟨ba, rfl, -⟩ := int_of Tryz.underlying3 g8 (some_of hxl (by decide))
  -- the towers
  obtain ⟨x5, hx5⟩ := Option.isSome_iff_exists.1 (some_of (i := 5) hxl (by decide))
  rw [hx5] at g5
  obtain ⟨L5, hL5⟩ : ∃ L5, L5 = [v7, v8, v9, v10, v11, v12] := ⟨_, rfl⟩
  rw [← hL5] at g5
  obtain ⟨ys, m5, -, -, -, hyl, hyi⟩ := DataW.trod_array Tryz.underlying25 g5
  have a0 : DataW.trod enc Tryz.prog w base (fun _ => true) held m5 3 ((L5.drop (0 * Tryz.prog.cellsOf 3)).take (Tryz.prog.cellsOf 3)) = ys[0]? := hyi 0 (by decide)
  have a1 : DataW.trod enc Tryz.prog w base (fun _ => true) held m5 3 ((L5.drop (1 * Tryz.prog.cellsOf 3)).take (Tryz.prog.cellsOf 3)) = ys[1]? := hyi 1 (by decide)
  have a2 : DataW.trod enc Tryz.prog w base (fun _ => true) held m5 3 ((L5.drop (2 * Tryz.prog.cellsOf 3)).take (Tryz.prog.cellsOf 3)) = ys[2]? := hyi 2 (by decide)
  have a3 : DataW.trod enc Tryz.prog w base (fun _ => true) held m5 3 ((L5.drop (3 * Tryz.prog.cellsOf 3)).take (Tryz.prog.cellsOf 3)) = ys[3]? := hyi 3 (by decide)
  have a4 : DataW.trod enc Tryz.prog w base (fun _ => true) held m5 3 ((L5.drop (4 * Tryz.prog.cellsOf 3)).take (Tryz.prog.cellsOf 3)) = ys[4]? := hyi 4 (by decide)
  have a5 : DataW.trod enc Tryz.prog w base (fun _ => true) held m5 3 ((L5.drop (5 * Tryz.prog.cellsOf 3)).take (Tryz.prog.cellsOf 3)) = ys[5]? := hyi 5 (by decide)
  simp only [hL5, cInt, Nat.zero_mul, Nat.one_mul, Nat.mul_one, List.drop_zero, List.drop_succ_cons, List.take_succ_cons, List.take_zero] at a0 a1 a2 a3 a4 a5
  obtain ⟨t1, rfl, -⟩ := int_of Tryz.underlying3 a0 (some_of hyl (by decide))
  obtain ⟨t2, rfl, -⟩ := int_of Tryz.underlying3 a1 (some_of hyl (by decide))
  obtain ⟨t3, rfl, -⟩ := int_of Tryz.underlying3 a2 (some_of hyl (by decide))
  obtain ⟨t4, rfl, -⟩ := int_of Tryz.underlying3 a3 (some_of hyl (by decide))
  obtain ⟨t5, rfl, -⟩ := int_of Tryz.underlying3 a4 (some_of hyl (by decide))
  obtain ⟨t6, rfl, -⟩ := int_of Tryz.underlying3 a5 (some_of hyl (by decide))
  -- the domain
  obtain ⟨x4, hx4⟩ := Option.isSome_iff_exists.1 (some_of (i := 4) hxl (by decide))
  rw [hx4] at g4
  obtain ⟨L4, hL4⟩ : ∃ L4, L4 = [v4, v5, v6] := ⟨_, rfl⟩
  rw [← hL4] at g4
  obtain ⟨zs, m4, -, -, -, hzl, hzi⟩ := DataW.trod_struct Tryz.underlying24 g4
  have hzl : zs.length = 3 := hzl
  have e0 : DataW.trod enc Tryz.prog w base (fun _ => true) held m4 5 ((L4.drop 0).take (Tryz.prog.cellsOf 5)) = zs[0]? := hzi 0 _ rfl
  have e1 : DataW.trod enc Tryz.prog w base (fun _ => true) held m4 3 ((L4.drop 1).take (Tryz.prog.cellsOf 3)) = zs[1]? := hzi 1 _ rfl
  have e2 : DataW.trod enc Tryz.prog w base (fun _ => true) held m4 22 ((L4.drop 2).take (Tryz.prog.cellsOf 22)) = zs[2]? := hzi 2 _ rfl
  simp only [hL4, cInt, cU8, cSl, List.drop_zero, List.drop_succ_cons, List.take_succ_cons, List.take_zero] at e0 e1 e2
  obtain ⟨dk, rfl, -⟩ := int_of Tryz.underlying5 e0 (some_of hzl (by decide))
  obtain ⟨dn, rfl, -⟩ := int_of Tryz.underlying3 e1 (some_of hzl (by decide))
  obtain ⟨z2, hz2⟩ := Option.isSome_iff_exists.1 (some_of (i := 2) hzl (by decide))
  rw [hz2] at e2
  have he : 0 ≤ eng ∧ eng < 256 := WfU8 weng
  rcases Deep.open_slice1 Tryz.underlying22 cU64 e2 with ⟨hcs6, _⟩ | ⟨a, len, cap, mm, k, V, D, Pl, hcs6, _, hlc, hcm, hmm, _, hi⟩
  · simp only [List.cons.injEq, and_true] at hcs6
    subst hcs6
    exact ⟨⟨thr, sl, eng, bk, dk, dn, none, 0, 0, t1, t2, t3, t4, t5, t6, lk, tr, ba⟩, [], by rw [hcs]; rfl, rfl, ⟨rfl, fun h => absurd h (by simp)⟩, he, Nat.zero_le _, Nat.zero_le _⟩
  · simp only [List.cons.injEq, and_true] at hcs6
    subst hcs6
    simp only [if_true] at hmm
    have get : ∀ i, i < len → ∃ n : Nat, w.cell? (a.add i) = some (.int .u64 (n : Int)) := fun i hil => by
      obtain ⟨h1, h2⟩ := hi i (by omega)
      obtain ⟨n, h3, hw⟩ := int_of Tryz.underlying31 h2 rfl
      have := WfU64 hw
      exact ⟨n.toNat, by rw [h1, h3]; congr 2; omega⟩
    let cuts := (List.range len).map fun i => if h : i < len then Classical.choose (get i h) else 0
    have hcut : ∀ i (hil : i < len), cuts[i]? = some (Classical.choose (get i hil)) := by
      intro i hil
      simp only [cuts, List.getElem?_map, List.getElem?_range hil, Option.map_some, dif_pos hil]
    have hcl : cuts.length = len := by simp [cuts]
    refine ⟨⟨thr, sl, eng, bk, dk, dn, some a, len, cap, t1, t2, t3, t4, t5, t6, lk, tr, ba⟩, cuts, by rw [hcs]; rfl, hcl.symm, ⟨by simp [nums], fun h0 => ?_⟩, he, hcm, hlc⟩
    have h00 := Classical.choose_spec (get 0 (by omega))
    have hsp : a.spot = none := by
      have := spot_of_cell h00
      rwa [add_zero] at this
    have hb := World.block_lt_of_cell? w _ h00
    rw [add_block] at hb
    refine ⟨a.block, a.off, by cases a; simp at hsp; subst hsp; rfl, hb, fun j u hu => ?_⟩
    have hj : j < len := by have := (List.getElem?_eq_some_iff.1 hu).1; simp [nums] at this; omega
    have h1 := (congrArg w.cell? (add_spot hsp)).symm.trans (Classical.choose_spec (get j hj))
    have h2 := nums_at (hcut j hj)
    rw [hu] at h2
    injection h2 with h2
    rw [h2]
    exact h1
end
end Go.Proofs.YtfnapkfdocabcaaGreat
namespace Go.Proofs.YtfnapkfdocabcaaGreat
open Go.RowKit Go.Xt
/-! Helpers of the law WitnessOrders. -/
theorem boolInfo : (Tryz.prog.info? 4).map (fun i => (i.zero, i.size, i.bytes)) = some (some (.bool false), 1, 1) := by kernel_rfl
/-- Block b holds the bools P 0 .. P (n-1), and may be written. -/
structure Seen (W : World) (b n : Nat) (P : Nat → Bool) : Prop where
  lt : b < W.heap.size
  cell : ∀ i, i < n → W.cell? ⟨b, i, none⟩ = some (.bool (P i))
  fz : ∀ i, i < n → W.frozen? ⟨b, i, none⟩ = false
theorem Seen.chg {W W' : World} {b n : Nat} {P : Nat → Bool} {X : List Nat} (h : Seen W b n P) (hc : Chg X W W') (hb : b ∉ X) : Seen W' b n P :=
  ⟨Nat.lt_of_lt_of_le h.lt hc.size, fun i hi => hc.cell (h.cell i hi) hb, fun i hi => (hc.frozen h.lt hb).trans (h.fz i hi)⟩
theorem Seen.nw {W W' : World} {b n : Nat} {P : Nat → Bool} (h : Seen W b n P) (hn : Nw W W') : Seen W' b n P := h.chg (Chg.of_nw hn : Chg [] W W') (by simp)
theorem Seen.set {W : World} {b n q : Nat} {P : Nat → Bool} (h : Seen W b n P) (hq : q < n) : Seen (W.setCell ⟨b, q, none⟩ (.bool true)) b n (fun i => decide (i = q) || P i) := by
  refine ⟨by simpa using h.lt, fun i hi => ?_, fun i hi => (World.frozen?_setCell ..).trans (h.fz i hi)⟩
  by_cases e : i = q
  · subst e
    rw [World.cell?_setCell_same _ _ _ (h.cell i hi)]; simp
  · rw [World.cell?_setCell_other (h := by intro e2; injection e2 with e3 e4; exact e e4.symm), h.cell i hi]; simp [e]
theorem Seen.congr {W : World} {b n : Nat} {P Q : Nat → Bool} (h : Seen W b n P) (e : ∀ i, i < n → P i = Q i) : Seen W b n Q :=
  ⟨h.lt, fun i hi => by rw [← e i hi]; exact h.cell i hi, h.fz⟩
/-- make([]bool, n). -/
theorem make_bools (w : World) (n : Nat) (hn : n ≤ 1000) : ∃ w', (Instr.makeSlice 68 (.int .i64 (n : Int)) (.int .i64 (n : Int))).run Tryz.prog w = .ok (.slice (some ⟨w.heap.size, 0, none⟩) n n) w' ∧ Seen w' w.heap.size n (fun _ => false) ∧ Nw w w' := by
  obtain ⟨i, hi1, hz0, hz1, hz2⟩ := info_parts boolInfo
  obtain ⟨w', h1, h2, h3⟩ := run_make_full w w.heap.size 68 4 i (.bool false) 1 Tryz.underlying68 hi1 hz0 hz1 .i64 .i64 n (by rw [hz2]; omega) (by unfold maxLen; omega) (Nat.le_refl _)
  refine ⟨w', h1, ?_, .of h3⟩
  have hlt : w.heap.size < w'.heap.size := (World.ownsRow.lt h2 _ rfl).2
  refine ⟨hlt, fun j hj => ?_, fun j _ => World.ownsRow.frozenAt h2 j⟩
  rw [World.ownsRow.cellAt h2 j (by omega)]
  have : (madeCells (Value.bool false).cells (n * 1)).toList = List.replicate (n * 1) (.bool false) := toList_madeCells_one _ _
  rw [this, List.getElem?_replicate, if_pos (by omega)]
theorem take_seen {ys : List Nat} {k q : Nat} (h : ys[k]? = some q) (i : Nat) : (decide (i = q) || decide (i ∈ ys.take k)) = decide (i ∈ ys.take (k + 1)) := by
  obtain ⟨p1, q1⟩ := List.getElem?_eq_some_iff.1 h
  rw [List.take_succ_eq_append_getElem p1, q1]
  by_cases e : i = q <;> simp [e]
/-- The state of the law's loop: a model and what has been seen, apart from each other. -/
structure OrS (w : World) (gm gs n : Nat) (s : Md) (N : Nat) (P : Nat → Bool) (p : Pl) (W : World) : Prop where
  gm : p.gm = gm
  at_ : MAt W p s
  ok : s.Ok N
  foot : ∀ g ∈ p.foot, w.heap.size ≤ g
  nw : Nw w W
  seen : Seen W gs n P
  gsb : w.heap.size ≤ gs
  gsf : gs ∉ p.foot
section
variable {w W W' : World} {gm gs n N : Nat} {s s' : Md} {P : Nat → Bool} {p p' : Pl}
theorem OrS.grow (H : OrS w gm gs n s N P p W) (hn : Nw W W') : OrS w gm gs n s N P p W' :=
  { H with at_ := H.at_.nw hn, nw := H.nw.trans hn, seen := H.seen.nw hn }
theorem OrS.up (H : OrS w gm gs n s N P p W) (hu : MUp W p s' p' W') {N' : Nat} (hok : s'.Ok N') : OrS w gm gs n s' N' P p' W' where
  gm := hu.gm.trans H.gm
  at_ := hu.at'
  ok := hok
  foot := fun g hg => (hu.mv g hg).elim (H.foot g) (fun h => Nat.le_trans H.nw.grown.size h)
  nw := nw_chg2 H.nw hu.chg H.foot
  seen := H.seen.chg hu.chg H.gsf
  gsb := H.gsb
  gsf := fun hg => (hu.mv gs hg).elim H.gsf (fun h => by have := H.seen.lt; omega)
theorem OrS.mark (H : OrS w gm gs n s N P p W) {q : Nat} (hq : q < n) : OrS w gm gs n s N (fun i => decide (i = q) || P i) p (W.setCell ⟨gs, q, none⟩ (.bool true)) := by
  have hch : Chg [gs] W (W.setCell ⟨gs, q, none⟩ (.bool true)) := Chg.set1 W gs q _
  exact { gm := H.gm, at_ := H.at_.chg hch (fun g hg e => by simp at e; subst e; exact H.gsf hg), ok := H.ok, foot := H.foot
          nw := nw_chg2 H.nw hch (fun g hg => by simp at hg; subst hg; exact H.gsb), seen := H.seen.set hq, gsb := H.gsb, gsf := H.gsf }
theorem OrS.congr {Q : Nat → Bool} (H : OrS w gm gs n s N P p W) (e : ∀ i, i < n → P i = Q i) : OrS w gm gs n s N Q p W := { H with seen := H.seen.congr e }
end
/-- What a call on the model leaves. -/
def OrP (w : World) (gm gs n : Nat) (v : Value) (s' : Md) (N : Nat) (P : Nat → Bool) (e : Ending) (W' : World) : Prop := e = .returned v ∧ ∃ p', OrS w gm gs n s' N P p' W'
theorem do_OrS {w W : World} {gm gs n N : Nat} {s : Md} {P : Nat → Bool} {p : Pl} (H : OrS w gm gs n s N P p W) (hN : N ≤ 500000) (t : Int) (o : Ox) (hw : o.Wf) :
    Calls Tryz.prog 10 #[.pointer (some ⟨gm, 0, none⟩), .int .i64 t, opV o] W (OrP w gm gs n (resV (doM s t o).1) (doM s t o).2 (N + 1) P) := by
  have h1 := do_any W p s H.at_ H.ok hN t o hw
  rw [H.gm] at h1
  refine Calls.mono h1 ?_
  rintro e W' ⟨rfl, p', hu⟩
  exact ⟨rfl, p', H.up hu (doM_ok H.ok t hw)⟩
theorem acc_OrS {w W : World} {gm gs n N : Nat} {s : Md} {P : Nat → Bool} {p : Pl} (H : OrS w gm gs n s N P p W) (hN : N ≤ 500000) (t : Int) (o : Ox) (hw : o.Wf) (r : Rs) (hk : 0 ≤ r.key ∧ r.key < 18446744073709551616) :
    Calls Tryz.prog 15 #[.pointer (some ⟨gm, 0, none⟩), .int .i64 t, opV o, resV r] W (OrP w gm gs n (.bool (acceptM s t o r).1) (acceptM s t o r).2 (N + 1) P) := by
  have h1 := accept_any W p s H.at_ H.ok hN t o hw r hk
  rw [H.gm] at h1
  refine Calls.mono h1 ?_
  rintro e W' ⟨rfl, p', hu⟩
  exact ⟨rfl, p', H.up hu (acceptM_ok H.ok t hw hk.1)⟩
/-- A run of an order, cut at a call. -/
theorem run_cut {l : List Cl} {s S : Md} {o : List Nat} {k i : Nat} (h : runM l s o = some S) (hi : o[k]? = some i) : ∃ S1 x S2, runM l s (o.take k) = some S1 ∧ l[i]? = some x ∧ nextM S1 x = some S2 ∧ runM l s (o.take (k + 1)) = some S2 := by
  obtain ⟨p, e⟩ := List.getElem?_eq_some_iff.1 hi
  have h1 : o = o.take k ++ i :: o.drop (k + 1) := by
    conv => lhs; rw [← List.take_append_drop k o]
    rw [List.drop_eq_getElem_cons p, e]
  rw [h1, runM_app] at h
  cases hr : runM l s (o.take k) with
  | none => rw [hr] at h; cases h
  | some S1 =>
    rw [hr] at h
    simp only [Option.bind_some] at h
    rw [runM] at h
    cases hx : l[i]? with
    | none => rw [hx] at h; cases h
    | some x =>
      rw [hx] at h
      simp only [Option.bind_some] at h
      cases hn : nextM S1 x with
      | none => rw [hn] at h; cases h
      | some S2 =>
        refine ⟨S1, x, S2, rfl, rfl, hn, ?_⟩
        rw [List.take_succ_eq_append_getElem p, e, runM_app, hr]
        simp only [Option.bind_some]
        rw [runM, hx]
        simp only [Option.bind_some, hn]
        rfl
theorem badFrom_lt (l : List Cl) : ∀ (f i k : Nat), badFrom l i f = some k → k < i + f
  | 0, i, k, h => by cases h
  | f + 1, i, k, h => by
    rw [badFrom] at h
    split at h
    · cases h
    · split at h
      · have := badFrom_lt l f (i + 1) k h; omega
      · injection h with h; omega
theorem bad_lt {l : List Cl} {i : Nat} (h : bad l = some i) : i < l.length := by
  have := badFrom_lt l _ _ _ h; omega
theorem statesM_err (l : List Cl) : ∀ (ord : List Nat) (s : Md) (out : List Sta) (i : Nat), statesM l ord s out = .error i → (∀ j ∈ ord, j < l.length) → i < l.length
  | [], s, out, i, h, _ => by simp only [statesM] at h; cases h
  | j :: t, s, out, i, h, hj => by
    rw [statesM] at h
    have hjl := hj j (by simp)
    rw [List.getElem?_eq_getElem hjl] at h
    simp only at h
    cases hf : fitsM s (l[j]) with
    | none => rw [hf] at h; injection h with h; omega
    | some s' => rw [hf] at h; exact statesM_err l t s' _ i h (fun q hq => hj q (by simp [hq]))
theorem badR_lt {maps : List Sta} : ∀ (l : List Cl) (k i : Nat), badR maps l k = some i → i < k + l.length
  | [], k, i, h => by simp [badR] at h
  | x :: r, k, i, h => by
    rw [badR] at h
    split at h
    · injection h with h; simp; omega
    · have := badR_lt r (k + 1) i h; simp; omega
theorem wX_at {c : Cf} {cuts : List Nat} {l : List Cl} {z : Int × Int} (h : wX c cuts l = .error z) : 0 ≤ z.1 ∧ z.1 ≤ l.length := by
  unfold wX at h
  split at h
  · injection h with h; subst h; exact ⟨Int.le_refl _, by simp⟩
  · split at h
    · rename_i i hi
      injection h with h; subst h
      have := bad_lt hi
      exact ⟨by simp, by simp; omega⟩
    · rename_i hb
      unfold finX at h
      split at h
      · rename_i i hi
        injection h with h; subst h
        have := statesM_err l _ _ _ _ hi (fun j hj => by
          obtain ⟨x, hx, -⟩ := ((effL_is hb).2 j).1 hj
          exact (List.getElem?_eq_some_iff.1 hx).1)
        exact ⟨by simp, by simp; omega⟩
      · cases h
end Go.Proofs.YtfnapkfdocabcaaGreat
namespace Go.Proofs.YtfnapkfdocabcaaGreat
open Go.RowKit Go.Xt
/-! The law WitnessOrders. -/
/-- What is known of the rounds. -/
def OrR (Wb : World) (c : Cf) (l : List Cl) (o : List Nat) (gm gs n k : Nat) (W : World) : Prop :=
  ∃ S p, OrS Wb gm gs n S k (fun i => decide (i ∈ o.take k)) p W ∧ runM l (s1M c) (o.take k) = some S
/-- What Order and Check tell. -/
theorem ord_cases {w : World} {c : Cf} {cuts : List Nat} {l : List Cl} {e : Ending} {w' : World} (h : OrdP w c cuts l e w') :
    Nw w w' ∧ ((∃ er p : Int, er ≠ 0 ∧ 0 ≤ p ∧ p ≤ l.length ∧ wChk c cuts l = (p, er) ∧ e = .returned (.tuple #[.slice none 0 0, .int .i64 er])) ∨
      (∃ out v o, wX c cuts l = .ok out ∧ badR out l 0 = none ∧ wChk c cuts l = (0, 0) ∧ e = .returned (.tuple #[v, .int .i64 0]) ∧ OwnI w' w.heap.size v (natI o) ∧ WOrd out l o)) := by
  unfold OrdP at h
  obtain ⟨hn, h⟩ := h
  refine ⟨hn, ?_⟩
  cases hX : wX c cuts l with
  | error z =>
    rw [hX] at h
    have h1 := wX_at hX
    exact .inl ⟨z.2, z.1, wX_err hX, h1.1, h1.2, by unfold wChk; rw [hX], h⟩
  | ok out =>
    rw [hX] at h
    simp only at h
    cases hR : badR out l 0 with
    | some i =>
      rw [hR] at h
      have := badR_lt l 0 i hR
      exact .inl ⟨18, i, by decide, by omega, by omega, by unfold wChk; rw [hX]; simp only; rw [hR], h⟩
    | none =>
      rw [hR] at h
      obtain ⟨v, o, h1, h2, h3⟩ := h
      exact .inr ⟨out, v, o, rfl, hR, by unfold wChk; rw [hX]; simp only; rw [hR], h1, h2, h3⟩
set_option maxRecDepth 20000 in
set_option maxHeartbeats 8000000 in
theorem orders_M (c : Cf) (cuts : List Nat) (A : Option Addr) (n cap : Nat) (l : List Cl) (w : World) (hr : Rd w 1 c.cA cuts.length (nums cuts)) (hcn : c.cn = cuts.length) (he : 0 ≤ c.eng ∧ c.eng < 256) (hcm : c.cc ≤ maxLen) (hcc : c.cn ≤ c.cc) (hnc : n ≤ cap) (hc : cap ≤ 9223372036854775807) (hl : Cs w A n l) (hw : ∀ y ∈ l, WfX y) :
    Calls Tryz.prog 6 #[confV c, .slice A n cap] w fun e w' => e = .returned (.bool true) ∧ Nw w w' := by
  obtain ⟨b0, hb0⟩ : ∃ b, b = w.heap.size := ⟨_, rfl⟩
  obtain ⟨W0, hW0⟩ : ∃ W, W = w.alloc (cellsOf c 27) := ⟨_, rfl⟩
  have hn0 : Nw w W0 := by rw [hW0]; exact (Nw.refl w).alloc _
  haveI hca : ConfAt W0 b0 c := by rw [hW0]; exact ⟨fun i v hv => by unfold cellsOf; unfold ccells at hv; rw [hb0, World.cell?_alloc_new]; simpa using hv, by rw [hb0]; simp⟩
  have hbx : BoxAt W0 b0 := by rw [hW0, hb0]; exact ConfAt.box
  have HSM := Lib.hid (small_any c cuts W0 hcn hcc hcm (Rd.nw hr hn0))
  have HFE := Lib.hid (fun W (hq : Nw w W) => few24_any A n cap l W hnc hc (hl.nw hq))
  have HW := Lib.hid hw
  have HEN := Lib.hid he
  have HCN := Lib.hid hcn
  unfold cellsOf at hW0
  have HW0 := Lib.hid hW0
  have HN0 := Lib.hid hn0
  have HB0 := Lib.hid hb0
  have HBX := Lib.hid hbx
  unfold confV at HSM ⊢
  haveI : In b0 W0 := ⟨hca.lt⟩
  clear hb0 hW0 hn0 hbx hr hcn he hcm hcc hl hw
  go_enter Tryz.func6, Tryz.ntmps6
  go_upto_region 1 with (fail)
  rw [← HW0.out, ← HB0.out]
  go_wp2_with fail
  refine HSM.out.mono ?_
  rintro e W1 ⟨c', rfl, hc', hrd, hap, hn1⟩
  have hbx1 := HBX.out.nw hn1
  have hst := run_storeConf (c := c') hbx1
  unfold confV at hst
  obtain ⟨W2, hW2⟩ : ∃ W, W = putConf W1 b0 c' := ⟨_, rfl⟩
  have hcf : ConfAt W2 b0 c' := by rw [hW2]; exact putConf_at hbx1
  have hch : Chg [b0] W1 W2 := by rw [hW2]; exact putConf_chg W1 b0 c'
  rw [← hW2] at hst
  have hn2 : Nw w W2 := nw_chg2 (HN0.out.trans hn1) hch (fun k hk => by have := HB0.out; simp at hk; omega)
  have hrd2 : Rd W2 1 c'.cA (cuts.take 70).length (nums (cuts.take 70)) := by
    rw [hW2]
    exact rd_chg hrd (putConf_chg W1 b0 c') (fun b o e => by have := hap b o e; have := HBX.out.lt; simp; omega)
  haveI : In b0 W1 := ⟨hbx1.lt⟩
  haveI := hcf
  haveI : In b0 W2 := ⟨hcf.lt⟩
  have HN2 := Lib.hid hn2
  have HRD := Lib.hid hrd2
  have HC' := Lib.hid hc'
  clear hW2 hch hn2 hrd hrd2 hn1 hbx1 hc' hap
  go_wp2_with fail
  refine (HFE.out W2 HN2.out).mono ?_
  rintro e W3 ⟨v, rfl, hown, hn3⟩
  obtain ⟨A3, c3, rfl, hcs, hle, hcm3, hfz⟩ := hown.form
  obtain ⟨L, hL⟩ : ∃ L, L = l.take 24 := ⟨_, rfl⟩
  rw [← hL] at hown hcs hle ⊢
  obtain ⟨m, hm⟩ : ∃ m, m = L.length := ⟨_, rfl⟩
  rw [← hm] at hown hcs hle ⊢
  have hm16 : m ≤ 24 := by rw [hm, hL]; simp only [List.length_take]; omega
  have hwl : ∀ y ∈ L, WfX y := fun y hy => HW.out y (List.mem_of_mem_take (hL ▸ hy))
  have hin : In3 W3 c' (cuts.take 70) A3 m c3 L := ⟨HRD.out.nw hn3, by rw [HC'.out, List.length_take, ← HCN.out]; exact Nat.min_comm _ _, by rw [HC'.out]; exact HEN.out, by omega, hle, hcm3, hcs, hwl⟩
  haveI hca3 : ConfAt W3 b0 c' := hcf.nw hn3
  haveI : In b0 W3 := ⟨hca3.lt⟩
  have HIN := Lib.hid hin
  have HN3 := Lib.hid (HN2.out.trans hn3)
  have HM16 := Lib.hid hm16
  have HM := Lib.hid hm
  obtain ⟨cu, hcu⟩ : ∃ cu, cu = cuts.take 70 := ⟨_, rfl⟩
  rw [← hcu] at HIN
  have HAW := Lib.hid (fun W (hq : Nw W3 W) => awake_any W)
  have hmc : (m : Int) ≤ (c3 : Int) := by omega
  clear hown hcs hle hcm3 hfz hL hm hwl hin hm16 hn3 hcu hst HRD HC' HFE HSM hcf
  have HOD := Lib.hid (fun W (hq : Nw W3 W) => worder_any (HIN.out.nw hq) (by have := HM16.out; omega))
  have HCK1 := Lib.hid (fun W (hq : Nw W3 W) => wcheck_any (HIN.out.nw hq))
  have HFI := Lib.hid (fun W (hq : Nw W3 W) => wfinal_any (HIN.out.nw hq))
  unfold confV at HOD HCK1 HFI
  go_wp2_with fail
  refine (HOD.out _ ((by repeat (first | exact Xt.Nw.refl _ | refine Xt.Nw.drew ?_ | refine Xt.Nw.drewN ?_ _ | refine Xt.Nw.alloc ?_ _ | refine Xt.Nw.joined ?_ | refine Xt.Nw.drewd ?_ | refine Xt.Nw.drewdN ?_ | refine Xt.Nw.ext ?_ | refine Xt.Nw.ext_some ?_ (by assumption) | refine Xt.Nw.setCell ?_ (by simp [go_sem] <;> omega) _)))).mono ?_
  intro e W4 hP
  obtain ⟨hn4, hcase⟩ := ord_cases hP
  haveI hca4 : ConfAt W4 b0 c' := hca3.nw (Nw.trans ((by repeat (first | exact Xt.Nw.refl _ | refine Xt.Nw.drew ?_ | refine Xt.Nw.drewN ?_ _ | refine Xt.Nw.alloc ?_ _ | refine Xt.Nw.joined ?_ | refine Xt.Nw.drewd ?_ | refine Xt.Nw.drewdN ?_ | refine Xt.Nw.ext ?_ | refine Xt.Nw.ext_some ?_ (by assumption) | refine Xt.Nw.setCell ?_ (by simp [go_sem] <;> omega) _))) hn4)
  haveI : In b0 W4 := ⟨hca4.lt⟩
  have HN4 := Lib.hid (show Nw W3 W4 from Nw.trans ((by repeat (first | exact Xt.Nw.refl _ | refine Xt.Nw.drew ?_ | refine Xt.Nw.drewN ?_ _ | refine Xt.Nw.alloc ?_ _ | refine Xt.Nw.joined ?_ | refine Xt.Nw.drewd ?_ | refine Xt.Nw.drewdN ?_ | refine Xt.Nw.ext ?_ | refine Xt.Nw.ext_some ?_ (by assumption) | refine Xt.Nw.setCell ?_ (by simp [go_sem] <;> omega) _))) hn4)
  rcases hcase with ⟨er, pt, her, hp0, hpl, hck, rfl⟩ | ⟨out, v, o, hX, hR, hck, rfl, hown, hord⟩
  · rw [hck] at HCK1
    rw [← HM.out] at hpl
    have HPT := Lib.hid (And.intro hp0 hpl)
    have hne : (er != 0) = true := by simpa using her
    have d1 : (er != er) = false := by simp
    have d2 : (0 : Int) ≤ pt := hp0
    have d3 : pt ≤ (m : Int) := hpl
    have d4 : decide ((0 : Int) ≤ pt) = true := decide_eq_true hp0
    have d5 : decide (pt ≤ (m : Int)) = true := decide_eq_true hpl
    clear hP hn4 her hp0 hpl hck
    go_wp2_with fail
    refine (HCK1.out _ (Nw.trans HN4.out ((by repeat (first | exact Xt.Nw.refl _ | refine Xt.Nw.drew ?_ | refine Xt.Nw.drewN ?_ _ | refine Xt.Nw.alloc ?_ _ | refine Xt.Nw.joined ?_ | refine Xt.Nw.drewd ?_ | refine Xt.Nw.drewdN ?_ | refine Xt.Nw.ext ?_ | refine Xt.Nw.ext_some ?_ (by assumption) | refine Xt.Nw.setCell ?_ (by simp [go_sem] <;> omega) _))))).mono ?_
    rintro e W5 ⟨rfl, hn5⟩
    have HN5 := Lib.hid (show Nw W3 W5 from Nw.trans HN4.out (Nw.trans ((by repeat (first | exact Xt.Nw.refl _ | refine Xt.Nw.drew ?_ | refine Xt.Nw.drewN ?_ _ | refine Xt.Nw.alloc ?_ _ | refine Xt.Nw.joined ?_ | refine Xt.Nw.drewd ?_ | refine Xt.Nw.drewdN ?_ | refine Xt.Nw.ext ?_ | refine Xt.Nw.ext_some ?_ (by assumption) | refine Xt.Nw.setCell ?_ (by simp [go_sem] <;> omega) _))) hn5))
    clear hn5
    go_wp2_with fail
    refine (HAW.out _ (Nw.trans HN5.out ((by repeat (first | exact Xt.Nw.refl _ | refine Xt.Nw.drew ?_ | refine Xt.Nw.drewN ?_ _ | refine Xt.Nw.alloc ?_ _ | refine Xt.Nw.joined ?_ | refine Xt.Nw.drewd ?_ | refine Xt.Nw.drewdN ?_ | refine Xt.Nw.ext ?_ | refine Xt.Nw.ext_some ?_ (by assumption) | refine Xt.Nw.setCell ?_ (by simp [go_sem] <;> omega) _))))).mono ?_
    rintro e W6 ⟨rfl, hn6⟩
    have HN6 := Lib.hid (HN3.out.trans (Nw.trans (Nw.trans HN5.out ((by repeat (first | exact Xt.Nw.refl _ | refine Xt.Nw.drew ?_ | refine Xt.Nw.drewN ?_ _ | refine Xt.Nw.alloc ?_ _ | refine Xt.Nw.joined ?_ | refine Xt.Nw.drewd ?_ | refine Xt.Nw.drewdN ?_ | refine Xt.Nw.ext ?_ | refine Xt.Nw.ext_some ?_ (by assumption) | refine Xt.Nw.setCell ?_ (by simp [go_sem] <;> omega) _)))) hn6))
    clear hn6
    go_wp2
    go_ret
    exact ⟨rfl, HN6.out⟩
  · rw [hck] at HCK1
    obtain ⟨Ao, co, rfl, his⟩ := hown.form
    rw [natI_len] at his ⊢
    obtain ⟨N, hN⟩ : ∃ N, N = o.length := ⟨_, rfl⟩
    rw [← hN] at his ⊢
    obtain ⟨hae, hab, ⟨S, hrun, hSl⟩, hmem⟩ := orders_plain hX hR hord
    have hoi : ∀ i ∈ o, i < m := fun i hi => by
      obtain ⟨x, hx, -⟩ := (hmem i).1 hi
      rw [HM.out]; exact (List.getElem?_eq_some_iff.1 hx).1
    have hN24 : N ≤ 24 := by
      have h1 := hord.nodup.length_le_of_subset (l₂ := List.range m) (fun i hi => List.mem_range.2 (hoi i hi))
      rw [List.length_range] at h1
      have := HM16.out; omega
    have hag := fun W (hq : Nw W4 W) => agrees_any Ao N co (natI o) A3 m c3 L W (by omega) (his.nw hq) (fun x hx => by
      obtain ⟨i, hi, rfl⟩ := List.mem_map.1 hx
      have := hoi i hi
      have := HM16.out
      simp [Lit.wf, IntKind.min, IntKind.max, IntKind.bits, IntKind.signed]; omega) (by have := HM16.out; omega) (HIN.out).nc (HIN.out).cap_ ((HIN.out.nw (HN4.out.trans hq)).hl) (fun y hy => (HIN.out.wf y hy).wf)
    rw [hae, hab] at hag
    have HAG := Lib.hid hag
    have hck0 := (wX_ok hX).1
    have hfl : wFin c' cu L = (0, S.l) := by rw [wFin_ok hX, hSl]
    rw [hfl] at HFI
    have hth := cf_thr hck0
    obtain ⟨nt, hnt⟩ : ∃ nt : Nat, c'.thr = nt := ⟨c'.thr.toNat, by omega⟩
    have hn64 : 1 ≤ nt ∧ nt ≤ 64 := by omega
    have HNEW := Lib.hid (fun W (hq : Nw W3 W) => new_yes c' cu nt W (HIN.out.nw hq).rd HIN.out.cn HIN.out.eng hck0 hnt hn64)
    unfold confV at HNEW
    have HS1 := Lib.hid (show s1M c' = ⟨c'.sl, [], List.replicate nt Th0⟩ ∧ 1 ≤ nt ∧ nt ≤ 64 from ⟨by unfold s1M; rw [hnt, Int.toNat_natCast], hn64⟩)
    have HIS := Lib.hid his
    have HNN := Lib.hid hN
    have HRUN := Lib.hid hrun
    have HOI := Lib.hid hoi
    have HN24 := Lib.hid hN24
    have HMEM := Lib.hid (show ∀ i x, L[i]? = some x → (decide (i ∈ o) = decide (0 ≤ x.took)) from fun i x hx => by
      by_cases h0 : 0 ≤ x.took
      · rw [decide_eq_true h0, decide_eq_true ((hmem i).2 ⟨x, hx, h0⟩)]
      · rw [decide_eq_false h0, decide_eq_false]
        rintro hi
        obtain ⟨y, hy, hy0⟩ := (hmem i).1 hi
        rw [hx] at hy; injection hy with hy; subst hy; exact h0 hy0)
    obtain ⟨Q, hQ⟩ : ∃ Q, Q = S.l := ⟨_, rfl⟩
    rw [← hQ] at HFI
    have HQ := Lib.hid hQ
    clear hP hn4 hX hR hck hown hord his hN hae hab hrun hSl hmem hoi hN24 hag hck0 hfl hth hnt hn64 hQ
    go_wp2_with fail
    refine (HCK1.out _ (Nw.trans HN4.out ((by repeat (first | exact Xt.Nw.refl _ | refine Xt.Nw.drew ?_ | refine Xt.Nw.drewN ?_ _ | refine Xt.Nw.alloc ?_ _ | refine Xt.Nw.joined ?_ | refine Xt.Nw.drewd ?_ | refine Xt.Nw.drewdN ?_ | refine Xt.Nw.ext ?_ | refine Xt.Nw.ext_some ?_ (by assumption) | refine Xt.Nw.setCell ?_ (by simp [go_sem] <;> omega) _))))).mono ?_
    rintro e W5 ⟨rfl, hn5⟩
    have HN45 := Lib.hid (show Nw W4 W5 from Nw.trans ((by repeat (first | exact Xt.Nw.refl _ | refine Xt.Nw.drew ?_ | refine Xt.Nw.drewN ?_ _ | refine Xt.Nw.alloc ?_ _ | refine Xt.Nw.joined ?_ | refine Xt.Nw.drewd ?_ | refine Xt.Nw.drewdN ?_ | refine Xt.Nw.ext ?_ | refine Xt.Nw.ext_some ?_ (by assumption) | refine Xt.Nw.setCell ?_ (by simp [go_sem] <;> omega) _))) hn5)
    haveI hca5 : ConfAt W5 b0 c' := hca4.nw HN45.out
    haveI : In b0 W5 := ⟨hca5.lt⟩
    clear hn5
    go_wp2_with fail
    refine (HAG.out _ (HN45.out.trans ((by repeat (first | exact Xt.Nw.refl _ | refine Xt.Nw.drew ?_ | refine Xt.Nw.drewN ?_ _ | refine Xt.Nw.alloc ?_ _ | refine Xt.Nw.joined ?_ | refine Xt.Nw.drewd ?_ | refine Xt.Nw.drewdN ?_ | refine Xt.Nw.ext ?_ | refine Xt.Nw.ext_some ?_ (by assumption) | refine Xt.Nw.setCell ?_ (by simp [go_sem] <;> omega) _))))).mono ?_
    rintro e W6 ⟨rfl, hn6⟩
    have HN46 := Lib.hid (show Nw W4 W6 from HN45.out.trans (Nw.trans ((by repeat (first | exact Xt.Nw.refl _ | refine Xt.Nw.drew ?_ | refine Xt.Nw.drewN ?_ _ | refine Xt.Nw.alloc ?_ _ | refine Xt.Nw.joined ?_ | refine Xt.Nw.drewd ?_ | refine Xt.Nw.drewdN ?_ | refine Xt.Nw.ext ?_ | refine Xt.Nw.ext_some ?_ (by assumption) | refine Xt.Nw.setCell ?_ (by simp [go_sem] <;> omega) _))) hn6))
    have HN36 := Lib.hid (HN4.out.trans HN46.out)
    haveI hca6 : ConfAt W6 b0 c' := hca4.nw HN46.out
    haveI : In b0 W6 := ⟨hca6.lt⟩
    clear hn6
    go_wp2_with fail
    refine (HNEW.out _ (HN36.out.trans ((by repeat (first | exact Xt.Nw.refl _ | refine Xt.Nw.drew ?_ | refine Xt.Nw.drewN ?_ _ | refine Xt.Nw.alloc ?_ _ | refine Xt.Nw.joined ?_ | refine Xt.Nw.drewd ?_ | refine Xt.Nw.drewdN ?_ | refine Xt.Nw.ext ?_ | refine Xt.Nw.ext_some ?_ (by assumption) | refine Xt.Nw.setCell ?_ (by simp [go_sem] <;> omega) _))))).mono ?_
    rintro e W7 ⟨P0, rfl, hm7, hf7, hn7⟩
    have hn67 : Nw W6 W7 := Nw.trans ((by repeat (first | exact Xt.Nw.refl _ | refine Xt.Nw.drew ?_ | refine Xt.Nw.drewN ?_ _ | refine Xt.Nw.alloc ?_ _ | refine Xt.Nw.joined ?_ | refine Xt.Nw.drewd ?_ | refine Xt.Nw.drewdN ?_ | refine Xt.Nw.ext ?_ | refine Xt.Nw.ext_some ?_ (by assumption) | refine Xt.Nw.setCell ?_ (by simp [go_sem] <;> omega) _))) hn7
    have hle7 : W6.heap.size ≤ W7.heap.size := hn67.grown.size
    obtain ⟨gm, hgm⟩ : ∃ g, g = P0.gm := ⟨_, rfl⟩
    rw [← hgm]
    obtain ⟨W8, hmk, hseen, hn78⟩ := make_bools W7 m (by have := HM16.out; omega)
    obtain ⟨gs, hgs⟩ : ∃ g, g = W7.heap.size := ⟨_, rfl⟩
    have hors : OrR W6 c' L o gm gs m 0 W8 := by
      refine ⟨s1M c', P0, ⟨hgm.symm, ?_, ?_, fun g hg => ?_, hn67.trans hn78, ?_, by omega, fun hg => ?_⟩, rfl⟩
      · rw [HS1.out.1]; exact hm7.nw hn78
      · rw [HS1.out.1]; exact ⟨Nat.le_refl _, List.Pairwise.nil, fun _ h => (by cases h), (by simp; have := HS1.out.2; omega), fun x hx => (by rw [List.eq_of_mem_replicate hx]; exact ⟨fun h => (by cases h), fun h => (by cases h), fun h => (by cases h)⟩)⟩
      · exact Nat.le_trans (show W6.heap.size ≤ _ from (show Nw W6 _ from (by repeat (first | exact Xt.Nw.refl _ | refine Xt.Nw.drew ?_ | refine Xt.Nw.drewN ?_ _ | refine Xt.Nw.alloc ?_ _ | refine Xt.Nw.joined ?_ | refine Xt.Nw.drewd ?_ | refine Xt.Nw.drewdN ?_ | refine Xt.Nw.ext ?_ | refine Xt.Nw.ext_some ?_ (by assumption) | refine Xt.Nw.setCell ?_ (by simp [go_sem] <;> omega) _))).grown.size) (hf7 g hg)
      · rw [hgs]; exact hseen.congr (fun i _ => by simp)
      · have := hm7.lt hg; omega
    rw [← hgs] at hmk
    have HOR := Lib.hid hors
    haveI hca8 : ConfAt W8 b0 c' := hca6.nw (hn67.trans hn78)
    haveI : In b0 W8 := ⟨hca8.lt⟩
    clear hm7 hf7 hn7 hn67 hle7 hgm hseen hn78 hgs hors
    go_wp2_with fail
    clear hmk
    go_loopw [15] (fun a wr => ∃ k : Nat, k ≤ N ∧ a = .int .i64 k ∧ Hid (OrR W6 c' L o gm gs m k wr)) (fun a _ => N - (intOf a).toNat)
    case atStart => exact ⟨0, Nat.zero_le _, rfl, HOR⟩
    case round =>
      obtain ⟨k, hk, rfl, hst⟩ := hrel
      obtain ⟨S1, p1, hors, hr1⟩ := hst.out
      haveI hcar : ConfAt wr b0 c' := hca6.nw hors.nw
      haveI : In b0 wr := ⟨hcar.lt⟩
      by_cases hlt : k < N
      · obtain ⟨i, hi⟩ : ∃ i, o[k]? = some i := ⟨_, List.getElem?_eq_getElem (by rw [← HNN.out]; exact hlt)⟩
        obtain ⟨S1', x, S2, hr1', hx, hnx, hr2⟩ := run_cut HRUN.out hi
        obtain rfl : S1 = S1' := by rw [hr1] at hr1'; injection hr1'
        have him := HOI.out i (List.mem_of_getElem? hi)
        obtain ⟨b4, o4, y4, rfl, hb4, hy4, hc4⟩ := (HIS.out.nw (HN46.out.trans hors.nw)).get hlt
        obtain rfl : y4 = (i : Int) := by rw [natI, List.getElem?_map, hi] at hy4; simpa using hy4.symm
        obtain ⟨b, z, x', rfl, hb, hx', hcx⟩ := (HIN.out.nw (HN36.out.trans hors.nw)).hl.get him
        obtain rfl : x = x' := by rw [hx] at hx'; injection hx'
        haveI : In b4 wr := ⟨hb4⟩
        haveI : CallAt wr b (z + i * 18) x := ⟨hcx, hb⟩
        haveI : In b wr := ⟨hb⟩
        have hgsl := hors.seen.lt
        haveI : In gs wr := ⟨hgsl⟩
        have hsc : wr.cell? ⟨gs, i, none⟩ = some (.bool (decide (i ∈ o.take k))) := hors.seen.cell i him
        have hsf := hors.seen.fz i him
        have hwx := HIN.out.wf x (List.mem_of_getElem? hx)
        have i1 : (k : Int) < (N : Int) := by omega
        have i2 : (i : Int) < (m : Int) := by omega
        have i3 : k < 1000000 := by have := HN24.out; omega
        have i4 : i < 1000000 := by have := HM16.out; omega
        have i5 : ¬ (m : Int) ≤ (i : Int) := by omega
        have i6 : decide ((m : Int) ≤ (i : Int)) = false := decide_eq_false i5
        have i7 : decide ((i : Int) < 0) = false := decide_eq_false (by omega)
        have HMK := Lib.hid (fun W (hq : Nw wr W) => ((hors.grow hq).mark him).congr (fun j _ => take_seen hi j))
        have HWX := Lib.hid hwx
        have HNX := Lib.hid hnx
        have HR2 := Lib.hid hr2
        have HORS := Lib.hid hors
        obtain ⟨bk, hbk⟩ : ∃ bk, bk = decide (i ∈ o.take k) := ⟨_, rfl⟩
        rw [← hbk] at hsc
        clear hst hors hr1 hr1' hi hx hnx hr2 him hb4 hy4 hb hx' hcx hwx hbk
        go_upto_region 21 with (fail)
        obtain ⟨Wm, hWm⟩ : ∃ W, W = wr.setCell ⟨gs, i, none⟩ (.bool true) := ⟨_, rfl⟩
        have hszm : wr.heap.size = Wm.heap.size := by rw [hWm]; simp
        rw [← hWm, hszm]
        have hmk := HMK.out wr (Nw.refl _)
        rw [← hWm] at hmk
        have hgm : gm < Wm.heap.size := by have := hmk.at_.im; rw [hmk.gm] at this; exact this
        haveI : In gm Wm := ⟨hgm⟩
        have HORM := Lib.hid hmk
        have hrk := HWX.out.rk
        by_cases ha : x.ans < 0
        · have e2 : (doM S1 x.th (opC x)).2 = S2 := by have h := HNX.out; unfold nextM at h; rw [if_pos ha] at h; injection h
          have hdo : ∀ W, Nw Wm W → Calls Tryz.prog 10 #[.pointer (some ⟨gm, 0, none⟩), .int .i64 x.th, opV (opC x)] W (OrP W6 gm gs m (resV (doM S1 x.th (opC x)).1) S2 (k + 1) (fun j => decide (j ∈ o.take (k + 1)))) := fun W hq => by
            have h := do_OrS (HORM.out.grow hq) (by have := HN24.out; omega) x.th (opC x) HWX.out.op
            rw [e2] at h
            exact h
          unfold opV op7 opC at hdo
          have HDO := Lib.hid hdo
          clear hWm hszm hmk hgm hdo e2 hc4 hsc hsf hgsl hrk
          go_wp2_with fail
          refine (HDO.out _ ((by repeat (first | exact Xt.Nw.refl _ | refine Xt.Nw.drew ?_ | refine Xt.Nw.drewN ?_ _ | refine Xt.Nw.alloc ?_ _ | refine Xt.Nw.joined ?_ | refine Xt.Nw.drewd ?_ | refine Xt.Nw.drewdN ?_ | refine Xt.Nw.ext ?_ | refine Xt.Nw.ext_some ?_ (by assumption) | refine Xt.Nw.setCell ?_ (by simp [go_sem] <;> omega) _)))).mono ?_
          intro e W9 hP
          unfold OrP at hP
          obtain ⟨rfl, p2, h2⟩ := hP
          have H2 := Lib.hid h2
          clear h2
          go_wp2_with fail
          exact ⟨⟨k + 1, by omega, by go_num, Lib.hid ⟨S2, p2, H2.out, HR2.out⟩⟩, by simp [intOf]; omega⟩
        · have e3 : (acceptM S1 x.th (opC x) (rsC x)).1 = true ∧ (acceptM S1 x.th (opC x) (rsC x)).2 = S2 := by
            have h := HNX.out
            unfold nextM at h
            rw [if_neg ha] at h
            split at h
            · rename_i h9; injection h with h; exact ⟨h9, h⟩
            · cases h
          have hac : ∀ W, Nw Wm W → Calls Tryz.prog 15 #[.pointer (some ⟨gm, 0, none⟩), .int .i64 x.th, opV (opC x), resV (rsC x)] W (OrP W6 gm gs m (.bool true) S2 (k + 1) (fun j => decide (j ∈ o.take (k + 1)))) := fun W hq => by
            have h := acc_OrS (HORM.out.grow hq) (by have := HN24.out; omega) x.th (opC x) HWX.out.op (rsC x) HWX.out.rk
            rw [e3.1, e3.2] at h
            exact h
          unfold opV op7 opC resV rsC at hac
          have HAC := Lib.hid hac
          have d9 : decide (x.ans < 0) = false := decide_eq_false ha
          clear hWm hszm hmk hgm hac e3 hc4 hsc hsf hgsl hrk
          go_wp2_with fail
          refine (HAC.out _ ((by repeat (first | exact Xt.Nw.refl _ | refine Xt.Nw.drew ?_ | refine Xt.Nw.drewN ?_ _ | refine Xt.Nw.alloc ?_ _ | refine Xt.Nw.joined ?_ | refine Xt.Nw.drewd ?_ | refine Xt.Nw.drewdN ?_ | refine Xt.Nw.ext ?_ | refine Xt.Nw.ext_some ?_ (by assumption) | refine Xt.Nw.setCell ?_ (by simp [go_sem] <;> omega) _)))).mono ?_
          intro e W9 hP
          unfold OrP at hP
          obtain ⟨rfl, p2, h2⟩ := hP
          have H2 := Lib.hid h2
          clear h2
          go_wp2_with fail
          exact ⟨⟨k + 1, by omega, by go_num, Lib.hid ⟨S2, p2, H2.out, HR2.out⟩⟩, by simp [intOf]; omega⟩
      · obtain rfl : k = N := by omega
        have hS1 : S1 = S := by
          have h := hr1
          rw [List.take_of_length_le (by rw [HNN.out]; exact Nat.le_refl _), HRUN.out] at h
          injection h with h; exact h.symm
        subst hS1
        have HORS := Lib.hid hors
        have i1 : ¬ (k : Int) < (k : Int) := by omega
        obtain ⟨W9, hW9⟩ : ∃ W, W = wr := ⟨_, rfl⟩
        subst hW9
        have hQl : Q.length ≤ 500000 := by rw [HQ.out]; exact Nat.le_trans hors.ok.len (by have := HN24.out; omega)
        have HPA := Lib.hid (fun W (hq : Nw W9 W) => pairs_M W p1 _ (hors.at_.nw hq) (by rw [← HQ.out]; omega))
        rw [hors.gm] at HPA
        rw [← HQ.out] at HPA
        obtain ⟨mq, hmq⟩ : ∃ q, q = Q.length := ⟨_, rfl⟩
        rw [← hmq] at HPA hQl
        have HMQ := Lib.hid hmq
        have HQL := Lib.hid hQl
        have HIN9 := Lib.hid (HIN.out.nw (HN36.out.trans hors.nw))
        have HN39 := Lib.hid (HN36.out.trans hors.nw)
        clear hst hors hr1 hQl hmq
        go_wp2_with fail
        go_loopw [17] (fun a w2 => ∃ j : Nat, j ≤ m ∧ a = .int .i64 j ∧ Nw W9 w2) (fun a _ => m - (intOf a).toNat)
        case atStart => exact ⟨0, Nat.zero_le _, rfl, Nw.refl _⟩
        case round =>
          obtain ⟨j, hj, rfl, hn9⟩ := hrel
          haveI hcaz : ConfAt wr b0 c' := hcar.nw hn9
          haveI : In b0 wr := ⟨hcaz.lt⟩
          by_cases hjm : j < m
          · obtain ⟨b, z, x, rfl, hb, hx, hcx⟩ := (HIN9.out.nw hn9).hl.get hjm
            haveI : CallAt wr b (z + j * 18) x := ⟨hcx, hb⟩
            haveI : In b wr := ⟨hb⟩
            have hs9 := HORS.out.seen.nw hn9
            haveI : In gs wr := ⟨hs9.lt⟩
            have hsc0 := hs9.cell j hjm
            rw [List.take_of_length_le (by rw [HNN.out]; exact Nat.le_refl _), HMEM.out j x hx] at hsc0
            obtain ⟨_, _, _, _, _, _, _, _, _, _, c10, _⟩ := hcx
            have j1 : (j : Int) < (m : Int) := by omega
            have j2 : (0 : Int) ≤ (j : Int) := by omega
            have j3 : j < 1000000 := by have := HM16.out; omega
            have HN9 := Lib.hid hn9
            by_cases h0 : 0 ≤ x.took
            · have d1 : decide (0 ≤ x.took) = true := decide_eq_true h0
              have hsc : wr.cell? ⟨gs, j, none⟩ = some (.bool true) := by rw [hsc0, d1]
              clear hn9 hx hs9 hsc0
              go_upto_region 28 with (fail)
              (refine wp_region_nw (by kernel_rfl) (by kernel_rfl) ?_; (repeat (go_big_quiet_step (fail))); refine wpQuiet_nil ?_; intro _ hreg; obtain ⟨dW, rfl⟩ : Nw _ _ := hreg)
              go_wp2_with fail
              exact ⟨⟨j + 1, by omega, by go_num, HN9.out.trans ((by repeat (first | exact Xt.Nw.refl _ | refine Xt.Nw.drew ?_ | refine Xt.Nw.drewN ?_ _ | refine Xt.Nw.alloc ?_ _ | refine Xt.Nw.joined ?_ | refine Xt.Nw.drewd ?_ | refine Xt.Nw.drewdN ?_ | refine Xt.Nw.ext ?_ | refine Xt.Nw.ext_some ?_ (by assumption) | refine Xt.Nw.setCell ?_ (by simp [go_sem] <;> omega) _)))⟩, by simp [intOf]; omega⟩
            · have d1 : decide (0 ≤ x.took) = false := decide_eq_false h0
              have hsc : wr.cell? ⟨gs, j, none⟩ = some (.bool false) := by rw [hsc0, d1]
              clear hn9 hx hs9 hsc0
              go_upto_region 28 with (fail)
              (refine wp_region_nw (by kernel_rfl) (by kernel_rfl) ?_; (repeat (go_big_quiet_step (fail))); refine wpQuiet_nil ?_; intro _ hreg; obtain ⟨dW, rfl⟩ : Nw _ _ := hreg)
              go_wp2_with fail
              exact ⟨⟨j + 1, by omega, by go_num, HN9.out.trans ((by repeat (first | exact Xt.Nw.refl _ | refine Xt.Nw.drew ?_ | refine Xt.Nw.drewN ?_ _ | refine Xt.Nw.alloc ?_ _ | refine Xt.Nw.joined ?_ | refine Xt.Nw.drewd ?_ | refine Xt.Nw.drewdN ?_ | refine Xt.Nw.ext ?_ | refine Xt.Nw.ext_some ?_ (by assumption) | refine Xt.Nw.setCell ?_ (by simp [go_sem] <;> omega) _)))⟩, by simp [intOf]; omega⟩
          · obtain rfl : j = m := by omega
            have j1 : ¬ (j : Int) < (j : Int) := by omega
            have HN9 := Lib.hid hn9
            clear hn9
            go_wp2_with fail
            refine (HFI.out _ (HN39.out.trans (HN9.out.trans ((by repeat (first | exact Xt.Nw.refl _ | refine Xt.Nw.drew ?_ | refine Xt.Nw.drewN ?_ _ | refine Xt.Nw.alloc ?_ _ | refine Xt.Nw.joined ?_ | refine Xt.Nw.drewd ?_ | refine Xt.Nw.drewdN ?_ | refine Xt.Nw.ext ?_ | refine Xt.Nw.ext_some ?_ (by assumption) | refine Xt.Nw.setCell ?_ (by simp [go_sem] <;> omega) _)))))).mono ?_
            intro e WA hP
            unfold PairsP at hP
            obtain ⟨v, rfl, hown, hnA, -⟩ := hP
            obtain ⟨A5, c5, rfl⟩ := own_slice hown
            have hrd5 := own_rd hown
            rw [show ((0 : Int), Q).2.length = mq from HMQ.out.symm] at hrd5
            have HR5 := Lib.hid hrd5
            have HNA := Lib.hid (show Nw W9 WA from HN9.out.trans (Nw.trans ((by repeat (first | exact Xt.Nw.refl _ | refine Xt.Nw.drew ?_ | refine Xt.Nw.drewN ?_ _ | refine Xt.Nw.alloc ?_ _ | refine Xt.Nw.joined ?_ | refine Xt.Nw.drewd ?_ | refine Xt.Nw.drewdN ?_ | refine Xt.Nw.ext ?_ | refine Xt.Nw.ext_some ?_ (by assumption) | refine Xt.Nw.setCell ?_ (by simp [go_sem] <;> omega) _))) hnA))
            rw [show ((0 : Int), Q).2.length = mq from HMQ.out.symm]
            clear hown hnA hrd5
            go_wp2_with fail
            refine (HPA.out _ (Nw.trans HNA.out ((by repeat (first | exact Xt.Nw.refl _ | refine Xt.Nw.drew ?_ | refine Xt.Nw.drewN ?_ _ | refine Xt.Nw.alloc ?_ _ | refine Xt.Nw.joined ?_ | refine Xt.Nw.drewd ?_ | refine Xt.Nw.drewdN ?_ | refine Xt.Nw.ext ?_ | refine Xt.Nw.ext_some ?_ (by assumption) | refine Xt.Nw.setCell ?_ (by simp [go_sem] <;> omega) _))))).mono ?_
            rintro e WB ⟨v, rfl, hown, hnB⟩
            obtain ⟨A6, c6, rfl⟩ := own_slice hown
            have HR6 := Lib.hid (own_rd hown)
            have HEQ := Lib.hid (fun W (hq : Nw WB W) => eqPairs_any A5 A6 mq mq c5 c6 Q Q W (HR5.out.nw (Nw.trans (Nw.trans ((by repeat (first | exact Xt.Nw.refl _ | refine Xt.Nw.drew ?_ | refine Xt.Nw.drewN ?_ _ | refine Xt.Nw.alloc ?_ _ | refine Xt.Nw.joined ?_ | refine Xt.Nw.drewd ?_ | refine Xt.Nw.drewdN ?_ | refine Xt.Nw.ext ?_ | refine Xt.Nw.ext_some ?_ (by assumption) | refine Xt.Nw.setCell ?_ (by simp [go_sem] <;> omega) _))) hnB) hq)) (HR6.out.nw hq) (by have := HQL.out; omega) (by have := HQL.out; omega))
            simp only [decide_true] at HEQ
            have HNB := Lib.hid (show Nw W9 WB from Nw.trans HNA.out (Nw.trans ((by repeat (first | exact Xt.Nw.refl _ | refine Xt.Nw.drew ?_ | refine Xt.Nw.drewN ?_ _ | refine Xt.Nw.alloc ?_ _ | refine Xt.Nw.joined ?_ | refine Xt.Nw.drewd ?_ | refine Xt.Nw.drewdN ?_ | refine Xt.Nw.ext ?_ | refine Xt.Nw.ext_some ?_ (by assumption) | refine Xt.Nw.setCell ?_ (by simp [go_sem] <;> omega) _))) hnB))
            clear hown hnB
            go_wp2_with fail
            refine (HEQ.out _ ((by repeat (first | exact Xt.Nw.refl _ | refine Xt.Nw.drew ?_ | refine Xt.Nw.drewN ?_ _ | refine Xt.Nw.alloc ?_ _ | refine Xt.Nw.joined ?_ | refine Xt.Nw.drewd ?_ | refine Xt.Nw.drewdN ?_ | refine Xt.Nw.ext ?_ | refine Xt.Nw.ext_some ?_ (by assumption) | refine Xt.Nw.setCell ?_ (by simp [go_sem] <;> omega) _)))).mono ?_
            rintro e WC ⟨rfl, hnC⟩
            have HNC := Lib.hid (show Nw W3 WC from HN39.out.trans (Nw.trans HNB.out (Nw.trans ((by repeat (first | exact Xt.Nw.refl _ | refine Xt.Nw.drew ?_ | refine Xt.Nw.drewN ?_ _ | refine Xt.Nw.alloc ?_ _ | refine Xt.Nw.joined ?_ | refine Xt.Nw.drewd ?_ | refine Xt.Nw.drewdN ?_ | refine Xt.Nw.ext ?_ | refine Xt.Nw.ext_some ?_ (by assumption) | refine Xt.Nw.setCell ?_ (by simp [go_sem] <;> omega) _))) hnC)))
            clear hnC
            go_wp2_with fail
            refine (HAW.out _ (Nw.trans HNC.out ((by repeat (first | exact Xt.Nw.refl _ | refine Xt.Nw.drew ?_ | refine Xt.Nw.drewN ?_ _ | refine Xt.Nw.alloc ?_ _ | refine Xt.Nw.joined ?_ | refine Xt.Nw.drewd ?_ | refine Xt.Nw.drewdN ?_ | refine Xt.Nw.ext ?_ | refine Xt.Nw.ext_some ?_ (by assumption) | refine Xt.Nw.setCell ?_ (by simp [go_sem] <;> omega) _))))).mono ?_
            rintro e W6 ⟨rfl, hn6⟩
            have HN6 := Lib.hid (HN3.out.trans (Nw.trans (Nw.trans HNC.out ((by repeat (first | exact Xt.Nw.refl _ | refine Xt.Nw.drew ?_ | refine Xt.Nw.drewN ?_ _ | refine Xt.Nw.alloc ?_ _ | refine Xt.Nw.joined ?_ | refine Xt.Nw.drewd ?_ | refine Xt.Nw.drewdN ?_ | refine Xt.Nw.ext ?_ | refine Xt.Nw.ext_some ?_ (by assumption) | refine Xt.Nw.setCell ?_ (by simp [go_sem] <;> omega) _)))) hn6))
            clear hn6
            go_wp2
            go_ret
            exact ⟨rfl, HN6.out⟩
end Go.Proofs.YtfnapkfdocabcaaGreat
