import Derived.Test.YtmbjpjpdcmjjgaaGreatDoorGLi0
import Derived.Deep.RegionHeld3
set_option linter.unusedVariables false
set_option linter.unusedSimpArgs false
set_option linter.unnecessarySimpa false
namespace Go.Proofs.YtmbjpjpdcmjjgaaGreatDoor
open Go.RowKit Go.Xt
/-! The law LinearWitness. -/
set_option maxRecDepth 20000 in
set_option maxHeartbeats 8000000 in
theorem witness_M (c : Cf) (cuts : List Nat) (A : Option Addr) (n cap : Nat) (l : List Cl) (w : World) (hF : FmtAt w) (hr : Rd w 1 c.cA cuts.length (nums cuts)) (hcn : c.cn = cuts.length) (he : 0 ≤ c.eng ∧ c.eng < 256) (hcm : c.cc ≤ maxLen) (hcc : c.cn ≤ c.cc) (hnc : n ≤ cap) (hc : cap ≤ 9223372036854775807) (hl : Cs w A n l) (hw : ∀ y ∈ l, WfX y) :
    Calls Tryz.prog 4 #[confV c, .slice A n cap] w fun e w' => e = .returned (.bool true) ∧ Nw w w' := by
  obtain ⟨b0, hb0⟩ : ∃ b, b = w.heap.size := ⟨_, rfl⟩
  obtain ⟨W0, hW0⟩ : ∃ W, W = w.alloc (cellsOf c 27) := ⟨_, rfl⟩
  have hn0 : Nw w W0 := by rw [hW0]; exact (Nw.refl w).alloc _
  haveI hca : ConfAt W0 b0 c := by rw [hW0]; exact ⟨fun i v hv => by unfold cellsOf; unfold ccells at hv; rw [hb0, World.cell?_alloc_new]; simpa using hv, by rw [hb0]; simp⟩
  have hbx : BoxAt W0 b0 := by rw [hW0, hb0]; exact ConfAt.box
  have HSM := Lib.hid (small_any c cuts W0 hcn hcc hcm (Rd.nw hr hn0))
  have HFE := Lib.hid (fun W (hq : Nw w W) => few10_any A n cap l W hnc hc (hl.nw hq))
  have HW := Lib.hid hw
  have HF := Lib.hid hF
  have HEN := Lib.hid he
  have HCN := Lib.hid hcn
  unfold cellsOf at hW0
  have HW0 := Lib.hid hW0
  have HN0 := Lib.hid hn0
  have HB0 := Lib.hid hb0
  have HBX := Lib.hid hbx
  unfold confV at HSM ⊢
  haveI : In b0 W0 := ⟨hca.lt⟩
  clear hb0 hW0 hn0 hbx hF hr hcn he hcm hcc hl hw
  go_enter Tryz.func4, Tryz.ntmps4
  go_upto_region 1 with (fail)
  rw [← HW0.out, ← HB0.out]
  go_wp2_with fail
  refine HSM.out.mono ?_
  rintro e W1 ⟨c', rfl, hc', hrd, hap, hn1⟩
  have hbx1 := HBX.out.nw hn1
  have hst := run_storeConf (c := c') hbx1
  unfold confV at hst
  obtain ⟨W2, hW2⟩ : ∃ W, W = putConf W1 b0 c' := ⟨_, rfl⟩
  have hcf : ConfAt W2 b0 c' := by rw [hW2]; exact putConf_at hbx1
  have hch : Chg [b0] W1 W2 := by rw [hW2]; exact putConf_chg W1 b0 c'
  rw [← hW2] at hst
  have hn2 : Nw w W2 := nw_chg2 (HN0.out.trans hn1) hch (fun k hk => by have := HB0.out; simp at hk; omega)
  have hrd2 : Rd W2 1 c'.cA (cuts.take 70).length (nums (cuts.take 70)) := by
    rw [hW2]
    exact rd_chg hrd (putConf_chg W1 b0 c') (fun b o e => by have := hap b o e; have := HBX.out.lt; simp; omega)
  haveI : In b0 W1 := ⟨hbx1.lt⟩
  haveI := hcf
  haveI : In b0 W2 := ⟨hcf.lt⟩
  have HN2 := Lib.hid hn2
  have HRD := Lib.hid hrd2
  have HC' := Lib.hid hc'
  clear hW2 hch hn2 hrd hrd2 hn1 hbx1 hc' hap
  go_wp2_with fail
  refine (HFE.out W2 HN2.out).mono ?_
  rintro e W3 ⟨v, rfl, hown, hn3⟩
  obtain ⟨A3, c3, rfl, hcs, hle, hcm3, -⟩ := hown.form
  obtain ⟨L, hL⟩ : ∃ L, L = l.take 10 := ⟨_, rfl⟩
  rw [← hL] at hown hcs hle ⊢
  obtain ⟨m, hm⟩ : ∃ m, m = L.length := ⟨_, rfl⟩
  rw [← hm] at hown hcs hle ⊢
  have hm7 : m ≤ 10 := by rw [hm, hL, List.length_take]; omega
  have hwl : ∀ y ∈ L, WfX y := fun y hy => HW.out y (List.mem_of_mem_take (hL ▸ hy))
  have hin : In2 W3 c' (cuts.take 70) A3 m c3 L := ⟨HRD.out.nw hn3, by rw [HC'.out, List.length_take, ← HCN.out]; exact Nat.min_comm _ _, by rw [HC'.out]; exact HEN.out, by omega, hle, hcm3, hcs, hwl, fun b o e => (hown.lt b (by rw [e]; rfl)).2⟩
  haveI hca3 : ConfAt W3 b0 c' := hcf.nw hn3
  haveI : In b0 W3 := ⟨hca3.lt⟩
  have HIN := Lib.hid hin
  have HN3 := Lib.hid (HN2.out.trans hn3)
  have HM7 := Lib.hid hm7
  have HM := Lib.hid hm
  obtain ⟨cu, hcu⟩ : ∃ cu, cu = cuts.take 70 := ⟨_, rfl⟩
  rw [← hcu] at HIN
  have HAW := Lib.hid (fun W (hq : Nw W3 W) => awake_any W (HF.out.nw (HN3.out.trans hq)))
  have hmc : (m : Int) ≤ (c3 : Int) := by omega
  clear hown hcs hle hcm3 hL hm hwl hin hm7 hn3 hcu hst HRD HC' HFE HSM hcf
  have HOD := Lib.hid (fun W (hq : Nw W3 W) => worder_any (HIN.out.nw hq).in3 (by have := HM7.out; omega))
  unfold confV at HOD
  go_wp2_with fail
  refine (HOD.out _ (nwa)).mono ?_
  intro e W4 hP
  obtain ⟨hn4, hcase⟩ := ord_two hP
  haveI hca4 : ConfAt W4 b0 c' := hca3.nw (Nw.trans (nwa) hn4)
  haveI : In b0 W4 := ⟨hca4.lt⟩
  have HN4 := Lib.hid (show Nw W3 W4 from Nw.trans (nwa) hn4)
  rcases hcase with ⟨er, her, rfl⟩ | ⟨out, v, od, hX, hR, rfl, hown, hord⟩
  · have hne : (er != 0) = true := by simpa using her
    clear hP hn4 her
    go_wp2_with fail
    refine (HAW.out _ (Nw.trans HN4.out (nwa))).mono ?_
    rintro e W9 ⟨rfl, hn9⟩
    have HN9 := Lib.hid (HN3.out.trans (Nw.trans (Nw.trans HN4.out (nwa)) hn9))
    clear hn9
    go_wp2
    go_ret
    exact ⟨rfl, HN9.out⟩
  · obtain ⟨Ao, co, rfl, his⟩ := hown.form
    rw [natI_len] at his ⊢
    have hv := wit_valid hX hR hord (by rw [← HM.out]; exact HM7.out)
    have hoi : ∀ i ∈ od, i < m := fun i hi => by
      obtain ⟨x, hx, -⟩ := hord.mem.1 hi
      rw [HM.out]; exact (List.getElem?_eq_some_iff.1 hx).1
    obtain ⟨N, hN⟩ : ∃ N, N = od.length := ⟨_, rfl⟩
    rw [← hN] at his ⊢
    have hN10 : N ≤ 10 := by
      have h1 := hord.nodup.length_le_of_subset (l₂ := List.range m) (fun i hi => List.mem_range.2 (hoi i hi))
      rw [List.length_range] at h1
      have := HM7.out; omega
    have hvo := fun W (hq : Nw W4 W) => validL_any (oc := co) (HIN.out.nw (HN4.out.trans hq)) (by omega) (his.nw hq) (fun x hx => by
      obtain ⟨i, hi, rfl⟩ := List.mem_map.1 hx
      have := hoi i hi
      have := HM7.out
      exact wf_natL (by omega))
    unfold ValidP at hvo
    rw [hv] at hvo
    unfold confV at hvo
    have HVO := Lib.hid hvo
    clear hP hn4 hX hR hown hord his hv hoi hN hN10 hvo
    go_wp2_with fail
    refine (HVO.out _ (nwa)).mono ?_
    rintro e W5 ⟨rfl, hn5⟩
    have HN5 := Lib.hid (show Nw W3 W5 from HN4.out.trans (Nw.trans (nwa) hn5))
    clear hn5
    go_wp2_with fail
    refine (HAW.out _ (Nw.trans HN5.out (nwa))).mono ?_
    rintro e W9 ⟨rfl, hn9⟩
    have HN9 := Lib.hid (HN3.out.trans (Nw.trans (Nw.trans HN5.out (nwa)) hn9))
    clear hn9
    go_wp2
    go_ret
    exact ⟨rfl, HN9.out⟩
end Go.Proofs.YtmbjpjpdcmjjgaaGreatDoor
