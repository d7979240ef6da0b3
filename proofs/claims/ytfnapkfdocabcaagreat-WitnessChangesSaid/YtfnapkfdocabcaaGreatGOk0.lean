import Derived.Test.YtfnapkfdocabcaaGreatGOi
import Derived.Test.YtfnapkfdocabcaaGreatGOj
import Derived.Deep.RegionHeld3
set_option linter.unusedVariables false
set_option linter.unusedSimpArgs false
set_option linter.unnecessarySimpa false
namespace Go.Proofs.YtfnapkfdocabcaaGreat
open Go.RowKit Go.Xt
/-! The pairs whose key is another one. -/
theorem wo_take {k : Int} {l : List (Int × Int)} {i : Nat} {x : Int × Int} (hx : l[i]? = some x) : woL k (l.take (i + 1)) = woL k (l.take i) ++ if x.1 = k then [] else [x] := by
  unfold woL
  rw [ftake _ hx]
  by_cases h : x.1 = k <;> simp [h]
theorem pcells_app1 (l : List (Int × Int)) (a b : Int) : pcells (l ++ [(a, b)]) = pcells l ++ [.int .u64 a, .int .u64 b] := by simp [pcells]
set_option maxRecDepth 20000 in
set_option maxHeartbeats 4000000 in
theorem without_any (A : Option Addr) (n c : Nat) (l : List (Int × Int)) (k : Int) (w : World) (ha : Rd w 2 A n (pcells l)) (hn : n ≤ 500000) :
    Calls Tryz.prog 19 #[.slice A n c, .int .u64 k] w fun e w' => ∃ v, e = .returned v ∧ w'.ownsRow w.heap.size 80 2 v (woL k l).length (pcells (woL k l)) ∧ Nw w w' := by
  have hln : l.length = n := by have := ha.1; rw [pcells_len] at this; omega
  have HA := Lib.hid ha
  have HL := Lib.hid hln
  have HN := Lib.hid hn
  clear ha hln hn
  go_enter Tryz.func19, Tryz.ntmps19
  go_wp2_with fail
  go_loopw [5, 6] (fun r a wr => ∃ i : Nat, i ≤ n ∧ a = .int .i64 i ∧ Nw w wr ∧ ∃ (Ar : Option Addr) (nr cr : Nat), r = .slice Ar nr cr ∧ Hid (nr = (woL k (l.take i)).length ∧ wr.ownsRow w.heap.size 80 2 (.slice Ar nr cr) nr (pcells (woL k (l.take i))))) (fun _ a _ => n - (intOf a).toNat)
  case atStart => exact ⟨0, Nat.zero_le _, rfl, (by repeat (first | exact Xt.Nw.refl _ | refine Xt.Nw.drew ?_ | refine Xt.Nw.drewN ?_ _ | refine Xt.Nw.alloc ?_ _ | refine Xt.Nw.joined ?_ | refine Xt.Nw.drewd ?_ | refine Xt.Nw.drewdN ?_ | refine Xt.Nw.ext ?_ | refine Xt.Nw.ext_some ?_ (by assumption) | refine Xt.Nw.setCell ?_ (by simp [go_sem] <;> omega) _)), none, 0, 0, rfl, Lib.hid ⟨rfl, World.ownsRow_nil _ _ _ _⟩⟩
  case round =>
    obtain ⟨i, hi, rfl, ⟨d, rfl⟩, Ar, nr, cr, rfl, hst⟩ := hrel
    by_cases hlt : i < n
    · obtain ⟨ga, oa, rfl, hga, hca⟩ := HA.out.2 (by omega)
      haveI : In ga w := ⟨hga⟩
      obtain ⟨⟨x1, x2⟩, hx⟩ : ∃ x, l[i]? = some x := ⟨_, List.getElem?_eq_getElem (by have := HL.out; omega)⟩
      obtain ⟨g0, g1⟩ := pcells_get l i _ hx
      have a0 : w.cell? ⟨ga, oa + i * 2, none⟩ = some (.int .u64 x1) := hca _ _ g0
      have a1 : w.cell? ⟨ga, oa + i * 2 + 1, none⟩ = some (.int .u64 x2) := by have := hca _ _ g1; rw [← Nat.add_assoc] at this; exact this
      have HT := Lib.hid (wo_take (k := k) hx)
      have i1 : (i : Int) < (n : Int) := by omega
      have i2 : i < 1000000 := by have := HN.out; omega
      have HNR := Lib.hid (show nr ≤ 500000 by rw [hst.out.1]; have h1 : (woL k (l.take i)).length ≤ i := Nat.le_trans (List.length_filter_le _ _) (by rw [List.length_take]; omega); have := HN.out; omega)
      clear hx g0 g1 hca
      by_cases he : x1 = k
      · have hd : (x1 != k) = false := by simpa using he
        have HE := Lib.hid he
        clear he
        go_wp2
        refine ⟨⟨i + 1, by omega, by go_num, (by repeat (first | exact Xt.Nw.refl _ | refine Xt.Nw.drew ?_ | refine Xt.Nw.drewN ?_ _ | refine Xt.Nw.alloc ?_ _ | refine Xt.Nw.joined ?_ | refine Xt.Nw.drewd ?_ | refine Xt.Nw.drewdN ?_ | refine Xt.Nw.ext ?_ | refine Xt.Nw.ext_some ?_ (by assumption) | refine Xt.Nw.setCell ?_ (by simp [go_sem] <;> omega) _)), _, _, _, by first | exact ⟨rfl, rfl, rfl⟩ | rfl, Lib.hid ?_⟩, by simp [intOf]; omega⟩
        rw [HT.out, if_pos HE.out, List.append_nil]
        exact ⟨hst.out.1, own_nw hst.out.2 (by repeat (first | exact Xt.Nw.refl _ | refine Xt.Nw.drew ?_ | refine Xt.Nw.drewN ?_ _ | refine Xt.Nw.alloc ?_ _ | refine Xt.Nw.joined ?_ | refine Xt.Nw.drewd ?_ | refine Xt.Nw.drewdN ?_ | refine Xt.Nw.ext ?_ | refine Xt.Nw.ext_some ?_ (by assumption) | refine Xt.Nw.setCell ?_ (by simp [go_sem] <;> omega) _))⟩
      · have hd : (x1 != k) = true := by simpa using he
        have HE := Lib.hid he
        clear he
        go_wp2_with (at_builtin; refine wpList_app1 rfl _ _ 49 rfl 80 (.agg #[.int .u64 0, .int .u64 0]) 2 16 Tryz.underlying49 pairInfo rfl (by decide) w _ (by repeat (first | exact Xt.Nw.refl _ | refine Xt.Nw.drew ?_ | refine Xt.Nw.drewN ?_ _ | refine Xt.Nw.alloc ?_ _ | refine Xt.Nw.joined ?_ | refine Xt.Nw.drewd ?_ | refine Xt.Nw.drewdN ?_ | refine Xt.Nw.ext ?_ | refine Xt.Nw.ext_some ?_ (by assumption) | refine Xt.Nw.setCell ?_ (by simp [go_sem] <;> omega) _)) (.slice Ar nr cr) nr _ rfl (own_nw hst.out.2 (by repeat (first | exact Xt.Nw.refl _ | refine Xt.Nw.drew ?_ | refine Xt.Nw.drewN ?_ _ | refine Xt.Nw.alloc ?_ _ | refine Xt.Nw.joined ?_ | refine Xt.Nw.drewd ?_ | refine Xt.Nw.drewdN ?_ | refine Xt.Nw.ext ?_ | refine Xt.Nw.ext_some ?_ (by assumption) | refine Xt.Nw.setCell ?_ (by simp [go_sem] <;> omega) _))) _ 1 1 _ [.int .u64 x1, .int .u64 x2] rfl rfl rfl (by intro u hu; simp at hu; rcases hu with rfl | rfl <;> rfl) (by unfold maxLen; have := HNR.out; omega) (by have := HNR.out; omega) ?_; intro vA dA hownA; obtain ⟨A2, c2, hv2⟩ := own_slice hownA; subst hv2; have HA2 := Lib.hid hownA; clear hownA)
        refine ⟨⟨i + 1, by omega, by go_num, (by repeat (first | exact Xt.Nw.refl _ | refine Xt.Nw.drew ?_ | refine Xt.Nw.drewN ?_ _ | refine Xt.Nw.alloc ?_ _ | refine Xt.Nw.joined ?_ | refine Xt.Nw.drewd ?_ | refine Xt.Nw.drewdN ?_ | refine Xt.Nw.ext ?_ | refine Xt.Nw.ext_some ?_ (by assumption) | refine Xt.Nw.setCell ?_ (by simp [go_sem] <;> omega) _)), _, _, _, by first | exact ⟨rfl, rfl, rfl⟩ | rfl, Lib.hid ?_⟩, by simp [intOf]; omega⟩
        rw [HT.out, if_neg HE.out]
        exact ⟨by rw [List.length_append, hst.out.1]; rfl, by rw [pcells_app1]; exact own_nw HA2.out (by repeat (first | exact Xt.Nw.refl _ | refine Xt.Nw.drew ?_ | refine Xt.Nw.drewN ?_ _ | refine Xt.Nw.alloc ?_ _ | refine Xt.Nw.joined ?_ | refine Xt.Nw.drewd ?_ | refine Xt.Nw.drewdN ?_ | refine Xt.Nw.ext ?_ | refine Xt.Nw.ext_some ?_ (by assumption) | refine Xt.Nw.setCell ?_ (by simp [go_sem] <;> omega) _))⟩
    · have hkn : i = n := by omega
      subst hkn
      have HE := Lib.hid (show woL k (l.take i) = woL k l by rw [List.take_of_length_le (by rw [HL.out]; exact Nat.le_refl _)])
      go_wp2
      refine bodyPost_ret (results_tmp rfl _ _ _) rfl ⟨.slice Ar nr cr, rfl, ?_, (by repeat (first | exact Xt.Nw.refl _ | refine Xt.Nw.drew ?_ | refine Xt.Nw.drewN ?_ _ | refine Xt.Nw.alloc ?_ _ | refine Xt.Nw.joined ?_ | refine Xt.Nw.drewd ?_ | refine Xt.Nw.drewdN ?_ | refine Xt.Nw.ext ?_ | refine Xt.Nw.ext_some ?_ (by assumption) | refine Xt.Nw.setCell ?_ (by simp [go_sem] <;> omega) _))⟩
      have h := hst.out.2
      rw [hst.out.1, HE.out] at h
      have h1 := hst.out.1
      rw [HE.out] at h1
      rw [h1]
      exact own_nw h (by repeat (first | exact Xt.Nw.refl _ | refine Xt.Nw.drew ?_ | refine Xt.Nw.drewN ?_ _ | refine Xt.Nw.alloc ?_ _ | refine Xt.Nw.joined ?_ | refine Xt.Nw.drewd ?_ | refine Xt.Nw.drewdN ?_ | refine Xt.Nw.ext ?_ | refine Xt.Nw.ext_some ?_ (by assumption) | refine Xt.Nw.setCell ?_ (by simp [go_sem] <;> omega) _))
end Go.Proofs.YtfnapkfdocabcaaGreat
namespace Go.Proofs.YtfnapkfdocabcaaGreat
open Go.RowKit Go.Xt
/-! The law WitnessChanges. -/
theorem box_cells {W3 W4 : World} {q : Nat} {x : Cl} (hn : Nw W3 W4) [h : CallAt W3 q 0 x] : W4.cell? ⟨q, 2, none⟩ = some (.int .u8 x.kd) ∧ W4.cell? ⟨q, 3, none⟩ = some (.int .u64 x.ka) ∧ W4.cell? ⟨q, 10, none⟩ = some (.int .i64 x.took) := by
  obtain ⟨_, _, c2, c3, _, _, _, _, _, _, c10, _⟩ := h.at_
  exact ⟨cell_nw (by simpa using c2) hn, cell_nw (by simpa using c3) hn, cell_nw (by simpa using c10) hn⟩
/-- What the law's loop needs of one of its calls. -/
structure ChgF (L : List Cl) (c : Cf) (cu : List Nat) (k i : Nat) (x : Cl) (B N : List (Int × Int)) : Prop where
  took : 0 ≤ x.took
  tmax : x.took ≤ 9223372036854775807
  il : i < L.length
  kd : 0 ≤ x.kd ∧ x.kd < 256
  now : wAt c cu x.took L = (0, N)
  last : wAt c cu (x.took - 1) L = (0, B)
  still : ¬ (4 ≤ x.kd ∧ x.kd ≤ 9) → N = B
  point : 4 ≤ x.kd ∧ x.kd ≤ 7 → woL x.ka N = woL x.ka B
theorem chgF {c : Cf} {cuts : List Nat} {l : List Cl} {o2 : List Sta} (h : wX c cuts l = .ok o2) (hwf : ∀ y ∈ l, WfX y) {k i : Nat} (hi : (effL l)[k]? = some i) :
    ∃ x, l[i]? = some x ∧ ChgF l c cuts k i x (seqF l (effL l) (s1M c) k).l (seqF l (effL l) (s1M c) (k + 1)).l := by
  have hb := (wX_ok h).2.1
  obtain ⟨x, hx, h0⟩ := ((effL_is hb).2 i).1 (List.mem_of_getElem? hi)
  obtain ⟨a1, a2, a3⟩ := at_seq h hi hx
  have hw := hwf x (List.mem_of_getElem? hx)
  exact ⟨x, hx, h0, hw.wf.took.2, (List.getElem?_eq_some_iff.1 hx).1, hw.op.k, by rw [wAt_ok h (by omega), a1], by rw [wAt_ok h (by omega), a2], fun hk => fits_still a3 hk, fun hk => fits_point a3 hk⟩
set_option maxRecDepth 20000 in
set_option maxHeartbeats 8000000 in
theorem changes_M (c : Cf) (cuts : List Nat) (A : Option Addr) (n cap : Nat) (l : List Cl) (w : World) (hr : Rd w 1 c.cA cuts.length (nums cuts)) (hcn : c.cn = cuts.length) (he : 0 ≤ c.eng ∧ c.eng < 256) (hcm : c.cc ≤ maxLen) (hcc : c.cn ≤ c.cc) (hnc : n ≤ cap) (hc : cap ≤ 9223372036854775807) (hl : Cs w A n l) (hw : ∀ y ∈ l, WfX y) :
    Calls Tryz.prog 4 #[confV c, .slice A n cap] w fun e w' => e = .returned (.bool true) ∧ Nw w w' := by
  obtain ⟨b0, hb0⟩ : ∃ b, b = w.heap.size := ⟨_, rfl⟩
  obtain ⟨W0, hW0⟩ : ∃ W, W = w.alloc (cellsOf c 27) := ⟨_, rfl⟩
  have hn0 : Nw w W0 := by rw [hW0]; exact (Nw.refl w).alloc _
  haveI hca : ConfAt W0 b0 c := by rw [hW0]; exact ⟨fun i v hv => by unfold cellsOf; unfold ccells at hv; rw [hb0, World.cell?_alloc_new]; simpa using hv, by rw [hb0]; simp⟩
  have hbx : BoxAt W0 b0 := by rw [hW0, hb0]; exact ConfAt.box
  have HSM := Lib.hid (small_any c cuts W0 hcn hcc hcm (Rd.nw hr hn0))
  obtain ⟨nq, hnq⟩ : ∃ k, k = min n 16 := ⟨_, rfl⟩
  have hmin : min (n : Int) 16 = (nq : Int) := by omega
  have hnqc : nq ≤ cap := by omega
  have hlq : Cs w A nq (l.take 16) := by
    rcases Nat.le_total n 16 with h | h
    · rw [List.take_of_length_le (by rw [hl.1]; exact h), show nq = n by omega]; exact hl
    · rw [show nq = 16 by omega]; exact hl.take h
  have HFE := Lib.hid (fun W (hq : Nw w W) => few24_any A nq cap (l.take 16) W hnqc hc (hlq.nw hq))
  have HW := Lib.hid hw
  have HEN := Lib.hid he
  have HCN := Lib.hid hcn
  unfold cellsOf at hW0
  have HW0 := Lib.hid hW0
  have HN0 := Lib.hid hn0
  have HB0 := Lib.hid hb0
  have HBX := Lib.hid hbx
  unfold confV at HSM ⊢
  haveI : In b0 W0 := ⟨hca.lt⟩
  clear hlq hnq hb0 hW0 hn0 hbx hr hcn he hcm hcc hl hw
  go_enter Tryz.func4, Tryz.ntmps4
  go_upto_region 1 with (fail)
  rw [← HW0.out, ← HB0.out]
  go_wp2_with fail
  refine HSM.out.mono ?_
  rintro e W1 ⟨c', rfl, hc', hrd, hap, hn1⟩
  have hbx1 := HBX.out.nw hn1
  have hst := run_storeConf (c := c') hbx1
  unfold confV at hst
  obtain ⟨W2, hW2⟩ : ∃ W, W = putConf W1 b0 c' := ⟨_, rfl⟩
  have hcf : ConfAt W2 b0 c' := by rw [hW2]; exact putConf_at hbx1
  have hch : Chg [b0] W1 W2 := by rw [hW2]; exact putConf_chg W1 b0 c'
  rw [← hW2] at hst
  have hn2 : Nw w W2 := nw_chg2 (HN0.out.trans hn1) hch (fun k hk => by have := HB0.out; simp at hk; omega)
  have hrd2 : Rd W2 1 c'.cA (cuts.take 70).length (nums (cuts.take 70)) := by
    rw [hW2]
    exact rd_chg hrd (putConf_chg W1 b0 c') (fun b o e => by have := hap b o e; have := HBX.out.lt; simp; omega)
  haveI : In b0 W1 := ⟨hbx1.lt⟩
  haveI := hcf
  haveI : In b0 W2 := ⟨hcf.lt⟩
  have HN2 := Lib.hid hn2
  have HRD := Lib.hid hrd2
  have HC' := Lib.hid hc'
  clear hW2 hch hn2 hrd hrd2 hn1 hbx1 hc' hap
  go_wp2_with fail
  refine (HFE.out W2 HN2.out).mono ?_
  rintro e W3 ⟨v, rfl, hown, hn3⟩
  obtain ⟨A3, c3, rfl, hcs, hle, hcm3, hfz⟩ := hown.form
  obtain ⟨L, hL⟩ : ∃ L, L = (l.take 16).take 24 := ⟨_, rfl⟩
  rw [← hL] at hown hcs hle ⊢
  obtain ⟨m, hm⟩ : ∃ m, m = L.length := ⟨_, rfl⟩
  rw [← hm] at hown hcs hle ⊢
  have hm16 : m ≤ 16 := by rw [hm, hL]; simp only [List.length_take]; omega
  have hwl : ∀ y ∈ L, WfX y := fun y hy => HW.out y (List.mem_of_mem_take (List.mem_of_mem_take (hL ▸ hy)))
  have hin : In3 W3 c' (cuts.take 70) A3 m c3 L := ⟨HRD.out.nw hn3, by rw [HC'.out, List.length_take, ← HCN.out]; exact Nat.min_comm _ _, by rw [HC'.out]; exact HEN.out, by omega, hle, hcm3, hcs, hwl⟩
  haveI hca3 : ConfAt W3 b0 c' := hcf.nw hn3
  haveI : In b0 W3 := ⟨hca3.lt⟩
  have HIN := Lib.hid hin
  have HN3 := Lib.hid (HN2.out.trans hn3)
  have HM16 := Lib.hid hm16
  have HM := Lib.hid hm
  obtain ⟨cu, hcu⟩ : ∃ cu, cu = cuts.take 70 := ⟨_, rfl⟩
  rw [← hcu] at HIN
  have HAW := Lib.hid (fun W (hq : Nw W3 W) => awake_any W)
  have hmc : (m : Int) ≤ (c3 : Int) := by omega
  clear hown hcs hle hcm3 hfz hL hm hwl hin hm16 hn3 hcu hst HRD HC' HFE HSM hcf
  have HEF := Lib.hid (fun W (hq : Nw W3 W) => effects_any A3 m c3 L W (by have := HM16.out; omega) (HIN.out.nw hq).nc (HIN.out.nw hq).cap_ (HIN.out.nw hq).hl (fun y hy => (HIN.out.wf y hy).wf))
  have HAT := Lib.hid (fun W (hq : Nw W3 W) (s : Int) => wat_any (HIN.out.nw hq) s)
  have HFI := Lib.hid (fun W (hq : Nw W3 W) => wfinal_any (HIN.out.nw hq))
  unfold confV at HAT HFI
  go_wp2_with fail
  refine (HEF.out _ ((by repeat (first | exact Xt.Nw.refl _ | refine Xt.Nw.drew ?_ | refine Xt.Nw.drewN ?_ _ | refine Xt.Nw.alloc ?_ _ | refine Xt.Nw.joined ?_ | refine Xt.Nw.drewd ?_ | refine Xt.Nw.drewdN ?_ | refine Xt.Nw.ext ?_ | refine Xt.Nw.ext_some ?_ (by assumption) | refine Xt.Nw.setCell ?_ (by simp [go_sem] <;> omega) _)))).mono ?_
  rintro e W4 ⟨v, ys, rfl, hys, hown, hn4⟩
  haveI hca4 : ConfAt W4 b0 c' := hca3.nw hn4
  haveI : In b0 W4 := ⟨hca4.lt⟩
  obtain ⟨A4, c4, rfl, his⟩ := own_is hown
  rw [natI_len] at his ⊢
  obtain ⟨N, hN⟩ : ∃ N, N = ys.length := ⟨_, rfl⟩
  rw [← hN] at his ⊢
  have HIS := Lib.hid his
  have HN4 := Lib.hid hn4
  have HYS := Lib.hid hys
  have HNN := Lib.hid hN
  obtain ⟨eE, heE⟩ : ∃ z, z = chkE L := ⟨_, rfl⟩
  rw [← heE]
  have HEE := Lib.hid heE
  clear hown hn4 his hys hN heE
  cases hX : wX c' cu L with
  | error z =>
    have hne : (z.2 != 0) = true := by simpa using wX_err hX
    have hat : wAt c' cu (-1) L = (z.2, []) := by unfold wAt; rw [hX]
    have HA1 := Lib.hid (fun W (hq : Nw W3 W) => HAT.out W hq (-1))
    rw [hat] at HA1
    obtain ⟨ef, hef⟩ : ∃ q, q = z.2 := ⟨_, rfl⟩
    rw [← hef] at HA1 hne
    clear hat hX hef
    go_wp2_with fail
    refine (HA1.out _ (Nw.trans HN4.out ((by repeat (first | exact Xt.Nw.refl _ | refine Xt.Nw.drew ?_ | refine Xt.Nw.drewN ?_ _ | refine Xt.Nw.alloc ?_ _ | refine Xt.Nw.joined ?_ | refine Xt.Nw.drewd ?_ | refine Xt.Nw.drewdN ?_ | refine Xt.Nw.ext ?_ | refine Xt.Nw.ext_some ?_ (by assumption) | refine Xt.Nw.setCell ?_ (by simp [go_sem] <;> omega) _))))).mono ?_
    intro e W5 hP
    unfold PairsP at hP
    obtain ⟨v, rfl, hown, hn5, -⟩ := hP
    obtain ⟨A5, c5, rfl⟩ := own_slice hown
    have HN5 := Lib.hid (Nw.trans HN4.out (Nw.trans ((by repeat (first | exact Xt.Nw.refl _ | refine Xt.Nw.drew ?_ | refine Xt.Nw.drewN ?_ _ | refine Xt.Nw.alloc ?_ _ | refine Xt.Nw.joined ?_ | refine Xt.Nw.drewd ?_ | refine Xt.Nw.drewdN ?_ | refine Xt.Nw.ext ?_ | refine Xt.Nw.ext_some ?_ (by assumption) | refine Xt.Nw.setCell ?_ (by simp [go_sem] <;> omega) _))) hn5))
    clear hown hn5
    simp only [List.length_nil]
    by_cases hE : eE = 0
    · subst hE
      go_wp2_with fail
      refine (HAW.out _ (Nw.trans HN5.out ((by repeat (first | exact Xt.Nw.refl _ | refine Xt.Nw.drew ?_ | refine Xt.Nw.drewN ?_ _ | refine Xt.Nw.alloc ?_ _ | refine Xt.Nw.joined ?_ | refine Xt.Nw.drewd ?_ | refine Xt.Nw.drewdN ?_ | refine Xt.Nw.ext ?_ | refine Xt.Nw.ext_some ?_ (by assumption) | refine Xt.Nw.setCell ?_ (by simp [go_sem] <;> omega) _))))).mono ?_
      rintro e W6 ⟨rfl, hn6⟩
      have HN6 := Lib.hid (HN3.out.trans (Nw.trans (Nw.trans HN5.out ((by repeat (first | exact Xt.Nw.refl _ | refine Xt.Nw.drew ?_ | refine Xt.Nw.drewN ?_ _ | refine Xt.Nw.alloc ?_ _ | refine Xt.Nw.joined ?_ | refine Xt.Nw.drewd ?_ | refine Xt.Nw.drewdN ?_ | refine Xt.Nw.ext ?_ | refine Xt.Nw.ext_some ?_ (by assumption) | refine Xt.Nw.setCell ?_ (by simp [go_sem] <;> omega) _)))) hn6))
      clear hn6
      go_wp2
      go_ret
      exact ⟨rfl, HN6.out⟩
    · have hne2 : (eE != 0) = true := by simpa using hE
      go_wp2_with fail
      refine (HAW.out _ (Nw.trans HN5.out ((by repeat (first | exact Xt.Nw.refl _ | refine Xt.Nw.drew ?_ | refine Xt.Nw.drewN ?_ _ | refine Xt.Nw.alloc ?_ _ | refine Xt.Nw.joined ?_ | refine Xt.Nw.drewd ?_ | refine Xt.Nw.drewdN ?_ | refine Xt.Nw.ext ?_ | refine Xt.Nw.ext_some ?_ (by assumption) | refine Xt.Nw.setCell ?_ (by simp [go_sem] <;> omega) _))))).mono ?_
      rintro e W6 ⟨rfl, hn6⟩
      have HN6 := Lib.hid (HN3.out.trans (Nw.trans (Nw.trans HN5.out ((by repeat (first | exact Xt.Nw.refl _ | refine Xt.Nw.drew ?_ | refine Xt.Nw.drewN ?_ _ | refine Xt.Nw.alloc ?_ _ | refine Xt.Nw.joined ?_ | refine Xt.Nw.drewd ?_ | refine Xt.Nw.drewdN ?_ | refine Xt.Nw.ext ?_ | refine Xt.Nw.ext_some ?_ (by assumption) | refine Xt.Nw.setCell ?_ (by simp [go_sem] <;> omega) _)))) hn6))
      clear hn6
      go_wp2
      go_ret
      exact ⟨rfl, HN6.out⟩
  | ok o2 =>
    have hb := (wX_ok hX).2.1
    obtain rfl : eE = 0 := by rw [HEE.out]; unfold chkE; rw [if_pos hb]
    have hyo : ys = effL L := (HYS.out.1 hb).unique (effL_is hb)
    have hat : wAt c' cu (-1) L = (0, []) := by rw [wAt_ok hX (by omega), at_minus hX]
    have HA1 := Lib.hid (fun W (hq : Nw W3 W) => HAT.out W hq (-1))
    rw [hat] at HA1
    obtain ⟨B, hB⟩ : ∃ B : Nat → List (Int × Int), B = fun k => (seqF L (effL L) (s1M c') k).l := ⟨_, rfl⟩
    have hfin : wFin c' cu L = (0, B N) := by rw [wFin_ok hX, (fin_seq hX).1, hB, HNN.out, hyo]
    rw [hfin] at HFI
    have HST := Lib.hid (show ∀ k i, ys[k]? = some i → ∃ x, L[i]? = some x ∧ ChgF L c' cu k i x (B k) (B (k + 1)) from fun k i hi => by rw [hB]; exact chgF hX HIN.out.wf (hyo ▸ hi))
    have HB0' := Lib.hid (show B 0 = [] by rw [hB]; cases effL L <;> rfl)
    have HNL := Lib.hid (show N ≤ 16 by rw [HNN.out, hyo]; have := (effL_is hb).len; have := HM.out; have := HM16.out; omega)
    clear hb hyo hat hB hfin hX
    go_wp2_with fail
    refine (HA1.out _ (Nw.trans HN4.out ((by repeat (first | exact Xt.Nw.refl _ | refine Xt.Nw.drew ?_ | refine Xt.Nw.drewN ?_ _ | refine Xt.Nw.alloc ?_ _ | refine Xt.Nw.joined ?_ | refine Xt.Nw.drewd ?_ | refine Xt.Nw.drewdN ?_ | refine Xt.Nw.ext ?_ | refine Xt.Nw.ext_some ?_ (by assumption) | refine Xt.Nw.setCell ?_ (by simp [go_sem] <;> omega) _))))).mono ?_
    intro e W5 hP
    unfold PairsP at hP
    obtain ⟨v, rfl, hown, hn5, -⟩ := hP
    obtain ⟨A5, c5, rfl⟩ := own_slice hown
    have HR5 := Lib.hid (own_rd hown)
    haveI hca5 : ConfAt W5 b0 c' := hca4.nw (Nw.trans ((by repeat (first | exact Xt.Nw.refl _ | refine Xt.Nw.drew ?_ | refine Xt.Nw.drewN ?_ _ | refine Xt.Nw.alloc ?_ _ | refine Xt.Nw.joined ?_ | refine Xt.Nw.drewd ?_ | refine Xt.Nw.drewdN ?_ | refine Xt.Nw.ext ?_ | refine Xt.Nw.ext_some ?_ (by assumption) | refine Xt.Nw.setCell ?_ (by simp [go_sem] <;> omega) _))) hn5)
    haveI : In b0 W5 := ⟨hca5.lt⟩
    have HN45 := Lib.hid (show Nw W4 W5 from Nw.trans ((by repeat (first | exact Xt.Nw.refl _ | refine Xt.Nw.drew ?_ | refine Xt.Nw.drewN ?_ _ | refine Xt.Nw.alloc ?_ _ | refine Xt.Nw.joined ?_ | refine Xt.Nw.drewd ?_ | refine Xt.Nw.drewdN ?_ | refine Xt.Nw.ext ?_ | refine Xt.Nw.ext_some ?_ (by assumption) | refine Xt.Nw.setCell ?_ (by simp [go_sem] <;> omega) _))) hn5)
    have HN5 := Lib.hid (HN4.out.trans HN45.out)
    have HIS5 := Lib.hid (HIS.out.nw HN45.out)
    have HIN5 := Lib.hid (HIN.out.nw HN5.out)
    clear hown hn5
    simp only [List.length_nil] at HR5 ⊢
    go_wp2_with fail
    go_loopw [8, 10] (fun r a wr => ∃ k : Nat, k ≤ N ∧ a = .int .i64 k ∧ Nw W5 wr ∧ ∃ (Ab : Option Addr) (nb cb : Nat), r = .slice Ab nb cb ∧ Hid (Rd wr 2 Ab nb (pcells (B k)) ∧ nb = (B k).length ∧ nb ≤ 500000)) (fun _ a _ => N - (intOf a).toNat)
    case atStart => exact ⟨0, Nat.zero_le _, rfl, (by repeat (first | exact Xt.Nw.refl _ | refine Xt.Nw.drew ?_ | refine Xt.Nw.drewN ?_ _ | refine Xt.Nw.alloc ?_ _ | refine Xt.Nw.joined ?_ | refine Xt.Nw.drewd ?_ | refine Xt.Nw.drewdN ?_ | refine Xt.Nw.ext ?_ | refine Xt.Nw.ext_some ?_ (by assumption) | refine Xt.Nw.setCell ?_ (by simp [go_sem] <;> omega) _)), _, 0, _, by first | exact ⟨rfl, rfl, rfl⟩ | rfl, Lib.hid ⟨by rw [HB0'.out]; exact HR5.out.nw ((by repeat (first | exact Xt.Nw.refl _ | refine Xt.Nw.drew ?_ | refine Xt.Nw.drewN ?_ _ | refine Xt.Nw.alloc ?_ _ | refine Xt.Nw.joined ?_ | refine Xt.Nw.drewd ?_ | refine Xt.Nw.drewdN ?_ | refine Xt.Nw.ext ?_ | refine Xt.Nw.ext_some ?_ (by assumption) | refine Xt.Nw.setCell ?_ (by simp [go_sem] <;> omega) _))), by rw [HB0'.out]; rfl, Nat.zero_le _⟩⟩
    case round =>
      obtain ⟨k, hk, rfl, hnr, Ab, nb, cb, rfl, hst⟩ := hrel
      haveI hcar : ConfAt wr b0 c' := hca5.nw hnr
      haveI : In b0 wr := ⟨hcar.lt⟩
      have HNR := Lib.hid hnr
      by_cases hlt : k < N
      · obtain ⟨i, hi⟩ : ∃ i, ys[k]? = some i := ⟨_, List.getElem?_eq_getElem (by rw [← HNN.out]; exact hlt)⟩
        obtain ⟨x, hx, hF⟩ := HST.out k i hi
        obtain ⟨b4, o4, y4, rfl, hb4, hy4, hc4⟩ := HIS5.out.get hlt
        obtain rfl : y4 = (i : Int) := by rw [natI, List.getElem?_map, hi] at hy4; simpa using hy4.symm
        have hil := hF.il
        rw [← HM.out] at hil
        obtain ⟨b, o, x', rfl, hb, hx', hcx⟩ := HIN5.out.hl.get hil
        obtain rfl : x = x' := by rw [hx] at hx'; injection hx'
        have hc4r := cell_nw hc4 hnr
        haveI : In b4 wr := ⟨World.block_lt_of_cell? wr _ hc4r⟩
        haveI hcall0 : CallAt W5 b (o + i * 18) x := ⟨hcx, hb⟩
        obtain ⟨dr, hdr⟩ := hnr
        haveI hcall : CallAt wr b (o + i * 18) x := by rw [hdr]; infer_instance
        haveI : In b wr := ⟨hcall.lt⟩
        have HF := Lib.hid hF
        have HNOW := Lib.hid (fun W (hq : Nw W3 W) => HAT.out W hq x.took)
        have HLAST := Lib.hid (fun W (hq : Nw W3 W) => HAT.out W hq (x.took - 1))
        rw [hF.now] at HNOW
        rw [hF.last] at HLAST
        have hw1 : IntKind.i64.wrap (x.took - 1) = x.took - 1 := by have := hF.took; have := hF.tmax; rw [IntKind.wrap_i64]; omega
        have i1 : (k : Int) < (N : Int) := by omega
        have i2 : (i : Int) < (m : Int) := by omega
        have i3 : k < 1000000 := by have := HNL.out; omega
        have i4 : i < 1000000 := by have := HM16.out; omega
        obtain ⟨P, hP⟩ : ∃ P, P = B k := ⟨_, rfl⟩
        obtain ⟨Q, hQ⟩ : ∃ Q, Q = B (k + 1) := ⟨_, rfl⟩
        rw [← hP] at HLAST hst
        rw [← hQ] at HNOW
        have HPE := Lib.hid hP
        have HQE := Lib.hid hQ
        have HST1 := Lib.hid (show ¬ (4 ≤ x.kd ∧ x.kd ≤ 9) → Q = P from fun h => by rw [hP, hQ]; exact hF.still h)
        have HPT := Lib.hid (show 4 ≤ x.kd ∧ x.kd ≤ 7 → woL x.ka Q = woL x.ka P from fun h => by rw [hP, hQ]; exact hF.point h)
        have hkd := hF.kd
        clear hi hx hF hb4 hy4 hc4 hil hb hx' hcx hcall0 hdr dr hP hQ
        go_wp2_with fail
        refine (HNOW.out _ (HN5.out.trans (HNR.out.trans ((by repeat (first | exact Xt.Nw.refl _ | refine Xt.Nw.drew ?_ | refine Xt.Nw.drewN ?_ _ | refine Xt.Nw.alloc ?_ _ | refine Xt.Nw.joined ?_ | refine Xt.Nw.drewd ?_ | refine Xt.Nw.drewdN ?_ | refine Xt.Nw.ext ?_ | refine Xt.Nw.ext_some ?_ (by assumption) | refine Xt.Nw.setCell ?_ (by simp [go_sem] <;> omega) _)))))).mono ?_
        intro e W7 hP
        unfold PairsP at hP
        obtain ⟨v, rfl, hown, hn7, hlen7⟩ := hP
        obtain ⟨A7, c7, rfl⟩ := own_slice hown
        have HR7 := Lib.hid (own_rd hown)
        obtain ⟨m7, hm7⟩ : ∃ q, q = ((0 : Int), Q).2.length := ⟨_, rfl⟩
        rw [← hm7] at HR7 hlen7 ⊢
        have HL7 := Lib.hid hlen7
        have HM7 := Lib.hid (show m7 = Q.length from hm7)
        clear hown hlen7 hm7
        have hbc := box_cells (q := wr.heap.size) (x := x) hn7
        haveI hca7 : ConfAt W7 b0 c' := hcar.nw (Nw.trans ((by repeat (first | exact Xt.Nw.refl _ | refine Xt.Nw.drew ?_ | refine Xt.Nw.drewN ?_ _ | refine Xt.Nw.alloc ?_ _ | refine Xt.Nw.joined ?_ | refine Xt.Nw.drewd ?_ | refine Xt.Nw.drewdN ?_ | refine Xt.Nw.ext ?_ | refine Xt.Nw.ext_some ?_ (by assumption) | refine Xt.Nw.setCell ?_ (by simp [go_sem] <;> omega) _))) hn7)
        haveI : In b0 W7 := ⟨hca7.lt⟩
        obtain ⟨j2, j3, j10⟩ := hbc
        haveI : In wr.heap.size W7 := ⟨World.block_lt_of_cell? W7 _ j10⟩
        have HN7 := Lib.hid (HNR.out.trans (Nw.trans ((by repeat (first | exact Xt.Nw.refl _ | refine Xt.Nw.drew ?_ | refine Xt.Nw.drewN ?_ _ | refine Xt.Nw.alloc ?_ _ | refine Xt.Nw.joined ?_ | refine Xt.Nw.drewd ?_ | refine Xt.Nw.drewdN ?_ | refine Xt.Nw.ext ?_ | refine Xt.Nw.ext_some ?_ (by assumption) | refine Xt.Nw.setCell ?_ (by simp [go_sem] <;> omega) _))) hn7))
        have HB7 := Lib.hid (hst.out.1.nw (Nw.trans ((by repeat (first | exact Xt.Nw.refl _ | refine Xt.Nw.drew ?_ | refine Xt.Nw.drewN ?_ _ | refine Xt.Nw.alloc ?_ _ | refine Xt.Nw.joined ?_ | refine Xt.Nw.drewd ?_ | refine Xt.Nw.drewdN ?_ | refine Xt.Nw.ext ?_ | refine Xt.Nw.ext_some ?_ (by assumption) | refine Xt.Nw.setCell ?_ (by simp [go_sem] <;> omega) _))) hn7))
        clear hn7
        go_wp2_with fail
        refine (HLAST.out _ (HN5.out.trans (HN7.out.trans ((by repeat (first | exact Xt.Nw.refl _ | refine Xt.Nw.drew ?_ | refine Xt.Nw.drewN ?_ _ | refine Xt.Nw.alloc ?_ _ | refine Xt.Nw.joined ?_ | refine Xt.Nw.drewd ?_ | refine Xt.Nw.drewdN ?_ | refine Xt.Nw.ext ?_ | refine Xt.Nw.ext_some ?_ (by assumption) | refine Xt.Nw.setCell ?_ (by simp [go_sem] <;> omega) _)))))).mono ?_
        intro e W8 hP
        unfold PairsP at hP
        obtain ⟨v, rfl, hown, hn8, hlen8⟩ := hP
        obtain ⟨A8, c8, rfl⟩ := own_slice hown
        have HR8 := Lib.hid (own_rd hown)
        obtain ⟨m8, hm8⟩ : ∃ q, q = ((0 : Int), P).2.length := ⟨_, rfl⟩
        rw [← hm8] at HR8 hlen8 ⊢
        have HL8 := Lib.hid hlen8
        have HM8 := Lib.hid (show m8 = P.length from hm8)
        clear hown hlen8 hm8
        have k2 := cell_nw j2 hn8
        have k3 := cell_nw j3 hn8
        haveI : In wr.heap.size W8 := ⟨World.block_lt_of_cell? W8 _ k2⟩
        have HN8 := Lib.hid (HN7.out.trans (Nw.trans ((by repeat (first | exact Xt.Nw.refl _ | refine Xt.Nw.drew ?_ | refine Xt.Nw.drewN ?_ _ | refine Xt.Nw.alloc ?_ _ | refine Xt.Nw.joined ?_ | refine Xt.Nw.drewd ?_ | refine Xt.Nw.drewdN ?_ | refine Xt.Nw.ext ?_ | refine Xt.Nw.ext_some ?_ (by assumption) | refine Xt.Nw.setCell ?_ (by simp [go_sem] <;> omega) _))) hn8))
        have HB8 := Lib.hid (HB7.out.nw (Nw.trans ((by repeat (first | exact Xt.Nw.refl _ | refine Xt.Nw.drew ?_ | refine Xt.Nw.drewN ?_ _ | refine Xt.Nw.alloc ?_ _ | refine Xt.Nw.joined ?_ | refine Xt.Nw.drewd ?_ | refine Xt.Nw.drewdN ?_ | refine Xt.Nw.ext ?_ | refine Xt.Nw.ext_some ?_ (by assumption) | refine Xt.Nw.setCell ?_ (by simp [go_sem] <;> omega) _))) hn8))
        have HR78 := Lib.hid (HR7.out.nw (Nw.trans ((by repeat (first | exact Xt.Nw.refl _ | refine Xt.Nw.drew ?_ | refine Xt.Nw.drewN ?_ _ | refine Xt.Nw.alloc ?_ _ | refine Xt.Nw.joined ?_ | refine Xt.Nw.drewd ?_ | refine Xt.Nw.drewdN ?_ | refine Xt.Nw.ext ?_ | refine Xt.Nw.ext_some ?_ (by assumption) | refine Xt.Nw.setCell ?_ (by simp [go_sem] <;> omega) _))) hn8))
        have HLB := Lib.hid hst.out.2
        clear hn8 j2 j3 j10
        have HEQ1 := Lib.hid (fun W (hq : Nw W8 W) => eqPairs_any A8 Ab m8 nb c8 cb P P W (HR8.out.nw hq) (HB8.out.nw hq) (by have := HL8.out; omega) (by have := HLB.out.2; omega))
        simp only [decide_true] at HEQ1
        go_wp2_with fail
        refine (HEQ1.out _ ((by repeat (first | exact Xt.Nw.refl _ | refine Xt.Nw.drew ?_ | refine Xt.Nw.drewN ?_ _ | refine Xt.Nw.alloc ?_ _ | refine Xt.Nw.joined ?_ | refine Xt.Nw.drewd ?_ | refine Xt.Nw.drewdN ?_ | refine Xt.Nw.ext ?_ | refine Xt.Nw.ext_some ?_ (by assumption) | refine Xt.Nw.setCell ?_ (by simp [go_sem] <;> omega) _)))).mono ?_
        rintro e W9 ⟨rfl, hn9⟩
        have l2 := cell_nw k2 (Nw.trans ((by repeat (first | exact Xt.Nw.refl _ | refine Xt.Nw.drew ?_ | refine Xt.Nw.drewN ?_ _ | refine Xt.Nw.alloc ?_ _ | refine Xt.Nw.joined ?_ | refine Xt.Nw.drewd ?_ | refine Xt.Nw.drewdN ?_ | refine Xt.Nw.ext ?_ | refine Xt.Nw.ext_some ?_ (by assumption) | refine Xt.Nw.setCell ?_ (by simp [go_sem] <;> omega) _))) hn9)
        have l3 := cell_nw k3 (Nw.trans ((by repeat (first | exact Xt.Nw.refl _ | refine Xt.Nw.drew ?_ | refine Xt.Nw.drewN ?_ _ | refine Xt.Nw.alloc ?_ _ | refine Xt.Nw.joined ?_ | refine Xt.Nw.drewd ?_ | refine Xt.Nw.drewdN ?_ | refine Xt.Nw.ext ?_ | refine Xt.Nw.ext_some ?_ (by assumption) | refine Xt.Nw.setCell ?_ (by simp [go_sem] <;> omega) _))) hn9)
        haveI : In wr.heap.size W9 := ⟨World.block_lt_of_cell? W9 _ l2⟩
        have HN89 := Lib.hid (show Nw W8 W9 from Nw.trans ((by repeat (first | exact Xt.Nw.refl _ | refine Xt.Nw.drew ?_ | refine Xt.Nw.drewN ?_ _ | refine Xt.Nw.alloc ?_ _ | refine Xt.Nw.joined ?_ | refine Xt.Nw.drewd ?_ | refine Xt.Nw.drewdN ?_ | refine Xt.Nw.ext ?_ | refine Xt.Nw.ext_some ?_ (by assumption) | refine Xt.Nw.setCell ?_ (by simp [go_sem] <;> omega) _))) hn9)
        have HN9 := Lib.hid (HN8.out.trans HN89.out)
        clear hn9 k2 k3
        have HNX := Lib.hid (show ∀ W, Nw W9 W → Rd W 2 A7 m7 (pcells (B (k + 1))) ∧ m7 = (B (k + 1)).length ∧ m7 ≤ 500000 from fun W hq => ⟨by rw [← HQE.out]; exact HR78.out.nw (HN89.out.trans hq), by rw [← HQE.out]; exact HM7.out, HL7.out⟩)
        by_cases hp : 4 ≤ x.kd ∧ x.kd ≤ 7
        · have d1 : (4 : Int) ≤ x.kd := hp.1
          have d2 : x.kd ≤ 7 := hp.2
          have HWP := Lib.hid (HPT.out hp)
          have HW1 := Lib.hid (fun W (hq : Nw W9 W) => without_any A7 m7 c7 Q x.ka W (HR78.out.nw (HN89.out.trans hq)) HL7.out)
          have HW2 := Lib.hid (fun W (hq : Nw W9 W) => without_any A8 m8 c8 P x.ka W (HR8.out.nw (HN89.out.trans hq)) HL8.out)
          clear hp
          obtain ⟨V, hV⟩ : ∃ V, V = woL x.ka Q := ⟨_, rfl⟩
          have hVl : V.length ≤ 500000 := by
            rw [hV]
            have h1 := HM7.out
            have h2 := HL7.out
            exact Nat.le_trans (List.length_filter_le _ _) (by omega)
          have HVQ := Lib.hid hV.symm
          have HVP := Lib.hid (show woL x.ka P = V by rw [hV]; exact HWP.out.symm)
          clear HW1 HW2
          have HVL := Lib.hid hVl
          clear hV hVl HPT
          have HLT := Lib.hid hlt
          have HI3 := Lib.hid i3
          go_upto_region 22 with (fail)
          try clear l2
          try clear i1
          try clear i2
          try clear i3
          try clear i4
          try clear hw1
          try clear hmc
          try clear hnqc
          try clear hmin
          try clear hc4r
          try clear hkd
          try clear d1
          try clear d2
          try clear hk
          try clear hlt
          try clear hca4
          try clear hca5
          try clear hcar
          try clear hca7
          try clear hca3
          try clear hca
          try clear hcall
          try clear HN78
          try clear hlq
          try clear HNW
          go_region_held3 (fun wq => wq.cell? ⟨wr.heap.size, 3, none⟩ = some (.int .u64 x.ka)) (first | exact cell_nw l3 (by (repeat (first | exact Xt.Nw.refl _ | assumption | refine Xt.Nw.drew ?_ | refine Xt.Nw.drewN ?_ _ | refine Xt.Nw.alloc ?_ _ | refine Xt.Nw.ext ?_))) | exact cell_nw l3a (by (repeat (first | exact Xt.Nw.refl _ | assumption | refine Xt.Nw.drew ?_ | refine Xt.Nw.drewN ?_ _ | refine Xt.Nw.alloc ?_ _ | refine Xt.Nw.ext ?_))) | exact cell_nw l3b (by (repeat (first | exact Xt.Nw.refl _ | assumption | refine Xt.Nw.drew ?_ | refine Xt.Nw.drewN ?_ _ | refine Xt.Nw.alloc ?_ _ | refine Xt.Nw.ext ?_))))
            (first
              | (go_at_call 19; have hq := HNA; refine (without_any _ _ _ _ x.ka _ (by first | exact HR78.out.nw (HN89.out.trans (by (repeat (first | exact Xt.Nw.refl _ | assumption | refine Xt.Nw.drew ?_ | refine Xt.Nw.drewN ?_ _ | refine Xt.Nw.alloc ?_ _ | refine Xt.Nw.ext ?_)))) | exact HR8.out.nw (HN89.out.trans (Nw.trans HNA.out (by (repeat (first | exact Xt.Nw.refl _ | assumption | refine Xt.Nw.drew ?_ | refine Xt.Nw.drewN ?_ _ | refine Xt.Nw.alloc ?_ _ | refine Xt.Nw.ext ?_)))))) (by first | exact HL7.out | exact HL8.out)).mono ?_; rintro e w2 ⟨vb, rfl, hownB, hnB⟩; obtain ⟨Ab2, cb2, rfl⟩ := own_slice hownB; rw [HVP.out] at hownB ⊢; have l3b := cell_nw l3a (Nw.trans (by (repeat (first | exact Xt.Nw.refl _ | assumption | refine Xt.Nw.drew ?_ | refine Xt.Nw.drewN ?_ _ | refine Xt.Nw.alloc ?_ _ | refine Xt.Nw.ext ?_))) hnB); haveI : In wr.heap.size w2 := ⟨World.block_lt_of_cell? w2 _ l3b⟩; have HRB := Lib.hid (own_rd hownB); have HRA2 := Lib.hid (HRA.out.nw (Nw.trans (by (repeat (first | exact Xt.Nw.refl _ | assumption | refine Xt.Nw.drew ?_ | refine Xt.Nw.drewN ?_ _ | refine Xt.Nw.alloc ?_ _ | refine Xt.Nw.ext ?_))) hnB)); have HNB := Lib.hid (HNA.out.trans (Nw.trans (by (repeat (first | exact Xt.Nw.refl _ | assumption | refine Xt.Nw.drew ?_ | refine Xt.Nw.drewN ?_ _ | refine Xt.Nw.alloc ?_ _ | refine Xt.Nw.ext ?_))) hnB)); clear hownB hnB)
              | (go_at_call 19; refine (without_any _ _ _ _ x.ka _ (HR78.out.nw (HN89.out.trans (by (repeat (first | exact Xt.Nw.refl _ | assumption | refine Xt.Nw.drew ?_ | refine Xt.Nw.drewN ?_ _ | refine Xt.Nw.alloc ?_ _ | refine Xt.Nw.ext ?_))))) HL7.out).mono ?_; rintro e w1 ⟨va, rfl, hownA, hnA⟩; obtain ⟨Aa, ca, rfl⟩ := own_slice hownA; rw [HVQ.out] at hownA ⊢; have l3a := cell_nw l3 (Nw.trans (by (repeat (first | exact Xt.Nw.refl _ | assumption | refine Xt.Nw.drew ?_ | refine Xt.Nw.drewN ?_ _ | refine Xt.Nw.alloc ?_ _ | refine Xt.Nw.ext ?_))) hnA); haveI : In wr.heap.size w1 := ⟨World.block_lt_of_cell? w1 _ l3a⟩; have HRA := Lib.hid (own_rd hownA); have HNA := Lib.hid (show Nw W9 w1 from Nw.trans (by (repeat (first | exact Xt.Nw.refl _ | assumption | refine Xt.Nw.drew ?_ | refine Xt.Nw.drewN ?_ _ | refine Xt.Nw.alloc ?_ _ | refine Xt.Nw.ext ?_))) hnA); clear hownA hnA)
              | (go_at_call 13; refine Calls.mono (eqPairs_any _ _ _ _ _ _ V V _ (HRA2.out.nw (by (repeat (first | exact Xt.Nw.refl _ | assumption | refine Xt.Nw.drew ?_ | refine Xt.Nw.drewN ?_ _ | refine Xt.Nw.alloc ?_ _ | refine Xt.Nw.ext ?_)))) (HRB.out.nw (by (repeat (first | exact Xt.Nw.refl _ | assumption | refine Xt.Nw.drew ?_ | refine Xt.Nw.drewN ?_ _ | refine Xt.Nw.alloc ?_ _ | refine Xt.Nw.ext ?_)))) (by have := HVL.out; omega) (by have := HVL.out; omega)) ?_; rintro e w3 ⟨rfl, hnE⟩; have HNE := Lib.hid (HNB.out.trans (Nw.trans (by (repeat (first | exact Xt.Nw.refl _ | assumption | refine Xt.Nw.drew ?_ | refine Xt.Nw.drewN ?_ _ | refine Xt.Nw.alloc ?_ _ | refine Xt.Nw.ext ?_))) hnE)); clear hnE))
          have i3 : k < 1000000 := HI3.out
          go_wp2_with fail
          exact ⟨⟨k + 1, by have := HLT.out; omega, by have := HI3.out; go_num, HN9.out.trans (HNE.out.trans ((by repeat (first | exact Xt.Nw.refl _ | refine Xt.Nw.drew ?_ | refine Xt.Nw.drewN ?_ _ | refine Xt.Nw.alloc ?_ _ | refine Xt.Nw.joined ?_ | refine Xt.Nw.drewd ?_ | refine Xt.Nw.drewdN ?_ | refine Xt.Nw.ext ?_ | refine Xt.Nw.ext_some ?_ (by assumption) | refine Xt.Nw.setCell ?_ (by simp [go_sem] <;> omega) _)))), A7, m7, c7, by first | exact ⟨rfl, rfl, rfl⟩ | rfl, Lib.hid (HNX.out _ (HNE.out.trans ((by repeat (first | exact Xt.Nw.refl _ | refine Xt.Nw.drew ?_ | refine Xt.Nw.drewN ?_ _ | refine Xt.Nw.alloc ?_ _ | refine Xt.Nw.joined ?_ | refine Xt.Nw.drewd ?_ | refine Xt.Nw.drewdN ?_ | refine Xt.Nw.ext ?_ | refine Xt.Nw.ext_some ?_ (by assumption) | refine Xt.Nw.setCell ?_ (by simp [go_sem] <;> omega) _)))))⟩, by have := HLT.out; simp [intOf]; omega⟩
        · by_cases h8 : x.kd = 8
          · have d1 : (4 : Int) ≤ x.kd := by omega
            have d2 : decide (x.kd ≤ 7) = false := decide_eq_false (by omega)
            have d3 : (x.kd != 8) = false := by simpa using h8
            clear hp h8
            go_wp2_with fail
            go_region
            go_wp2_with fail
            exact ⟨⟨k + 1, by omega, by go_num, HN9.out.trans ((by repeat (first | exact Xt.Nw.refl _ | refine Xt.Nw.drew ?_ | refine Xt.Nw.drewN ?_ _ | refine Xt.Nw.alloc ?_ _ | refine Xt.Nw.joined ?_ | refine Xt.Nw.drewd ?_ | refine Xt.Nw.drewdN ?_ | refine Xt.Nw.ext ?_ | refine Xt.Nw.ext_some ?_ (by assumption) | refine Xt.Nw.setCell ?_ (by simp [go_sem] <;> omega) _))), A7, m7, c7, by first | exact ⟨rfl, rfl, rfl⟩ | rfl, Lib.hid (HNX.out _ ((by repeat (first | exact Xt.Nw.refl _ | refine Xt.Nw.drew ?_ | refine Xt.Nw.drewN ?_ _ | refine Xt.Nw.alloc ?_ _ | refine Xt.Nw.joined ?_ | refine Xt.Nw.drewd ?_ | refine Xt.Nw.drewdN ?_ | refine Xt.Nw.ext ?_ | refine Xt.Nw.ext_some ?_ (by assumption) | refine Xt.Nw.setCell ?_ (by simp [go_sem] <;> omega) _))))⟩, by simp [intOf]; omega⟩
          · by_cases h9 : x.kd = 9
            · have d1 : (4 : Int) ≤ x.kd := by omega
              have d2 : decide (x.kd ≤ 7) = false := decide_eq_false (by omega)
              have d3 : (x.kd != 8) = true := by simpa using h8
              have d4 : (x.kd != 9) = false := by simpa using h9
              clear hp h8 h9
              go_wp2_with fail
              go_region
              go_wp2_with fail
              exact ⟨⟨k + 1, by omega, by go_num, HN9.out.trans ((by repeat (first | exact Xt.Nw.refl _ | refine Xt.Nw.drew ?_ | refine Xt.Nw.drewN ?_ _ | refine Xt.Nw.alloc ?_ _ | refine Xt.Nw.joined ?_ | refine Xt.Nw.drewd ?_ | refine Xt.Nw.drewdN ?_ | refine Xt.Nw.ext ?_ | refine Xt.Nw.ext_some ?_ (by assumption) | refine Xt.Nw.setCell ?_ (by simp [go_sem] <;> omega) _))), A7, m7, c7, by first | exact ⟨rfl, rfl, rfl⟩ | rfl, Lib.hid (HNX.out _ ((by repeat (first | exact Xt.Nw.refl _ | refine Xt.Nw.drew ?_ | refine Xt.Nw.drewN ?_ _ | refine Xt.Nw.alloc ?_ _ | refine Xt.Nw.joined ?_ | refine Xt.Nw.drewd ?_ | refine Xt.Nw.drewdN ?_ | refine Xt.Nw.ext ?_ | refine Xt.Nw.ext_some ?_ (by assumption) | refine Xt.Nw.setCell ?_ (by simp [go_sem] <;> omega) _))))⟩, by simp [intOf]; omega⟩
            · have hQP := HST1.out (by omega)
              have d3 : (x.kd != 8) = true := by simpa using h8
              have d4 : (x.kd != 9) = true := by simpa using h9
              have HEQ2 := Lib.hid (fun W (hq : Nw W9 W) => eqPairs_any A7 A8 m7 m8 c7 c8 Q P W (HR78.out.nw (HN89.out.trans hq)) (HR8.out.nw (HN89.out.trans hq)) (by have := HL7.out; omega) (by have := HL8.out; omega))
              rw [hQP] at HEQ2
              simp only [decide_true] at HEQ2
              clear hQP h8 h9
              by_cases h4 : (4 : Int) ≤ x.kd
              · have d2 : decide (x.kd ≤ 7) = false := decide_eq_false (by omega)
                clear hp
                go_wp2_with fail
                refine (HEQ2.out _ ((by repeat (first | exact Xt.Nw.refl _ | refine Xt.Nw.drew ?_ | refine Xt.Nw.drewN ?_ _ | refine Xt.Nw.alloc ?_ _ | refine Xt.Nw.joined ?_ | refine Xt.Nw.drewd ?_ | refine Xt.Nw.drewdN ?_ | refine Xt.Nw.ext ?_ | refine Xt.Nw.ext_some ?_ (by assumption) | refine Xt.Nw.setCell ?_ (by simp [go_sem] <;> omega) _)))).mono ?_
                rintro e W10 ⟨rfl, hn10⟩
                have HN10 := Lib.hid (show Nw W9 W10 from Nw.trans ((by repeat (first | exact Xt.Nw.refl _ | refine Xt.Nw.drew ?_ | refine Xt.Nw.drewN ?_ _ | refine Xt.Nw.alloc ?_ _ | refine Xt.Nw.joined ?_ | refine Xt.Nw.drewd ?_ | refine Xt.Nw.drewdN ?_ | refine Xt.Nw.ext ?_ | refine Xt.Nw.ext_some ?_ (by assumption) | refine Xt.Nw.setCell ?_ (by simp [go_sem] <;> omega) _))) hn10)
                clear hn10
                go_wp2_with fail
                go_region
                go_wp2_with fail
                exact ⟨⟨k + 1, by omega, by go_num, HN9.out.trans (HN10.out.trans ((by repeat (first | exact Xt.Nw.refl _ | refine Xt.Nw.drew ?_ | refine Xt.Nw.drewN ?_ _ | refine Xt.Nw.alloc ?_ _ | refine Xt.Nw.joined ?_ | refine Xt.Nw.drewd ?_ | refine Xt.Nw.drewdN ?_ | refine Xt.Nw.ext ?_ | refine Xt.Nw.ext_some ?_ (by assumption) | refine Xt.Nw.setCell ?_ (by simp [go_sem] <;> omega) _)))), A7, m7, c7, by first | exact ⟨rfl, rfl, rfl⟩ | rfl, Lib.hid (HNX.out _ (HN10.out.trans ((by repeat (first | exact Xt.Nw.refl _ | refine Xt.Nw.drew ?_ | refine Xt.Nw.drewN ?_ _ | refine Xt.Nw.alloc ?_ _ | refine Xt.Nw.joined ?_ | refine Xt.Nw.drewd ?_ | refine Xt.Nw.drewdN ?_ | refine Xt.Nw.ext ?_ | refine Xt.Nw.ext_some ?_ (by assumption) | refine Xt.Nw.setCell ?_ (by simp [go_sem] <;> omega) _)))))⟩, by simp [intOf]; omega⟩
              · have h5 : decide ((4 : Int) ≤ x.kd) = false := decide_eq_false h4
                clear hp h4
                go_wp2_with fail
                refine (HEQ2.out _ ((by repeat (first | exact Xt.Nw.refl _ | refine Xt.Nw.drew ?_ | refine Xt.Nw.drewN ?_ _ | refine Xt.Nw.alloc ?_ _ | refine Xt.Nw.joined ?_ | refine Xt.Nw.drewd ?_ | refine Xt.Nw.drewdN ?_ | refine Xt.Nw.ext ?_ | refine Xt.Nw.ext_some ?_ (by assumption) | refine Xt.Nw.setCell ?_ (by simp [go_sem] <;> omega) _)))).mono ?_
                rintro e W10 ⟨rfl, hn10⟩
                have HN10 := Lib.hid (show Nw W9 W10 from Nw.trans ((by repeat (first | exact Xt.Nw.refl _ | refine Xt.Nw.drew ?_ | refine Xt.Nw.drewN ?_ _ | refine Xt.Nw.alloc ?_ _ | refine Xt.Nw.joined ?_ | refine Xt.Nw.drewd ?_ | refine Xt.Nw.drewdN ?_ | refine Xt.Nw.ext ?_ | refine Xt.Nw.ext_some ?_ (by assumption) | refine Xt.Nw.setCell ?_ (by simp [go_sem] <;> omega) _))) hn10)
                clear hn10
                go_wp2_with fail
                go_region
                go_wp2_with fail
                exact ⟨⟨k + 1, by omega, by go_num, HN9.out.trans (HN10.out.trans ((by repeat (first | exact Xt.Nw.refl _ | refine Xt.Nw.drew ?_ | refine Xt.Nw.drewN ?_ _ | refine Xt.Nw.alloc ?_ _ | refine Xt.Nw.joined ?_ | refine Xt.Nw.drewd ?_ | refine Xt.Nw.drewdN ?_ | refine Xt.Nw.ext ?_ | refine Xt.Nw.ext_some ?_ (by assumption) | refine Xt.Nw.setCell ?_ (by simp [go_sem] <;> omega) _)))), A7, m7, c7, by first | exact ⟨rfl, rfl, rfl⟩ | rfl, Lib.hid (HNX.out _ (HN10.out.trans ((by repeat (first | exact Xt.Nw.refl _ | refine Xt.Nw.drew ?_ | refine Xt.Nw.drewN ?_ _ | refine Xt.Nw.alloc ?_ _ | refine Xt.Nw.joined ?_ | refine Xt.Nw.drewd ?_ | refine Xt.Nw.drewdN ?_ | refine Xt.Nw.ext ?_ | refine Xt.Nw.ext_some ?_ (by assumption) | refine Xt.Nw.setCell ?_ (by simp [go_sem] <;> omega) _)))))⟩, by simp [intOf]; omega⟩
      · have hkn : k = N := by omega
        subst hkn
        go_wp2_with fail
        refine (HFI.out _ (HN5.out.trans (HNR.out.trans ((by repeat (first | exact Xt.Nw.refl _ | refine Xt.Nw.drew ?_ | refine Xt.Nw.drewN ?_ _ | refine Xt.Nw.alloc ?_ _ | refine Xt.Nw.joined ?_ | refine Xt.Nw.drewd ?_ | refine Xt.Nw.drewdN ?_ | refine Xt.Nw.ext ?_ | refine Xt.Nw.ext_some ?_ (by assumption) | refine Xt.Nw.setCell ?_ (by simp [go_sem] <;> omega) _)))))).mono ?_
        intro e W7 hP
        unfold PairsP at hP
        obtain ⟨v, rfl, hown, hn7, hlen7⟩ := hP
        obtain ⟨A7, c7, rfl⟩ := own_slice hown
        have HR7 := Lib.hid (own_rd hown)
        obtain ⟨m7, hm7⟩ : ∃ q, q = ((0 : Int), (B k)).2.length := ⟨_, rfl⟩
        rw [← hm7] at HR7 hlen7 ⊢
        have HL7 := Lib.hid hlen7
        have HM7 := Lib.hid (show m7 = (B k).length from hm7)
        clear hown hlen7 hm7
        have HEQ := Lib.hid (fun W (hq : Nw W7 W) => eqPairs_any A7 Ab m7 nb c7 cb (B k) (B k) W (HR7.out.nw hq) (hst.out.1.nw (Nw.trans (Nw.trans ((by repeat (first | exact Xt.Nw.refl _ | refine Xt.Nw.drew ?_ | refine Xt.Nw.drewN ?_ _ | refine Xt.Nw.alloc ?_ _ | refine Xt.Nw.joined ?_ | refine Xt.Nw.drewd ?_ | refine Xt.Nw.drewdN ?_ | refine Xt.Nw.ext ?_ | refine Xt.Nw.ext_some ?_ (by assumption) | refine Xt.Nw.setCell ?_ (by simp [go_sem] <;> omega) _))) hn7) hq)) (by have := HL7.out; omega) (by have := hst.out.2; omega))
        have HN7 := Lib.hid (HN5.out.trans (HNR.out.trans (Nw.trans ((by repeat (first | exact Xt.Nw.refl _ | refine Xt.Nw.drew ?_ | refine Xt.Nw.drewN ?_ _ | refine Xt.Nw.alloc ?_ _ | refine Xt.Nw.joined ?_ | refine Xt.Nw.drewd ?_ | refine Xt.Nw.drewdN ?_ | refine Xt.Nw.ext ?_ | refine Xt.Nw.ext_some ?_ (by assumption) | refine Xt.Nw.setCell ?_ (by simp [go_sem] <;> omega) _))) hn7)))
        simp only [decide_true] at HEQ
        clear hn7
        go_wp2_with fail
        refine (HEQ.out _ ((by repeat (first | exact Xt.Nw.refl _ | refine Xt.Nw.drew ?_ | refine Xt.Nw.drewN ?_ _ | refine Xt.Nw.alloc ?_ _ | refine Xt.Nw.joined ?_ | refine Xt.Nw.drewd ?_ | refine Xt.Nw.drewdN ?_ | refine Xt.Nw.ext ?_ | refine Xt.Nw.ext_some ?_ (by assumption) | refine Xt.Nw.setCell ?_ (by simp [go_sem] <;> omega) _)))).mono ?_
        rintro e W8 ⟨rfl, hn8⟩
        have HN8 := Lib.hid (HN7.out.trans (Nw.trans ((by repeat (first | exact Xt.Nw.refl _ | refine Xt.Nw.drew ?_ | refine Xt.Nw.drewN ?_ _ | refine Xt.Nw.alloc ?_ _ | refine Xt.Nw.joined ?_ | refine Xt.Nw.drewd ?_ | refine Xt.Nw.drewdN ?_ | refine Xt.Nw.ext ?_ | refine Xt.Nw.ext_some ?_ (by assumption) | refine Xt.Nw.setCell ?_ (by simp [go_sem] <;> omega) _))) hn8))
        clear hn8
        go_wp2_with fail
        refine (HAW.out _ (Nw.trans HN8.out ((by repeat (first | exact Xt.Nw.refl _ | refine Xt.Nw.drew ?_ | refine Xt.Nw.drewN ?_ _ | refine Xt.Nw.alloc ?_ _ | refine Xt.Nw.joined ?_ | refine Xt.Nw.drewd ?_ | refine Xt.Nw.drewdN ?_ | refine Xt.Nw.ext ?_ | refine Xt.Nw.ext_some ?_ (by assumption) | refine Xt.Nw.setCell ?_ (by simp [go_sem] <;> omega) _))))).mono ?_
        rintro e W6 ⟨rfl, hn6⟩
        have HN6 := Lib.hid (HN3.out.trans (Nw.trans (Nw.trans HN8.out ((by repeat (first | exact Xt.Nw.refl _ | refine Xt.Nw.drew ?_ | refine Xt.Nw.drewN ?_ _ | refine Xt.Nw.alloc ?_ _ | refine Xt.Nw.joined ?_ | refine Xt.Nw.drewd ?_ | refine Xt.Nw.drewdN ?_ | refine Xt.Nw.ext ?_ | refine Xt.Nw.ext_some ?_ (by assumption) | refine Xt.Nw.setCell ?_ (by simp [go_sem] <;> omega) _)))) hn6))
        clear hn6
        go_wp2
        go_ret
        exact ⟨rfl, HN6.out⟩
end Go.Proofs.YtfnapkfdocabcaaGreat
