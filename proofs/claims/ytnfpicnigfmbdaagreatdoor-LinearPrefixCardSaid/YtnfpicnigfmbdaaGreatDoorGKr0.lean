import Derived.Test.YtnfpicnigfmbdaaGreatDoorGKo
import Derived.Test.YtnfpicnigfmbdaaGreatDoorGZ
import Derived.Deep.RegionHeld3
set_option linter.unusedVariables false
set_option linter.unusedSimpArgs false
set_option linter.unnecessarySimpa false
namespace Go.Proofs.YtnfpicnigfmbdaaGreatDoor
open Go.RowKit Go.Xt
/-! The three laws, plain. -/
theorem find_some {c : Cf} {cuts : List Nat} {l : List Cl} : (findO c cuts l).isSome = true ↔ begE c cuts l = 0 ∧ ∃ z, Lin l (s0M c) z := by
  unfold findO
  by_cases he : begE c cuts l = 0
  · rw [if_pos he]
    constructor
    · intro h
      obtain ⟨z, hz⟩ := Option.isSome_iff_exists.1 h
      exact ⟨he, z, lin_mem.1 (List.mem_of_mem_head? hz)⟩
    · rintro ⟨-, z, hz⟩
      have := lin_mem.2 hz
      unfold linsM
      cases hl : exts l (l.length + 1) [] (s0M c) with
      | nil => rw [hl] at this; cases this
      | cons a r => rfl
  · rw [if_neg he]
    constructor
    · intro h; cases h
    · intro h; exact absurd h.1 he
theorem begE_take {c : Cf} {cuts : List Nat} {l : List Cl} (h : begE c cuts l = 0) (k : Nat) : begE c cuts (l.take k) = 0 := by
  obtain ⟨h1, h2, h3⟩ := begE_ok h
  unfold begE
  rw [if_neg (by omega), if_neg (by rw [bad_take h2]; simp), if_neg (by rw [List.length_take]; omega)]
theorem wrap_pred {N : Nat} (h : N ≤ 1000) : wrap64 (((N + 1 : Nat) : Int) - 1) = (N : Int) := by unfold wrap64; omega
theorem In2.pre {w : World} {c : Cf} {cuts : List Nat} {A : Option Addr} {n cap : Nat} {l : List Cl} (h : In2 w c cuts A n cap l) {k : Nat} (hk : k ≤ n) : In2 w c cuts A k cap (l.take k) :=
  { h with n1 := by have := h.n1; omega, nc := by have := h.nc; omega, hl := h.hl.take hk, wf := fun y hy => h.wf y (List.mem_of_mem_take hy) }
/-- THE PLAIN LAW OF LinearRetry. -/
theorem retry_plain {c : Cf} {cuts : List Nat} {l : List Cl} {N : Nat} {x : Cl} (hN : l.length = N + 1) (hx : l[N]? = some x) (ha : 0 ≤ x.ans) (he : x.re = 11) :
    begE c cuts l ≠ 0 ∨ (begE c cuts (l.take N) = 0 ∧ ((findO c cuts (l.take N)).isSome = true ∨ (findO c cuts l).isSome = false)) := by
  by_cases h : begE c cuts l = 0
  · right
    refine ⟨begE_take h N, ?_⟩
    cases hs : (findO c cuts l).isSome with
    | false => exact .inr rfl
    | true =>
      obtain ⟨-, z, hz⟩ := find_some.1 hs
      exact .inl (find_some.2 ⟨begE_take h N, _, lin_retry hN hx ha he hz⟩)
  · exact .inl h
theorem pfx_wfx {s : Int} {x : Cl} (h : WfX x) : WfX (pfx s x) := by
  refine ⟨pfx_wf h.wf, by rw [pfx_op]; exact h.op, ?_⟩
  have := h.rk
  unfold pfx
  (repeat' split) <;> first | exact this | exact ⟨Int.le_refl 0, by show (0 : Int) < _; decide⟩
theorem pres_len (s : Int) (l : List Cl) : (pres s l).length ≤ l.length := by
  rw [pres, List.length_map]; exact (List.takeWhile_prefix _).length_le
theorem pres_wfx {s : Int} {l : List Cl} (h : ∀ y ∈ l, WfX y) : ∀ y ∈ preW s l, WfX y := by
  intro y hy
  unfold preW at hy
  split at hy
  · rw [pres, List.mem_map] at hy
    obtain ⟨x, hx, rfl⟩ := hy
    exact pfx_wfx (h x ((List.takeWhile_prefix _).subset hx))
  · cases hy
theorem preW_len (s : Int) (l : List Cl) : (preW s l).length ≤ l.length := by
  unfold preW
  split
  · exact pres_len s l
  · simp
/-- THE PLAIN LAW OF LinearPrefix. -/
theorem prefix_plain {c : Cf} {cuts : List Nat} {l : List Cl} {s : Int} (h1 : begE c cuts l = 0) (h2 : preE s l = 0) (h3 : (findO c cuts l).isSome = true) :
    begE c cuts (preW s l) = 0 ∧ (findO c cuts (preW s l)).isSome = true := by
  obtain ⟨hc, hb, hl⟩ := begE_ok h1
  have hs : -1 ≤ s := by
    rw [preE, if_pos hb] at h2
    by_cases h : s < -1
    · rw [if_pos h] at h2; exact absurd h2 (by decide)
    · omega
  have hw : preW s l = pres s l := by rw [preW, if_pos h2]
  have h0 : begE c cuts (preW s l) = 0 := by
    rw [hw]
    have := pres_len s l
    unfold begE
    rw [if_neg (by omega), if_neg (by rw [bad_pres hs hb]; simp), if_neg (by omega)]
  refine ⟨h0, find_some.2 ⟨h0, ?_⟩⟩
  obtain ⟨-, z, hz⟩ := find_some.1 h3
  rw [hw]
  exact lin_prefix hs hb hz
end Go.Proofs.YtnfpicnigfmbdaaGreatDoor
namespace Go.Proofs.YtnfpicnigfmbdaaGreatDoor
open Go.RowKit Go.Xt
/-! The law LinearRetry. -/
set_option maxRecDepth 20000 in
set_option maxHeartbeats 8000000 in
theorem retry_M (c : Cf) (cuts : List Nat) (A : Option Addr) (n cap : Nat) (l : List Cl) (w : World) (hF : FmtAt w) (hr : Rd w 1 c.cA cuts.length (nums cuts)) (hcn : c.cn = cuts.length) (he : 0 ≤ c.eng ∧ c.eng < 256) (hcm : c.cc ≤ maxLen) (hcc : c.cn ≤ c.cc) (hnc : n ≤ cap) (hc : cap ≤ 9223372036854775807) (hl : Cs w A n l) (hw : ∀ y ∈ l, WfX y) :
    Calls Tryz.prog 4 #[confV c, .slice A n cap] w fun e w' => e = .returned (.bool true) ∧ Nw w w' := by
  obtain ⟨b0, hb0⟩ : ∃ b, b = w.heap.size := ⟨_, rfl⟩
  obtain ⟨W0, hW0⟩ : ∃ W, W = w.alloc (cellsOf c 27) := ⟨_, rfl⟩
  have hn0 : Nw w W0 := by rw [hW0]; exact (Nw.refl w).alloc _
  haveI hca : ConfAt W0 b0 c := by rw [hW0]; exact ⟨fun i v hv => by unfold cellsOf; unfold ccells at hv; rw [hb0, World.cell?_alloc_new]; simpa using hv, by rw [hb0]; simp⟩
  have hbx : BoxAt W0 b0 := by rw [hW0, hb0]; exact ConfAt.box
  have HSM := Lib.hid (small_any c cuts W0 hcn hcc hcm (Rd.nw hr hn0))
  have HFE := Lib.hid (fun W (hq : Nw w W) => few7_any A n cap l W hnc hc (hl.nw hq))
  have HW := Lib.hid hw
  have HF := Lib.hid hF
  have HEN := Lib.hid he
  have HCN := Lib.hid hcn
  unfold cellsOf at hW0
  have HW0 := Lib.hid hW0
  have HN0 := Lib.hid hn0
  have HB0 := Lib.hid hb0
  have HBX := Lib.hid hbx
  unfold confV at HSM ⊢
  haveI : In b0 W0 := ⟨hca.lt⟩
  clear hb0 hW0 hn0 hbx hF hr hcn he hcm hcc hl hw
  go_enter Tryz.func4, Tryz.ntmps4
  go_upto_region 1 with (fail)
  rw [← HW0.out, ← HB0.out]
  go_wp2_with fail
  refine HSM.out.mono ?_
  rintro e W1 ⟨c', rfl, hc', hrd, hap, hn1⟩
  have hbx1 := HBX.out.nw hn1
  have hst := run_storeConf (c := c') hbx1
  unfold confV at hst
  obtain ⟨W2, hW2⟩ : ∃ W, W = putConf W1 b0 c' := ⟨_, rfl⟩
  have hcf : ConfAt W2 b0 c' := by rw [hW2]; exact putConf_at hbx1
  have hch : Chg [b0] W1 W2 := by rw [hW2]; exact putConf_chg W1 b0 c'
  rw [← hW2] at hst
  have hn2 : Nw w W2 := nw_chg2 (HN0.out.trans hn1) hch (fun k hk => by have := HB0.out; simp at hk; omega)
  have hrd2 : Rd W2 1 c'.cA (cuts.take 70).length (nums (cuts.take 70)) := by
    rw [hW2]
    exact rd_chg hrd (putConf_chg W1 b0 c') (fun b o e => by have := hap b o e; have := HBX.out.lt; simp; omega)
  haveI : In b0 W1 := ⟨hbx1.lt⟩
  haveI := hcf
  haveI : In b0 W2 := ⟨hcf.lt⟩
  have HN2 := Lib.hid hn2
  have HRD := Lib.hid hrd2
  have HC' := Lib.hid hc'
  clear hW2 hch hn2 hrd hrd2 hn1 hbx1 hc' hap
  go_wp2_with fail
  refine (HFE.out W2 HN2.out).mono ?_
  rintro e W3 ⟨v, rfl, hown, hn3⟩
  obtain ⟨A3, c3, rfl, hcs, hle, hcm3, -⟩ := hown.form
  obtain ⟨L, hL⟩ : ∃ L, L = l.take 7 := ⟨_, rfl⟩
  rw [← hL] at hown hcs hle ⊢
  obtain ⟨m, hm⟩ : ∃ m, m = L.length := ⟨_, rfl⟩
  rw [← hm] at hown hcs hle ⊢
  have hm7 : m ≤ 7 := by rw [hm, hL, List.length_take]; omega
  have hwl : ∀ y ∈ L, WfX y := fun y hy => HW.out y (List.mem_of_mem_take (hL ▸ hy))
  have hin : In2 W3 c' (cuts.take 70) A3 m c3 L := ⟨HRD.out.nw hn3, by rw [HC'.out, List.length_take, ← HCN.out]; exact Nat.min_comm _ _, by rw [HC'.out]; exact HEN.out, by omega, hle, hcm3, hcs, hwl, fun b o e => (hown.lt b (by rw [e]; rfl)).2⟩
  haveI hca3 : ConfAt W3 b0 c' := hcf.nw hn3
  haveI : In b0 W3 := ⟨hca3.lt⟩
  have HIN := Lib.hid hin
  have HN3 := Lib.hid (HN2.out.trans hn3)
  have HM7 := Lib.hid hm7
  have HM := Lib.hid hm
  obtain ⟨cu, hcu⟩ : ∃ cu, cu = cuts.take 70 := ⟨_, rfl⟩
  rw [← hcu] at HIN
  have HAW := Lib.hid (fun W (hq : Nw W3 W) => awake_any W (HF.out.nw (HN3.out.trans hq)))
  have hmc : (m : Int) ≤ (c3 : Int) := by omega
  clear hown hcs hle hcm3 hL hm hwl hin hm7 hn3 hcu hst HRD HC' HFE HSM hcf
  cases hL : L with
  | nil =>
    have hm0 : m = 0 := by rw [HM.out, hL]; rfl
    subst hm0
    clear HIN HM
    go_wp2_with fail
    refine (HAW.out _ ((by repeat (first | exact Xt.Nw.refl _ | refine Xt.Nw.drew ?_ | refine Xt.Nw.drewN ?_ _ | refine Xt.Nw.alloc ?_ _ | refine Xt.Nw.joined ?_ | refine Xt.Nw.drewd ?_ | refine Xt.Nw.drewdN ?_ | refine Xt.Nw.ext ?_ | refine Xt.Nw.ext_some ?_ (by assumption) | refine Xt.Nw.setCell ?_ (by simp [go_sem] <;> omega) _)))).mono ?_
    rintro e W4 ⟨rfl, hn4⟩
    have HN4 := Lib.hid (HN3.out.trans hn4)
    clear hn4
    go_wp2
    go_ret
    exact ⟨rfl, HN4.out⟩
  | cons y0 L0 =>
    obtain ⟨N, hN⟩ : ∃ N, m = N + 1 := ⟨m - 1, by rw [HM.out, hL]; simp⟩
    clear hL
    obtain ⟨b, o, x, hA, hb, hx, hc4⟩ := HIN.out.hl.get (show N < m by omega)
    subst hA
    haveI : CallAt W3 b (o + N * 18) x := ⟨hc4, hb⟩
    haveI : In b W3 := ⟨hb⟩
    have k11 : W3.cell? ⟨b, o + N * 18 + 11, none⟩ = some (.int .i64 x.ans) := hc4.range 11 _ rfl
    have k13 : W3.cell? ⟨b, o + N * 18 + 13, none⟩ = some (.int .i64 x.re) := hc4.range 13 _ rfl
    have hsub : wrap64 ((m : Int) - 1) = (N : Int) := by rw [hN]; exact wrap_pred (by have := HM7.out; omega)
    have hlt : (N : Int) < (m : Int) := by omega
    have hsub2 : IntKind.i64.wrap ((m : Int) - 1) = (N : Int) := by rw [IntKind.wrap_i64]; unfold wrap64 at hsub; exact hsub
    have hNc : (N : Int) ≤ (c3 : Int) := by omega
    have hge : ¬ (N : Int) < 0 := by omega
    have hne0 : ((m : Int) == 0) = false := by rw [beq_eq_false_iff_ne]; omega
    have HNM := Lib.hid hN
    clear hN
    have HX := Lib.hid hx
    clear hx hc4 hb
    by_cases ha : x.ans < 0
    · go_wp2_with fail
      refine (HAW.out _ ((by repeat (first | exact Xt.Nw.refl _ | refine Xt.Nw.drew ?_ | refine Xt.Nw.drewN ?_ _ | refine Xt.Nw.alloc ?_ _ | refine Xt.Nw.joined ?_ | refine Xt.Nw.drewd ?_ | refine Xt.Nw.drewdN ?_ | refine Xt.Nw.ext ?_ | refine Xt.Nw.ext_some ?_ (by assumption) | refine Xt.Nw.setCell ?_ (by simp [go_sem] <;> omega) _)))).mono ?_
      rintro e W4 ⟨rfl, hn4⟩
      have HN4 := Lib.hid (HN3.out.trans (Nw.trans ((by repeat (first | exact Xt.Nw.refl _ | refine Xt.Nw.drew ?_ | refine Xt.Nw.drewN ?_ _ | refine Xt.Nw.alloc ?_ _ | refine Xt.Nw.joined ?_ | refine Xt.Nw.drewd ?_ | refine Xt.Nw.drewdN ?_ | refine Xt.Nw.ext ?_ | refine Xt.Nw.ext_some ?_ (by assumption) | refine Xt.Nw.setCell ?_ (by simp [go_sem] <;> omega) _))) hn4))
      clear hn4
      go_wp2
      go_ret
      exact ⟨rfl, HN4.out⟩
    · by_cases h11 : x.re = 11
      · have HPL := Lib.hid (retry_plain (c := c') (cuts := cu) (HM.out.symm.trans HNM.out) HX.out (by omega) h11)
        have HCK1 := Lib.hid (fun W (hq : Nw W3 W) => check_anyL (HIN.out.nw hq) (HF.out.nw (HN3.out.trans hq)))
        have HCK2 := Lib.hid (fun W (hq : Nw W3 W) => check_anyL ((HIN.out.pre (k := N) (by have := HNM.out; omega)).nw hq) (HF.out.nw (HN3.out.trans hq)))
        obtain ⟨e1, he1⟩ : ∃ e1, e1 = begE c' cu L := ⟨_, rfl⟩
        obtain ⟨e2, he2⟩ : ∃ e2, e2 = begE c' cu (L.take N) := ⟨_, rfl⟩
        obtain ⟨s1, hs1⟩ : ∃ s1, s1 = (findO c' cu L).isSome := ⟨_, rfl⟩
        obtain ⟨s2, hs2⟩ : ∃ s2, s2 = (findO c' cu (L.take N)).isSome := ⟨_, rfl⟩
        rw [← he1, ← hs1] at HCK1
        rw [← he2, ← hs2] at HCK2
        rw [← he1, ← he2, ← hs1, ← hs2] at HPL
        unfold confV at HCK1 HCK2
        clear he1 he2 hs1 hs2
        go_wp2_with fail
        refine (HCK1.out _ ((by repeat (first | exact Xt.Nw.refl _ | refine Xt.Nw.drew ?_ | refine Xt.Nw.drewN ?_ _ | refine Xt.Nw.alloc ?_ _ | refine Xt.Nw.joined ?_ | refine Xt.Nw.drewd ?_ | refine Xt.Nw.drewdN ?_ | refine Xt.Nw.ext ?_ | refine Xt.Nw.ext_some ?_ (by assumption) | refine Xt.Nw.setCell ?_ (by simp [go_sem] <;> omega) _)))).mono ?_
        rintro e W4 ⟨rfl, hn4⟩
        haveI hca4 : ConfAt W4 b0 c' := hca3.nw hn4
        haveI : In b0 W4 := ⟨hca4.lt⟩
        have HN4 := Lib.hid hn4
        clear hn4
        have hld : ∀ W, Nw W4 W → (loadConf (.pointer (some ⟨b0, 0, none⟩))).run Tryz.prog W = .ok (confV c') W := fun W hq => by
          haveI := hca4.nw hq
          exact run_loadConf
        go_upto_region 6 with (fail)
        go_region_held3 (fun wq => (loadConf (.pointer (some ⟨b0, 0, none⟩))).run Tryz.prog wq = .ok (.agg #[.int .i64 c'.thr, .int .i64 c'.sl, .int .u8 c'.eng, .int .i64 c'.bk, .int .u8 c'.dk, .int .i64 c'.dn, .slice c'.cA c'.cn c'.cc, .int .i64 c'.t1, .int .i64 c'.t2, .int .i64 c'.t3, .int .i64 c'.t4, .int .i64 c'.t5, .int .i64 c'.t6, .int .i64 c'.lk, .int .i64 c'.tr, .int .i64 c'.ba]) wq) (exact hld _ (by (repeat (first | exact Xt.Nw.refl _ | assumption | refine Xt.Nw.drew ?_ | refine Xt.Nw.drewN ?_ _ | refine Xt.Nw.alloc ?_ _ | refine Xt.Nw.ext ?_))))
          ((go_at_call 10; refine (HCK2.out _ (Nw.trans HN4.out (by (repeat (first | exact Xt.Nw.refl _ | assumption | refine Xt.Nw.drew ?_ | refine Xt.Nw.drewN ?_ _ | refine Xt.Nw.alloc ?_ _ | refine Xt.Nw.ext ?_))))).mono ?_; rintro e w' ⟨rfl, dW, rfl⟩))
        clear hld k11 k13
        rcases HPL.out with h | ⟨h2, h3⟩
        · have hne1 : (e1 != 0) = true := by simpa using h
          clear h
          go_wp2_with fail
          refine (HAW.out _ (Nw.trans HN4.out ((by repeat (first | exact Xt.Nw.refl _ | refine Xt.Nw.drew ?_ | refine Xt.Nw.drewN ?_ _ | refine Xt.Nw.alloc ?_ _ | refine Xt.Nw.joined ?_ | refine Xt.Nw.drewd ?_ | refine Xt.Nw.drewdN ?_ | refine Xt.Nw.ext ?_ | refine Xt.Nw.ext_some ?_ (by assumption) | refine Xt.Nw.setCell ?_ (by simp [go_sem] <;> omega) _))))).mono ?_
          rintro e W5 ⟨rfl, hn5⟩
          have HN5 := Lib.hid (HN3.out.trans (Nw.trans (Nw.trans HN4.out ((by repeat (first | exact Xt.Nw.refl _ | refine Xt.Nw.drew ?_ | refine Xt.Nw.drewN ?_ _ | refine Xt.Nw.alloc ?_ _ | refine Xt.Nw.joined ?_ | refine Xt.Nw.drewd ?_ | refine Xt.Nw.drewdN ?_ | refine Xt.Nw.ext ?_ | refine Xt.Nw.ext_some ?_ (by assumption) | refine Xt.Nw.setCell ?_ (by simp [go_sem] <;> omega) _)))) hn5))
          clear hn5
          go_wp2
          go_ret
          exact ⟨by simp, HN5.out⟩
        · subst h2
          by_cases h1 : e1 = 0
          · subst h1
            have h4 : (s2 || !s1) = true := by rcases h3 with rfl | rfl <;> simp
            clear h3
            cases s1 <;> cases s2 <;> first | (exfalso; revert h4; decide) | skip
            all_goals
              go_wp2_with fail
              refine (HAW.out _ (Nw.trans HN4.out ((by repeat (first | exact Xt.Nw.refl _ | refine Xt.Nw.drew ?_ | refine Xt.Nw.drewN ?_ _ | refine Xt.Nw.alloc ?_ _ | refine Xt.Nw.joined ?_ | refine Xt.Nw.drewd ?_ | refine Xt.Nw.drewdN ?_ | refine Xt.Nw.ext ?_ | refine Xt.Nw.ext_some ?_ (by assumption) | refine Xt.Nw.setCell ?_ (by simp [go_sem] <;> omega) _))))).mono ?_
              rintro e W5 ⟨rfl, hn5⟩
              have HN5 := Lib.hid (HN3.out.trans (Nw.trans (Nw.trans HN4.out ((by repeat (first | exact Xt.Nw.refl _ | refine Xt.Nw.drew ?_ | refine Xt.Nw.drewN ?_ _ | refine Xt.Nw.alloc ?_ _ | refine Xt.Nw.joined ?_ | refine Xt.Nw.drewd ?_ | refine Xt.Nw.drewdN ?_ | refine Xt.Nw.ext ?_ | refine Xt.Nw.ext_some ?_ (by assumption) | refine Xt.Nw.setCell ?_ (by simp [go_sem] <;> omega) _)))) hn5))
              clear hn5
              go_wp2
              go_ret
              exact ⟨by simp, HN5.out⟩
          · have hne1 : (e1 != 0) = true := by simpa using h1
            clear h3 h1
            go_wp2_with fail
            refine (HAW.out _ (Nw.trans HN4.out ((by repeat (first | exact Xt.Nw.refl _ | refine Xt.Nw.drew ?_ | refine Xt.Nw.drewN ?_ _ | refine Xt.Nw.alloc ?_ _ | refine Xt.Nw.joined ?_ | refine Xt.Nw.drewd ?_ | refine Xt.Nw.drewdN ?_ | refine Xt.Nw.ext ?_ | refine Xt.Nw.ext_some ?_ (by assumption) | refine Xt.Nw.setCell ?_ (by simp [go_sem] <;> omega) _))))).mono ?_
            rintro e W5 ⟨rfl, hn5⟩
            have HN5 := Lib.hid (HN3.out.trans (Nw.trans (Nw.trans HN4.out ((by repeat (first | exact Xt.Nw.refl _ | refine Xt.Nw.drew ?_ | refine Xt.Nw.drewN ?_ _ | refine Xt.Nw.alloc ?_ _ | refine Xt.Nw.joined ?_ | refine Xt.Nw.drewd ?_ | refine Xt.Nw.drewdN ?_ | refine Xt.Nw.ext ?_ | refine Xt.Nw.ext_some ?_ (by assumption) | refine Xt.Nw.setCell ?_ (by simp [go_sem] <;> omega) _)))) hn5))
            clear hn5
            go_wp2
            go_ret
            exact ⟨by simp, HN5.out⟩
      · have h11b : (x.re != 11) = true := by simpa using h11
        go_wp2_with fail
        refine (HAW.out _ ((by repeat (first | exact Xt.Nw.refl _ | refine Xt.Nw.drew ?_ | refine Xt.Nw.drewN ?_ _ | refine Xt.Nw.alloc ?_ _ | refine Xt.Nw.joined ?_ | refine Xt.Nw.drewd ?_ | refine Xt.Nw.drewdN ?_ | refine Xt.Nw.ext ?_ | refine Xt.Nw.ext_some ?_ (by assumption) | refine Xt.Nw.setCell ?_ (by simp [go_sem] <;> omega) _)))).mono ?_
        rintro e W4 ⟨rfl, hn4⟩
        have HN4 := Lib.hid (HN3.out.trans (Nw.trans ((by repeat (first | exact Xt.Nw.refl _ | refine Xt.Nw.drew ?_ | refine Xt.Nw.drewN ?_ _ | refine Xt.Nw.alloc ?_ _ | refine Xt.Nw.joined ?_ | refine Xt.Nw.drewd ?_ | refine Xt.Nw.drewdN ?_ | refine Xt.Nw.ext ?_ | refine Xt.Nw.ext_some ?_ (by assumption) | refine Xt.Nw.setCell ?_ (by simp [go_sem] <;> omega) _))) hn4))
        clear hn4
        go_wp2
        go_ret
        exact ⟨rfl, HN4.out⟩
end Go.Proofs.YtnfpicnigfmbdaaGreatDoor
namespace Go.Proofs.YtnfpicnigfmbdaaGreatDoor
open Go.RowKit Go.Xt
/-! The law LinearPrefix. -/
set_option maxRecDepth 20000 in
set_option maxHeartbeats 8000000 in
theorem prefix_M (c : Cf) (cuts : List Nat) (A : Option Addr) (n cap : Nat) (l : List Cl) (s : Int) (w : World) (hF : FmtAt w) (hr : Rd w 1 c.cA cuts.length (nums cuts)) (hcn : c.cn = cuts.length) (he : 0 ≤ c.eng ∧ c.eng < 256) (hcm : c.cc ≤ maxLen) (hcc : c.cn ≤ c.cc) (hnc : n ≤ cap) (hc : cap ≤ 9223372036854775807) (hl : Cs w A n l) (hw : ∀ y ∈ l, WfX y) :
    Calls Tryz.prog 5 #[confV c, .slice A n cap, .int .i64 s] w fun e w' => e = .returned (.bool true) ∧ Nw w w' := by
  obtain ⟨b0, hb0⟩ : ∃ b, b = w.heap.size := ⟨_, rfl⟩
  obtain ⟨W0, hW0⟩ : ∃ W, W = w.alloc (cellsOf c 27) := ⟨_, rfl⟩
  have hn0 : Nw w W0 := by rw [hW0]; exact (Nw.refl w).alloc _
  haveI hca : ConfAt W0 b0 c := by rw [hW0]; exact ⟨fun i v hv => by unfold cellsOf; unfold ccells at hv; rw [hb0, World.cell?_alloc_new]; simpa using hv, by rw [hb0]; simp⟩
  have hbx : BoxAt W0 b0 := by rw [hW0, hb0]; exact ConfAt.box
  have HSM := Lib.hid (small_any c cuts W0 hcn hcc hcm (Rd.nw hr hn0))
  have HFE := Lib.hid (fun W (hq : Nw w W) => few7_any A n cap l W hnc hc (hl.nw hq))
  have HW := Lib.hid hw
  have HF := Lib.hid hF
  have HEN := Lib.hid he
  have HCN := Lib.hid hcn
  unfold cellsOf at hW0
  have HW0 := Lib.hid hW0
  have HN0 := Lib.hid hn0
  have HB0 := Lib.hid hb0
  have HBX := Lib.hid hbx
  unfold confV at HSM ⊢
  haveI : In b0 W0 := ⟨hca.lt⟩
  clear hb0 hW0 hn0 hbx hF hr hcn he hcm hcc hl hw
  go_enter Tryz.func5, Tryz.ntmps5
  go_upto_region 1 with (fail)
  rw [← HW0.out, ← HB0.out]
  go_wp2_with fail
  refine HSM.out.mono ?_
  rintro e W1 ⟨c', rfl, hc', hrd, hap, hn1⟩
  have hbx1 := HBX.out.nw hn1
  have hst := run_storeConf (c := c') hbx1
  unfold confV at hst
  obtain ⟨W2, hW2⟩ : ∃ W, W = putConf W1 b0 c' := ⟨_, rfl⟩
  have hcf : ConfAt W2 b0 c' := by rw [hW2]; exact putConf_at hbx1
  have hch : Chg [b0] W1 W2 := by rw [hW2]; exact putConf_chg W1 b0 c'
  rw [← hW2] at hst
  have hn2 : Nw w W2 := nw_chg2 (HN0.out.trans hn1) hch (fun k hk => by have := HB0.out; simp at hk; omega)
  have hrd2 : Rd W2 1 c'.cA (cuts.take 70).length (nums (cuts.take 70)) := by
    rw [hW2]
    exact rd_chg hrd (putConf_chg W1 b0 c') (fun b o e => by have := hap b o e; have := HBX.out.lt; simp; omega)
  haveI : In b0 W1 := ⟨hbx1.lt⟩
  haveI := hcf
  haveI : In b0 W2 := ⟨hcf.lt⟩
  have HN2 := Lib.hid hn2
  have HRD := Lib.hid hrd2
  have HC' := Lib.hid hc'
  clear hW2 hch hn2 hrd hrd2 hn1 hbx1 hc' hap
  go_wp2_with fail
  refine (HFE.out W2 HN2.out).mono ?_
  rintro e W3 ⟨v, rfl, hown, hn3⟩
  obtain ⟨A3, c3, rfl, hcs, hle, hcm3, -⟩ := hown.form
  obtain ⟨L, hL⟩ : ∃ L, L = l.take 7 := ⟨_, rfl⟩
  rw [← hL] at hown hcs hle ⊢
  obtain ⟨m, hm⟩ : ∃ m, m = L.length := ⟨_, rfl⟩
  rw [← hm] at hown hcs hle ⊢
  have hm7 : m ≤ 7 := by rw [hm, hL, List.length_take]; omega
  have hwl : ∀ y ∈ L, WfX y := fun y hy => HW.out y (List.mem_of_mem_take (hL ▸ hy))
  have hin : In2 W3 c' (cuts.take 70) A3 m c3 L := ⟨HRD.out.nw hn3, by rw [HC'.out, List.length_take, ← HCN.out]; exact Nat.min_comm _ _, by rw [HC'.out]; exact HEN.out, by omega, hle, hcm3, hcs, hwl, fun b o e => (hown.lt b (by rw [e]; rfl)).2⟩
  haveI hca3 : ConfAt W3 b0 c' := hcf.nw hn3
  haveI : In b0 W3 := ⟨hca3.lt⟩
  have HIN := Lib.hid hin
  have HN3 := Lib.hid (HN2.out.trans hn3)
  have HM7 := Lib.hid hm7
  have HM := Lib.hid hm
  obtain ⟨cu, hcu⟩ : ∃ cu, cu = cuts.take 70 := ⟨_, rfl⟩
  rw [← hcu] at HIN
  have HAW := Lib.hid (fun W (hq : Nw W3 W) => awake_any W (HF.out.nw (HN3.out.trans hq)))
  have hmc : (m : Int) ≤ (c3 : Int) := by omega
  clear hown hcs hle hcm3 hL hm hwl hin hm7 hn3 hcu hst HRD HC' HFE HSM hcf
  have HCK1 := Lib.hid (fun W (hq : Nw W3 W) => check_anyL (HIN.out.nw hq) (HF.out.nw (HN3.out.trans hq)))
  have HPR := Lib.hid (fun W (hq : Nw W3 W) => prefix_any s A3 m c3 L W (by have := HM7.out; omega) (HIN.out.nw hq).nc (HIN.out.nw hq).cap_ (HIN.out.nw hq).hl (fun y hy => (HIN.out.wf y hy).wf))
  obtain ⟨e1, he1⟩ : ∃ e1, e1 = begE c' cu L := ⟨_, rfl⟩
  obtain ⟨s1, hs1⟩ : ∃ s1, s1 = (findO c' cu L).isSome := ⟨_, rfl⟩
  obtain ⟨e2, he2⟩ : ∃ e2, e2 = preE s L := ⟨_, rfl⟩
  have HPL := Lib.hid (fun (h1 : e1 = 0) (h2 : e2 = 0) (h3 : s1 = true) => prefix_plain (c := c') (cuts := cu) (l := L) (s := s) (he1 ▸ h1) (he2 ▸ h2) (hs1 ▸ h3))
  rw [← he1, ← hs1] at HCK1
  rw [← he2] at HPR
  unfold confV at HCK1
  clear he1 hs1 he2
  go_wp2_with fail
  refine (HCK1.out _ ((by repeat (first | exact Xt.Nw.refl _ | refine Xt.Nw.drew ?_ | refine Xt.Nw.drewN ?_ _ | refine Xt.Nw.alloc ?_ _ | refine Xt.Nw.joined ?_ | refine Xt.Nw.drewd ?_ | refine Xt.Nw.drewdN ?_ | refine Xt.Nw.ext ?_ | refine Xt.Nw.ext_some ?_ (by assumption) | refine Xt.Nw.setCell ?_ (by simp [go_sem] <;> omega) _)))).mono ?_
  rintro e W4 ⟨rfl, hn4⟩
  haveI hca4 : ConfAt W4 b0 c' := hca3.nw hn4
  haveI : In b0 W4 := ⟨hca4.lt⟩
  have HN4 := Lib.hid hn4
  clear hn4
  go_wp2_with fail
  refine (HPR.out _ (Nw.trans HN4.out ((by repeat (first | exact Xt.Nw.refl _ | refine Xt.Nw.drew ?_ | refine Xt.Nw.drewN ?_ _ | refine Xt.Nw.alloc ?_ _ | refine Xt.Nw.joined ?_ | refine Xt.Nw.drewd ?_ | refine Xt.Nw.drewdN ?_ | refine Xt.Nw.ext ?_ | refine Xt.Nw.ext_some ?_ (by assumption) | refine Xt.Nw.setCell ?_ (by simp [go_sem] <;> omega) _))))).mono ?_
  rintro e W5 ⟨v, rfl, hown, hn5⟩
  haveI hca5 : ConfAt W5 b0 c' := hca4.nw (Nw.trans ((by repeat (first | exact Xt.Nw.refl _ | refine Xt.Nw.drew ?_ | refine Xt.Nw.drewN ?_ _ | refine Xt.Nw.alloc ?_ _ | refine Xt.Nw.joined ?_ | refine Xt.Nw.drewd ?_ | refine Xt.Nw.drewdN ?_ | refine Xt.Nw.ext ?_ | refine Xt.Nw.ext_some ?_ (by assumption) | refine Xt.Nw.setCell ?_ (by simp [go_sem] <;> omega) _))) hn5)
  haveI : In b0 W5 := ⟨hca5.lt⟩
  obtain ⟨A5, c5, rfl, hcs5, hle5, hcm5, -⟩ := hown.form
  obtain ⟨m5, hm5⟩ : ∃ m5, m5 = (preW s L).length := ⟨_, rfl⟩
  have HIN5 := Lib.hid (show In2 W5 c' cu A5 (preW s L).length c5 (preW s L) from { HIN.out.nw (Nw.trans HN4.out (Nw.trans ((by repeat (first | exact Xt.Nw.refl _ | refine Xt.Nw.drew ?_ | refine Xt.Nw.drewN ?_ _ | refine Xt.Nw.alloc ?_ _ | refine Xt.Nw.joined ?_ | refine Xt.Nw.drewd ?_ | refine Xt.Nw.drewdN ?_ | refine Xt.Nw.ext ?_ | refine Xt.Nw.ext_some ?_ (by assumption) | refine Xt.Nw.setCell ?_ (by simp [go_sem] <;> omega) _))) hn5)) with n1 := (by have := preW_len s L; have := HM.out; have := HM7.out; omega), nc := hle5, cap_ := hcm5, hl := hcs5, wf := pres_wfx HIN.out.wf, lt := fun b o e => (hown.lt b (by rw [e]; rfl)).2 })
  rw [← hm5] at HIN5 ⊢
  have HN5 := Lib.hid (Nw.trans HN4.out (Nw.trans ((by repeat (first | exact Xt.Nw.refl _ | refine Xt.Nw.drew ?_ | refine Xt.Nw.drewN ?_ _ | refine Xt.Nw.alloc ?_ _ | refine Xt.Nw.joined ?_ | refine Xt.Nw.drewd ?_ | refine Xt.Nw.drewdN ?_ | refine Xt.Nw.ext ?_ | refine Xt.Nw.ext_some ?_ (by assumption) | refine Xt.Nw.setCell ?_ (by simp [go_sem] <;> omega) _))) hn5))
  clear hown hcs5 hle5 hcm5 hm5 hn5
  by_cases h1 : e1 = 0
  · by_cases h2 : e2 = 0
    · cases hs : s1 with
      | true =>
        obtain ⟨h4, h5⟩ := HPL.out h1 h2 hs
        have HCK2 := Lib.hid (fun W (hq : Nw W5 W) => check_anyL (HIN5.out.nw hq) (HF.out.nw (HN3.out.trans (HN5.out.trans hq))))
        rw [h4, h5] at HCK2
        unfold confV at HCK2
        subst h1 h2
        go_wp2_with fail
        refine (HCK2.out _ ((by repeat (first | exact Xt.Nw.refl _ | refine Xt.Nw.drew ?_ | refine Xt.Nw.drewN ?_ _ | refine Xt.Nw.alloc ?_ _ | refine Xt.Nw.joined ?_ | refine Xt.Nw.drewd ?_ | refine Xt.Nw.drewdN ?_ | refine Xt.Nw.ext ?_ | refine Xt.Nw.ext_some ?_ (by assumption) | refine Xt.Nw.setCell ?_ (by simp [go_sem] <;> omega) _)))).mono ?_
        rintro e W7 ⟨rfl, hn7⟩
        have HN7 := Lib.hid (HN5.out.trans (Nw.trans ((by repeat (first | exact Xt.Nw.refl _ | refine Xt.Nw.drew ?_ | refine Xt.Nw.drewN ?_ _ | refine Xt.Nw.alloc ?_ _ | refine Xt.Nw.joined ?_ | refine Xt.Nw.drewd ?_ | refine Xt.Nw.drewdN ?_ | refine Xt.Nw.ext ?_ | refine Xt.Nw.ext_some ?_ (by assumption) | refine Xt.Nw.setCell ?_ (by simp [go_sem] <;> omega) _))) hn7))
        clear hn7
        go_wp2_with fail
        refine (HAW.out _ (Nw.trans HN7.out ((by repeat (first | exact Xt.Nw.refl _ | refine Xt.Nw.drew ?_ | refine Xt.Nw.drewN ?_ _ | refine Xt.Nw.alloc ?_ _ | refine Xt.Nw.joined ?_ | refine Xt.Nw.drewd ?_ | refine Xt.Nw.drewdN ?_ | refine Xt.Nw.ext ?_ | refine Xt.Nw.ext_some ?_ (by assumption) | refine Xt.Nw.setCell ?_ (by simp [go_sem] <;> omega) _))))).mono ?_
        rintro e W6 ⟨rfl, hn6⟩
        have HN6 := Lib.hid (HN3.out.trans (Nw.trans (Nw.trans HN7.out ((by repeat (first | exact Xt.Nw.refl _ | refine Xt.Nw.drew ?_ | refine Xt.Nw.drewN ?_ _ | refine Xt.Nw.alloc ?_ _ | refine Xt.Nw.joined ?_ | refine Xt.Nw.drewd ?_ | refine Xt.Nw.drewdN ?_ | refine Xt.Nw.ext ?_ | refine Xt.Nw.ext_some ?_ (by assumption) | refine Xt.Nw.setCell ?_ (by simp [go_sem] <;> omega) _)))) hn6))
        clear hn6
        go_wp2
        go_ret
        exact ⟨rfl, HN6.out⟩
      | false =>
        subst h1 h2
        go_wp2_with fail
        refine (HAW.out _ (Nw.trans HN5.out ((by repeat (first | exact Xt.Nw.refl _ | refine Xt.Nw.drew ?_ | refine Xt.Nw.drewN ?_ _ | refine Xt.Nw.alloc ?_ _ | refine Xt.Nw.joined ?_ | refine Xt.Nw.drewd ?_ | refine Xt.Nw.drewdN ?_ | refine Xt.Nw.ext ?_ | refine Xt.Nw.ext_some ?_ (by assumption) | refine Xt.Nw.setCell ?_ (by simp [go_sem] <;> omega) _))))).mono ?_
        rintro e W6 ⟨rfl, hn6⟩
        have HN6 := Lib.hid (HN3.out.trans (Nw.trans (Nw.trans HN5.out ((by repeat (first | exact Xt.Nw.refl _ | refine Xt.Nw.drew ?_ | refine Xt.Nw.drewN ?_ _ | refine Xt.Nw.alloc ?_ _ | refine Xt.Nw.joined ?_ | refine Xt.Nw.drewd ?_ | refine Xt.Nw.drewdN ?_ | refine Xt.Nw.ext ?_ | refine Xt.Nw.ext_some ?_ (by assumption) | refine Xt.Nw.setCell ?_ (by simp [go_sem] <;> omega) _)))) hn6))
        clear hn6
        go_wp2
        go_ret
        exact ⟨rfl, HN6.out⟩
    · have hne2 : (e2 != 0) = true := by simpa using h2
      subst h1
      go_wp2_with fail
      refine (HAW.out _ (Nw.trans HN5.out ((by repeat (first | exact Xt.Nw.refl _ | refine Xt.Nw.drew ?_ | refine Xt.Nw.drewN ?_ _ | refine Xt.Nw.alloc ?_ _ | refine Xt.Nw.joined ?_ | refine Xt.Nw.drewd ?_ | refine Xt.Nw.drewdN ?_ | refine Xt.Nw.ext ?_ | refine Xt.Nw.ext_some ?_ (by assumption) | refine Xt.Nw.setCell ?_ (by simp [go_sem] <;> omega) _))))).mono ?_
      rintro e W6 ⟨rfl, hn6⟩
      have HN6 := Lib.hid (HN3.out.trans (Nw.trans (Nw.trans HN5.out ((by repeat (first | exact Xt.Nw.refl _ | refine Xt.Nw.drew ?_ | refine Xt.Nw.drewN ?_ _ | refine Xt.Nw.alloc ?_ _ | refine Xt.Nw.joined ?_ | refine Xt.Nw.drewd ?_ | refine Xt.Nw.drewdN ?_ | refine Xt.Nw.ext ?_ | refine Xt.Nw.ext_some ?_ (by assumption) | refine Xt.Nw.setCell ?_ (by simp [go_sem] <;> omega) _)))) hn6))
      clear hn6
      go_wp2
      go_ret
      exact ⟨rfl, HN6.out⟩
  · have hne1 : (e1 != 0) = true := by simpa using h1
    go_wp2_with fail
    refine (HAW.out _ (Nw.trans HN5.out ((by repeat (first | exact Xt.Nw.refl _ | refine Xt.Nw.drew ?_ | refine Xt.Nw.drewN ?_ _ | refine Xt.Nw.alloc ?_ _ | refine Xt.Nw.joined ?_ | refine Xt.Nw.drewd ?_ | refine Xt.Nw.drewdN ?_ | refine Xt.Nw.ext ?_ | refine Xt.Nw.ext_some ?_ (by assumption) | refine Xt.Nw.setCell ?_ (by simp [go_sem] <;> omega) _))))).mono ?_
    rintro e W6 ⟨rfl, hn6⟩
    have HN6 := Lib.hid (HN3.out.trans (Nw.trans (Nw.trans HN5.out ((by repeat (first | exact Xt.Nw.refl _ | refine Xt.Nw.drew ?_ | refine Xt.Nw.drewN ?_ _ | refine Xt.Nw.alloc ?_ _ | refine Xt.Nw.joined ?_ | refine Xt.Nw.drewd ?_ | refine Xt.Nw.drewdN ?_ | refine Xt.Nw.ext ?_ | refine Xt.Nw.ext_some ?_ (by assumption) | refine Xt.Nw.setCell ?_ (by simp [go_sem] <;> omega) _)))) hn6))
    clear hn6
    go_wp2
    go_ret
    exact ⟨rfl, HN6.out⟩
end Go.Proofs.YtnfpicnigfmbdaaGreatDoor
