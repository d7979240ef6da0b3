import Derived.Test.YtkikdpdainmlcaaGreatGZw
import Derived.Test.YtkikdpdainmlcaaGreatGLib
import Derived.Test.YtkikdpdainmlcaaGreatGVe
set_option linter.unusedVariables false
set_option linter.unusedSimpArgs false
set_option linter.unnecessarySimpa false
namespace Go.Proofs.YtkikdpdainmlcaaGreat
open Go.RowKit Go.Xt
/-! The law PassagePrefixes. -/
theorem pfx_wfx {s : Int} {x : Cl} (h : WfX x) : WfX (pfx s x) := by
  refine ⟨pfx_wf h.wf, by rw [wpfx_op]; exact h.op, ?_⟩
  have := h.rk
  unfold pfx
  (repeat' split) <;> first | exact this | exact ⟨Int.le_refl 0, by show (0 : Int) < _; decide⟩
theorem wpres_len (s : Int) (l : List Cl) : (pres s l).length ≤ l.length := by
  rw [pres, List.length_map]; exact (List.takeWhile_prefix _).length_le
theorem wpre_wfx {s : Int} {l : List Cl} (h : ∀ y ∈ l, WfX y) : ∀ y ∈ preW s l, WfX y := by
  intro y hy
  unfold preW at hy
  split at hy
  · rw [pres, List.mem_map] at hy
    obtain ⟨x, hx, rfl⟩ := hy
    exact pfx_wfx (h x ((List.takeWhile_prefix _).subset hx))
  · cases hy
theorem wpreW_len (s : Int) (l : List Cl) : (preW s l).length ≤ l.length := by
  unfold preW
  split
  · exact wpres_len s l
  · simp
theorem pprefix_law {c : Cf} {cuts : List Nat} {l : List Cl} {s : Int} (h1 : (pChk c cuts l).2 = 0) (h2 : preE s l = 0) : pChk c cuts (preW s l) = (0, 0) := by
  have hs : -1 ≤ s := by
    unfold preE at h2
    split at h2
    · split at h2
      · cases h2
      · omega
    · cases h2
  have hp : preW s l = pres s l := by unfold preW; rw [if_pos h2]
  rw [hp]
  exact prefixes_plain hs h1
theorem pprefix_err {c : Cf} {cuts : List Nat} {l : List Cl} {s : Int} (h1 : (pChk c cuts l).2 = 0) (h2 : preE s l ≠ 0) : preE s l = 3 := by
  have hb := wChk_bad (pChk_ok.1 h1).1
  unfold preE at h2 ⊢
  rw [if_pos hb] at h2 ⊢
  split at h2
  · rename_i h; rw [if_pos h]
  · exact absurd rfl h2
set_option maxRecDepth 20000 in
set_option maxHeartbeats 8000000 in
theorem prefixes_M (c : Cf) (cuts : List Nat) (A : Option Addr) (n cap : Nat) (l : List Cl) (s : Int) (w : World) (hr : Rd w 1 c.cA cuts.length (nums cuts)) (hcn : c.cn = cuts.length) (he : 0 ≤ c.eng ∧ c.eng < 256) (hcm : c.cc ≤ maxLen) (hcc : c.cn ≤ c.cc) (hnc : n ≤ cap) (hc : cap ≤ 9223372036854775807) (hl : Cs w A n l) (hw : ∀ y ∈ l, WfX y) :
    Calls Tryz.prog 6 #[confV c, .slice A n cap, .int .i64 s] w fun e w' => e = .returned (.bool true) ∧ Nw w w' := by
  obtain ⟨b0, hb0⟩ : ∃ b, b = w.heap.size := ⟨_, rfl⟩
  obtain ⟨W0, hW0⟩ : ∃ W, W = w.alloc (cellsOf c 27) := ⟨_, rfl⟩
  have hn0 : Nw w W0 := by rw [hW0]; exact (Nw.refl w).alloc _
  haveI hca : ConfAt W0 b0 c := by rw [hW0]; exact ⟨fun i v hv => by unfold cellsOf; unfold ccells at hv; rw [hb0, World.cell?_alloc_new]; simpa using hv, by rw [hb0]; simp⟩
  have hbx : BoxAt W0 b0 := by rw [hW0, hb0]; exact ConfAt.box
  have HSM := Lib.hid (small_any c cuts W0 hcn hcc hcm (Rd.nw hr hn0))
  obtain ⟨nq, hnq⟩ : ∃ k, k = min n 20 := ⟨_, rfl⟩
  have hmin : min (n : Int) 20 = (nq : Int) := by omega
  have hnqc : nq ≤ cap := by omega
  have hlq : Cs w A nq (l.take 20) := by
    rcases Nat.le_total n 20 with h | h
    · rw [List.take_of_length_le (by rw [hl.1]; exact h), show nq = n by omega]; exact hl
    · rw [show nq = 20 by omega]; exact hl.take h
  have HFE := Lib.hid (fun W (hq : Nw w W) => few30_any A nq cap (l.take 20) W hnqc hc (hlq.nw hq))
  have HW := Lib.hid hw
  have HEN := Lib.hid he
  have HCN := Lib.hid hcn
  unfold cellsOf at hW0
  have HW0 := Lib.hid hW0
  have HN0 := Lib.hid hn0
  have HB0 := Lib.hid hb0
  have HBX := Lib.hid hbx
  unfold confV at HSM ⊢
  haveI : In b0 W0 := ⟨hca.lt⟩
  clear hlq hnq hb0 hW0 hn0 hbx hr hcn he hcm hcc hl hw
  go_enter Tryz.func6, Tryz.ntmps6
  go_upto_region 1 with (fail)
  rw [← HW0.out, ← HB0.out]
  go_wp2_with fail
  refine HSM.out.mono ?_
  rintro e W1 ⟨c', rfl, hc', hrd, hap, hn1⟩
  have hbx1 := HBX.out.nw hn1
  have hst := run_storeConf (c := c') hbx1
  unfold confV at hst
  obtain ⟨W2, hW2⟩ : ∃ W, W = putConf W1 b0 c' := ⟨_, rfl⟩
  have hcf : ConfAt W2 b0 c' := by rw [hW2]; exact putConf_at hbx1
  have hch : Chg [b0] W1 W2 := by rw [hW2]; exact putConf_chg W1 b0 c'
  rw [← hW2] at hst
  have hn2 : Nw w W2 := nw_chg2 (HN0.out.trans hn1) hch (fun k hk => by have := HB0.out; simp at hk; omega)
  have hrd2 : Rd W2 1 c'.cA (cuts.take 70).length (nums (cuts.take 70)) := by
    rw [hW2]
    exact rd_chg hrd (putConf_chg W1 b0 c') (fun b o e => by have := hap b o e; have := HBX.out.lt; simp; omega)
  haveI : In b0 W1 := ⟨hbx1.lt⟩
  haveI := hcf
  haveI : In b0 W2 := ⟨hcf.lt⟩
  have HN2 := Lib.hid hn2
  have HRD := Lib.hid hrd2
  have HC' := Lib.hid hc'
  clear hW2 hch hn2 hrd hrd2 hn1 hbx1 hc' hap
  go_wp2_with fail
  refine (HFE.out W2 HN2.out).mono ?_
  rintro e W3 ⟨v, rfl, hown, hn3⟩
  obtain ⟨A3, c3, rfl, hcs, hle, hcm3, hfz⟩ := hown.form
  obtain ⟨L, hL⟩ : ∃ L, L = (l.take 20).take 30 := ⟨_, rfl⟩
  rw [← hL] at hown hcs hle ⊢
  obtain ⟨m, hm⟩ : ∃ m, m = L.length := ⟨_, rfl⟩
  rw [← hm] at hown hcs hle ⊢
  have hm16 : m ≤ 20 := by rw [hm, hL]; simp only [List.length_take]; omega
  have hwl : ∀ y ∈ L, WfX y := fun y hy => HW.out y (List.mem_of_mem_take (List.mem_of_mem_take (hL ▸ hy)))
  have hin : In3 W3 c' (cuts.take 70) A3 m c3 L := ⟨HRD.out.nw hn3, by rw [HC'.out, List.length_take, ← HCN.out]; exact Nat.min_comm _ _, by rw [HC'.out]; exact HEN.out, by omega, hle, hcm3, hcs, hwl⟩
  haveI hca3 : ConfAt W3 b0 c' := hcf.nw hn3
  haveI : In b0 W3 := ⟨hca3.lt⟩
  have HIN := Lib.hid hin
  have HN3 := Lib.hid (HN2.out.trans hn3)
  have HM16 := Lib.hid hm16
  have HM := Lib.hid hm
  obtain ⟨cu, hcu⟩ : ∃ cu, cu = cuts.take 70 := ⟨_, rfl⟩
  rw [← hcu] at HIN
  have HAW := Lib.hid (fun W (hq : Nw W3 W) => awake_any W)
  have hmc : (m : Int) ≤ (c3 : Int) := by omega
  clear hown hcs hle hcm3 hfz hL hm hwl hin hm16 hn3 hcu hst HRD HC' HFE HSM hcf
  have HCK1 := Lib.hid (fun W (hq : Nw W3 W) => pcheck_any (HIN.out.nw hq))
  have HPR := Lib.hid (fun W (hq : Nw W3 W) => prefix_any s A3 m c3 L W (by have := HM16.out; omega) (HIN.out.nw hq).nc (HIN.out.nw hq).cap_ (HIN.out.nw hq).hl (fun y hy => (HIN.out.wf y hy).wf))
  obtain ⟨p1, hp1⟩ : ∃ p1, p1 = (pChk c' cu L).1 := ⟨_, rfl⟩
  obtain ⟨e1, he1⟩ : ∃ e1, e1 = (pChk c' cu L).2 := ⟨_, rfl⟩
  obtain ⟨e2, he2⟩ : ∃ e2, e2 = preE s L := ⟨_, rfl⟩
  have HPL := Lib.hid (fun (h1 : e1 = 0) (h2 : e2 = 0) => pprefix_law (c := c') (cuts := cu) (l := L) (s := s) (he1 ▸ h1) (he2 ▸ h2))
  have HPE := Lib.hid (show e1 = 0 → e2 ≠ 0 → e2 = 3 from fun h1 h2 => he2 ▸ pprefix_err (c := c') (cuts := cu) (he1 ▸ h1) (he2 ▸ h2))
  unfold PcP at HCK1
  rw [← hp1, ← he1] at HCK1
  rw [← he2] at HPR
  unfold confV at HCK1
  clear hp1 he1 he2
  go_wp2_with fail
  refine (HCK1.out _ (nwa)).mono ?_
  rintro e W4 ⟨rfl, hn4⟩
  haveI hca4 : ConfAt W4 b0 c' := hca3.nw hn4
  haveI : In b0 W4 := ⟨hca4.lt⟩
  have HN4 := Lib.hid hn4
  clear hn4
  by_cases h1 : e1 = 0
  · have h1e := h1
    subst h1
    go_wp2_with fail
    refine (HPR.out _ (Nw.trans HN4.out (nwa))).mono ?_
    rintro e W5 ⟨v, rfl, hown, hn5⟩
    haveI hca5 : ConfAt W5 b0 c' := hca4.nw (Nw.trans (nwa) hn5)
    haveI : In b0 W5 := ⟨hca5.lt⟩
    obtain ⟨A5, c5, rfl, hcs5, hle5, hcm5, -⟩ := hown.form
    obtain ⟨m5, hm5⟩ : ∃ m5, m5 = (preW s L).length := ⟨_, rfl⟩
    have HIN5 := Lib.hid (show In3 W5 c' cu A5 (preW s L).length c5 (preW s L) from { HIN.out.nw (Nw.trans HN4.out (Nw.trans (nwa) hn5)) with n1 := (by have := wpreW_len s L; have := HM.out; have := HM16.out; omega), nc := hle5, cap_ := hcm5, hl := hcs5, wf := wpre_wfx HIN.out.wf })
    rw [← hm5] at HIN5 ⊢
    have HN5 := Lib.hid (Nw.trans HN4.out (Nw.trans (nwa) hn5))
    clear hown hcs5 hle5 hcm5 hm5 hn5
    by_cases h2 : e2 = 0
    · have h4 := HPL.out h1e h2
      have HCK2 := Lib.hid (fun W (hq : Nw W5 W) => pcheck_any (HIN5.out.nw hq))
      rw [h4] at HCK2
      unfold PcP confV at HCK2
      clear h4
      subst h2
      go_wp2_with fail
      refine (HCK2.out _ (nwa)).mono ?_
      rintro e W7 ⟨rfl, hn7⟩
      have HN7 := Lib.hid (Nw.trans HN5.out (Nw.trans (nwa) hn7))
      clear hn7
      go_wp2_with fail
      refine (HAW.out _ (Nw.trans HN7.out (nwa))).mono ?_
      rintro e W6 ⟨rfl, hn6⟩
      have HN6 := Lib.hid (HN3.out.trans (Nw.trans (Nw.trans HN7.out (nwa)) hn6))
      clear hn6
      go_wp2
      go_ret
      exact ⟨rfl, HN6.out⟩
    · have hne2 : (e2 != 0) = true := by simpa using h2
      obtain rfl := HPE.out h1e h2
      go_wp2_with fail
      refine (HAW.out _ (Nw.trans HN5.out (nwa))).mono ?_
      rintro e W6 ⟨rfl, hn6⟩
      have HN6 := Lib.hid (HN3.out.trans (Nw.trans (Nw.trans HN5.out (nwa)) hn6))
      clear hn6
      go_wp2
      go_ret
      exact ⟨rfl, HN6.out⟩
  · have hne1 : (e1 != 0) = true := by simpa using h1
    go_wp2_with fail
    refine (HAW.out _ (Nw.trans HN4.out (nwa))).mono ?_
    rintro e W6 ⟨rfl, hn6⟩
    have HN6 := Lib.hid (HN3.out.trans (Nw.trans (Nw.trans HN4.out (nwa)) hn6))
    clear hn6
    go_wp2
    go_ret
    exact ⟨rfl, HN6.out⟩
end Go.Proofs.YtkikdpdainmlcaaGreat
namespace Go.Proofs.YtkikdpdainmlcaaGreat
open Go.ChangeShapes Go.WideShapes Go.ChangeAt Go.RowKit Go.Joins Go.Xt
/-! A configuration opened. -/
section
variable {H : Type} {enc : TypeId × Value → H} {w : World} {base : Nat} {spare : Nat → Bool} {held : Bool}
theorem cInt : Tryz.prog.cellsOf 3 = 1 := by kernel_rfl
theorem cU8 : Tryz.prog.cellsOf 5 = 1 := by kernel_rfl
theorem cU64 : Tryz.prog.cellsOf 39 = 1 := by kernel_rfl
theorem cSl : Tryz.prog.cellsOf 22 = 1 := by kernel_rfl
theorem cDom : Tryz.prog.cellsOf 24 = 3 := by kernel_rfl
theorem cArr : Tryz.prog.cellsOf 25 = 6 := by kernel_rfl
theorem cConf : Tryz.prog.cellsOf 27 = 16 := by kernel_rfl
theorem int_of {k : IntKind} {t : TypeId} {fuel : Nat} {v : Value} {x : Option (DataW H × List MemPlace)} (ht : Tryz.prog.underlying t = some (.int k)) (h : DataW.trod enc Tryz.prog w base spare held fuel t [v] = x) (hx : x.isSome = true) : ∃ n, v = .int k n ∧ (Lit.int k n).wf = true := by
  obtain ⟨y, hy⟩ := Option.isSome_iff_exists.1 hx
  rw [hy] at h
  obtain ⟨n, e, _, hw⟩ := DataW.trod_int ht h
  simp at e
  exact ⟨n, e, hw⟩
theorem some_of {α : Type} {xs : List α} {n i : Nat} (h : xs.length = n) (hi : i < n) : (xs[i]?).isSome = true := by
  rw [List.getElem?_eq_getElem (by omega)]; rfl
set_option maxRecDepth 100000 in
theorem open_conf {v : Value} {d : DataW H} {p : List MemPlace} {r : Reach} {b0 : Nat} (hv : Value.okWide Tryz.prog w r b0 27 v) (h : DataW.Trod enc Tryz.prog w base (fun _ => true) held 27 v d p) :
    ∃ (c : Cf) (cuts : List Nat), v = confV c ∧ c.cn = cuts.length ∧ Rd w 1 c.cA cuts.length (nums cuts) ∧ (0 ≤ c.eng ∧ c.eng < 256) ∧ c.cc ≤ maxLen ∧ c.cn ≤ c.cc := by
  obtain ⟨cs, rfl, _⟩ := okWide_struct Tryz.underlying27 hv
  obtain ⟨fuel, hf⟩ := h
  have hf : DataW.trod enc Tryz.prog w base (fun _ => true) held fuel 27 cs.toList = some (d, p) := by simpa [Value.cells] using hf
  obtain ⟨xs, m, -, -, hl, hxl, hfi⟩ := DataW.trod_struct Tryz.underlying27 hf
  rw [cConf] at hl
  obtain ⟨v0, v1, v2, v3, v4, v5, v6, v7, v8, v9, v10, v11, v12, v13, v14, v15, hL⟩ : ∃ v0 v1 v2 v3 v4 v5 v6 v7 v8 v9 v10 v11 v12 v13 v14 v15, cs.toList = [v0, v1, v2, v3, v4, v5, v6, v7, v8, v9, v10, v11, v12, v13, v14, v15] := by
    match cs.toList, hl with
    | [v0, v1, v2, v3, v4, v5, v6, v7, v8, v9, v10, v11, v12, v13, v14, v15], _ => exact ⟨v0, v1, v2, v3, v4, v5, v6, v7, v8, v9, v10, v11, v12, v13, v14, v15, rfl⟩
  have hcs : cs = #[v0, v1, v2, v3, v4, v5, v6, v7, v8, v9, v10, v11, v12, v13, v14, v15] := by cases cs; simp at hL; rw [hL]
  have hxl : xs.length = 9 := hxl
  have g0 : DataW.trod enc Tryz.prog w base (fun _ => true) held m 3 ((cs.toList.drop 0).take (Tryz.prog.cellsOf 3)) = xs[0]? := hfi 0 _ rfl
  have g1 : DataW.trod enc Tryz.prog w base (fun _ => true) held m 3 ((cs.toList.drop 1).take (Tryz.prog.cellsOf 3)) = xs[1]? := hfi 1 _ rfl
  have g2 : DataW.trod enc Tryz.prog w base (fun _ => true) held m 5 ((cs.toList.drop 2).take (Tryz.prog.cellsOf 5)) = xs[2]? := hfi 2 _ rfl
  have g3 : DataW.trod enc Tryz.prog w base (fun _ => true) held m 3 ((cs.toList.drop 3).take (Tryz.prog.cellsOf 3)) = xs[3]? := hfi 3 _ rfl
  have g4 : DataW.trod enc Tryz.prog w base (fun _ => true) held m 24 ((cs.toList.drop 4).take (Tryz.prog.cellsOf 24)) = xs[4]? := hfi 4 _ rfl
  have g5 : DataW.trod enc Tryz.prog w base (fun _ => true) held m 25 ((cs.toList.drop 7).take (Tryz.prog.cellsOf 25)) = xs[5]? := hfi 5 _ rfl
  have g6 : DataW.trod enc Tryz.prog w base (fun _ => true) held m 3 ((cs.toList.drop 13).take (Tryz.prog.cellsOf 3)) = xs[6]? := hfi 6 _ rfl
  have g7 : DataW.trod enc Tryz.prog w base (fun _ => true) held m 3 ((cs.toList.drop 14).take (Tryz.prog.cellsOf 3)) = xs[7]? := hfi 7 _ rfl
  have g8 : DataW.trod enc Tryz.prog w base (fun _ => true) held m 3 ((cs.toList.drop 15).take (Tryz.prog.cellsOf 3)) = xs[8]? := hfi 8 _ rfl
  simp only [hL, cInt, cU8, cDom, cArr, List.drop_zero, List.drop_succ_cons, List.take_succ_cons, List.take_zero] at g0 g1 g2 g3 g4 g5 g6 g7 g8
  obtain ⟨thr, rfl, -⟩ := int_of Tryz.underlying3 g0 (some_of hxl (by decide))
  obtain ⟨sl, rfl, -⟩ := int_of Tryz.underlying3 g1 (some_of hxl (by decide))
  obtain ⟨eng, rfl, weng⟩ := int_of Tryz.underlying5 g2 (some_of hxl (by decide))
  obtain ⟨bk, rfl, -⟩ := int_of Tryz.underlying3 g3 (some_of hxl (by decide))
  obtain ⟨lk, rfl, -⟩ := int_of Tryz.underlying3 g6 (some_of hxl (by decide))
  obtain ⟨tr, rfl, -⟩ := int_of Tryz.underlying3 g7 (some_of hxl (by decide))
  obtain ⟨ba, rfl, -⟩ := int_of Tryz.underlying3 g8 (some_of hxl (by decide))
  -- the towers
  obtain ⟨x5, hx5⟩ := Option.isSome_iff_exists.1 (some_of (i := 5) hxl (by decide))
  rw [hx5] at g5
  obtain ⟨L5, hL5⟩ : ∃ L5, L5 = [v7, v8, v9, v10, v11, v12] := ⟨_, rfl⟩
  rw [← hL5] at g5
  obtain ⟨ys, m5, -, -, -, hyl, hyi⟩ := DataW.trod_array Tryz.underlying25 g5
  have a0 : DataW.trod enc Tryz.prog w base (fun _ => true) held m5 3 ((L5.drop (0 * Tryz.prog.cellsOf 3)).take (Tryz.prog.cellsOf 3)) = ys[0]? := hyi 0 (by decide)
  have a1 : DataW.trod enc Tryz.prog w base (fun _ => true) held m5 3 ((L5.drop (1 * Tryz.prog.cellsOf 3)).take (Tryz.prog.cellsOf 3)) = ys[1]? := hyi 1 (by decide)
  have a2 : DataW.trod enc Tryz.prog w base (fun _ => true) held m5 3 ((L5.drop (2 * Tryz.prog.cellsOf 3)).take (Tryz.prog.cellsOf 3)) = ys[2]? := hyi 2 (by decide)
  have a3 : DataW.trod enc Tryz.prog w base (fun _ => true) held m5 3 ((L5.drop (3 * Tryz.prog.cellsOf 3)).take (Tryz.prog.cellsOf 3)) = ys[3]? := hyi 3 (by decide)
  have a4 : DataW.trod enc Tryz.prog w base (fun _ => true) held m5 3 ((L5.drop (4 * Tryz.prog.cellsOf 3)).take (Tryz.prog.cellsOf 3)) = ys[4]? := hyi 4 (by decide)
  have a5 : DataW.trod enc Tryz.prog w base (fun _ => true) held m5 3 ((L5.drop (5 * Tryz.prog.cellsOf 3)).take (Tryz.prog.cellsOf 3)) = ys[5]? := hyi 5 (by decide)
  simp only [hL5, cInt, Nat.zero_mul, Nat.one_mul, Nat.mul_one, List.drop_zero, List.drop_succ_cons, List.take_succ_cons, List.take_zero] at a0 a1 a2 a3 a4 a5
  obtain ⟨t1, rfl, -⟩ := int_of Tryz.underlying3 a0 (some_of hyl (by decide))
  obtain ⟨t2, rfl, -⟩ := int_of Tryz.underlying3 a1 (some_of hyl (by decide))
  obtain ⟨t3, rfl, -⟩ := int_of Tryz.underlying3 a2 (some_of hyl (by decide))
  obtain ⟨t4, rfl, -⟩ := int_of Tryz.underlying3 a3 (some_of hyl (by decide))
  obtain ⟨t5, rfl, -⟩ := int_of Tryz.underlying3 a4 (some_of hyl (by decide))
  obtain ⟨t6, rfl, -⟩ := int_of Tryz.underlying3 a5 (some_of hyl (by decide))
  -- the domain
  obtain ⟨x4, hx4⟩ := Option.isSome_iff_exists.1 (some_of (i := 4) hxl (by decide))
  rw [hx4] at g4
  obtain ⟨L4, hL4⟩ : ∃ L4, L4 = [v4, v5, v6] := ⟨_, rfl⟩
  rw [← hL4] at g4
  obtain ⟨zs, m4, -, -, -, hzl, hzi⟩ := DataW.trod_struct Tryz.underlying24 g4
  have hzl : zs.length = 3 := hzl
  have e0 : DataW.trod enc Tryz.prog w base (fun _ => true) held m4 5 ((L4.drop 0).take (Tryz.prog.cellsOf 5)) = zs[0]? := hzi 0 _ rfl
  have e1 : DataW.trod enc Tryz.prog w base (fun _ => true) held m4 3 ((L4.drop 1).take (Tryz.prog.cellsOf 3)) = zs[1]? := hzi 1 _ rfl
  have e2 : DataW.trod enc Tryz.prog w base (fun _ => true) held m4 22 ((L4.drop 2).take (Tryz.prog.cellsOf 22)) = zs[2]? := hzi 2 _ rfl
  simp only [hL4, cInt, cU8, cSl, List.drop_zero, List.drop_succ_cons, List.take_succ_cons, List.take_zero] at e0 e1 e2
  obtain ⟨dk, rfl, -⟩ := int_of Tryz.underlying5 e0 (some_of hzl (by decide))
  obtain ⟨dn, rfl, -⟩ := int_of Tryz.underlying3 e1 (some_of hzl (by decide))
  obtain ⟨z2, hz2⟩ := Option.isSome_iff_exists.1 (some_of (i := 2) hzl (by decide))
  rw [hz2] at e2
  have he : 0 ≤ eng ∧ eng < 256 := WfU8 weng
  rcases Deep.open_slice1 Tryz.underlying22 cU64 e2 with ⟨hcs6, _⟩ | ⟨a, len, cap, mm, k, V, D, Pl, hcs6, _, hlc, hcm, hmm, _, hi⟩
  · simp only [List.cons.injEq, and_true] at hcs6
    subst hcs6
    exact ⟨⟨thr, sl, eng, bk, dk, dn, none, 0, 0, t1, t2, t3, t4, t5, t6, lk, tr, ba⟩, [], by rw [hcs]; rfl, rfl, ⟨rfl, fun h => absurd h (by simp)⟩, he, Nat.zero_le _, Nat.zero_le _⟩
  · simp only [List.cons.injEq, and_true] at hcs6
    subst hcs6
    simp only [if_true] at hmm
    have get : ∀ i, i < len → ∃ n : Nat, w.cell? (a.add i) = some (.int .u64 (n : Int)) := fun i hil => by
      obtain ⟨h1, h2⟩ := hi i (by omega)
      obtain ⟨n, h3, hw⟩ := int_of Tryz.underlying39 h2 rfl
      have := WfU64 hw
      exact ⟨n.toNat, by rw [h1, h3]; congr 2; omega⟩
    let cuts := (List.range len).map fun i => if h : i < len then Classical.choose (get i h) else 0
    have hcut : ∀ i (hil : i < len), cuts[i]? = some (Classical.choose (get i hil)) := by
      intro i hil
      simp only [cuts, List.getElem?_map, List.getElem?_range hil, Option.map_some, dif_pos hil]
    have hcl : cuts.length = len := by simp [cuts]
    refine ⟨⟨thr, sl, eng, bk, dk, dn, some a, len, cap, t1, t2, t3, t4, t5, t6, lk, tr, ba⟩, cuts, by rw [hcs]; rfl, hcl.symm, ⟨by simp [nums], fun h0 => ?_⟩, he, hcm, hlc⟩
    have h00 := Classical.choose_spec (get 0 (by omega))
    have hsp : a.spot = none := by
      have := spot_of_cell h00
      rwa [add_zero] at this
    have hb := World.block_lt_of_cell? w _ h00
    rw [add_block] at hb
    refine ⟨a.block, a.off, by cases a; simp at hsp; subst hsp; rfl, hb, fun j u hu => ?_⟩
    have hj : j < len := by have := (List.getElem?_eq_some_iff.1 hu).1; simp [nums] at this; omega
    have h1 := (congrArg w.cell? (add_spot hsp)).symm.trans (Classical.choose_spec (get j hj))
    have h2 := nums_at (hcut j hj)
    rw [hu] at h2
    injection h2 with h2
    rw [h2]
    exact h1
end
end Go.Proofs.YtkikdpdainmlcaaGreat
