import Derived.Test.YtahagplegmcaaaaGreatGWc
import Derived.Test.YtahagplegmcaaaaGreatGWd
import Derived.Test.YtahagplegmcaaaaGreatGVk
set_option linter.unusedVariables false
set_option linter.unusedSimpArgs false
namespace Go.Proofs.YtahagplegmcaaaaGreat
open Go.RowKit Go.Xt
/-! The reference's plan of a move. -/
theorem own_rd {w : World} {base : Nat} {e : TypeId} {size : Nat} {v : Value} {n : Nat} {xs : List Value} (h : w.ownsRow base e size v n xs) : ∃ A c, v = .slice A n c ∧ Rd w size A n xs := by
  have hl := h.1
  rcases own_forms h with ⟨rfl, h0⟩ | ⟨g, c, rfl, _, hin, _, _⟩
  · exact ⟨none, 0, by rw [h0], hl, fun h1 => by omega⟩
  · refine ⟨some ⟨g, 0, none⟩, c, rfl, hl, fun _ => ⟨g, 0, rfl, hin.lt, fun j u hu => ?_⟩⟩
    have hj := (List.getElem?_eq_some_iff.1 hu).1
    rw [Nat.zero_add, h.cellAt j (by omega)]; exact hu
theorem from_take {lo hi : Int} {l : List (Int × Int)} {i : Nat} {y : Int × Int} (h : l[i]? = some y) : fromL lo hi (l.take (i + 1)) = fromL lo hi (l.take i) ++ (if (decide (lo ≤ y.1) && decide (y.1 ≤ hi)) = true then [y.1] else []) := by
  unfold fromL inR; rw [filter_take _ h, List.map_append]; split <;> rfl
theorem to_take {lo hi b : Int} {l : List (Int × Int)} {i : Nat} {y : Int × Int} (h : l[i]? = some y) : toL lo hi b (l.take (i + 1)) = toL lo hi b (l.take i) ++ (if (decide (lo ≤ y.1) && decide (y.1 ≤ hi)) = true then [y.1 + b] else []) := by
  unfold toL inR; rw [filter_take _ h, List.map_append]; split <;> rfl
theorem from_len (lo hi : Int) (l : List (Int × Int)) : (fromL lo hi l).length ≤ l.length := by unfold fromL; rw [List.length_map]; exact List.length_filter_le _ _
theorem to_len (lo hi b : Int) (l : List (Int × Int)) : (toL lo hi b l).length ≤ l.length := by unfold toL; rw [List.length_map]; exact List.length_filter_le _ _
/-- The plan of a move. -/
def planL (lo hi b : Int) (l : List (Int × Int)) : List Cg := btL l (moveL lo hi b l) (mg (fromL lo hi l) (toL lo hi b l))
def PlP (w : World) (l : List Cg) (e : Ending) (w' : World) : Prop := ∃ A c, e = .returned (.tuple #[.slice A l.length c, .int .i64 0]) ∧ Rd w' 5 A l.length (cgcells l) ∧ Nw w w'
theorem plan_len (lo hi b : Int) (l : List (Int × Int)) : (planL lo hi b l).length ≤ 2 * l.length := by
  unfold planL btL
  rw [List.length_map]
  have h1 := mg_len (fromL lo hi l) (toL lo hi b l)
  have h2 := from_len lo hi l
  have h3 := to_len lo hi b l
  omega
theorem move_len (lo hi b : Int) (l : List (Int × Int)) : (moveL lo hi b l).length ≤ l.length := by
  have h1 := mvL_len b (inR lo hi l) (outR lo hi l)
  have h2 := outR_inR lo hi l
  unfold moveL; omega
set_option maxRecDepth 20000 in
set_option maxHeartbeats 8000000 in
theorem rplan (w : World) (va : Value) (l : List (Int × Int)) (ha : w.ownsRow 0 104 2 va l.length (pcells l)) (al : asc l) (hn : l.length ≤ 400000) (lo hi b : Int) (hlh : lo ≤ hi) (h0 : 0 ≤ lo) (hb0 : 0 < b) (hb : b + hi ≤ 18446744073709551615) :
    Calls Tryz.prog 72 #[va, spV lo hi, .int .u64 b] w (PlP w (planL lo hi b l)) := by
  unfold spV
  obtain ⟨A, c, rfl, hr⟩ := own_rd ha
  have HA := Lib.hid ha
  have HASC := Lib.hid al
  have HB := Lib.hid (show lo ≤ hi ∧ 0 ≤ lo ∧ 0 < b ∧ b + hi ≤ 18446744073709551615 from ⟨hlh, h0, hb0, hb⟩)
  have HLN := Lib.hid hn
  have HR := Lib.hid hr
  obtain ⟨n, hne⟩ : ∃ n, n = l.length := ⟨_, rfl⟩
  rw [← hne] at HA HR hn ⊢
  have HN := Lib.hid hne
  obtain ⟨W1, hW1⟩ : ∃ W, W = w.alloc (.cells #[.int .u64 lo, .int .u64 hi] 69) := ⟨_, rfl⟩
  have hN1 : Nw w W1 := by rw [hW1]; exact (by repeat (first | exact Xt.Nw.refl _ | refine Xt.Nw.drew ?_ | refine Xt.Nw.drewN ?_ _ | refine Xt.Nw.alloc ?_ _ | refine Xt.Nw.joined ?_ | refine Xt.Nw.drewd ?_ | refine Xt.Nw.drewdN ?_ | refine Xt.Nw.ext ?_ | refine Xt.Nw.ext_some ?_ (by assumption) | refine Xt.Nw.setCell ?_ (by simp [go_sem] <;> omega) _))
  have b0 : W1.cell? ⟨w.heap.size, 0, none⟩ = some (.int .u64 lo) := by rw [hW1]; simp [go_sem]
  have b1 : W1.cell? ⟨w.heap.size, 1, none⟩ = some (.int .u64 hi) := by rw [hW1]; simp [go_sem]
  have HB0 := Lib.hid b0
  have HB1 := Lib.hid b1
  have HLT := Lib.hid (World.block_lt_of_cell? _ _ b0)
  have HN1 := Lib.hid hN1
  have HW1 := Lib.hid hW1
  have n9 : n ≤ 400000 := hn
  clear ha al hlh h0 hb0 hb hr hne hW1 hN1 b0 b1 hn
  go_enter Tryz.func72, Tryz.ntmps72
  go_upto_region 1 with (fail)
  rw [← HW1.out]
  go_wp2_with fail
  refine (rascending W1 A n c l (HR.out.nw HN1.out) (by omega) HASC.out HN.out.symm).mono ?_
  rintro e Wa ⟨rfl, hna⟩
  have HNA := Lib.hid hna
  clear hna
  go_upto_region 4 with (at_builtin; refine wpList_appS rfl _ _ 58 rfl 104 (.agg #[.int .u64 0, .int .u64 0]) 2 16 Tryz.underlying58 pairInfo rfl (by decide) Wa _ ((Nw.refl Wa).alloc _) _ 0 [] rfl (World.ownsRow_made _ _ _ (Nat.le_refl _) (by unfold maxLen; omega) rfl) _ n c (pcells l) rfl ((HR.out.nw (HN1.out.trans HNA.out)).nw ((Nw.refl Wa).alloc _)) (pcells_one l) (by unfold maxLen; omega) (by omega) ?_; intro vA dA hownA hnil; obtain ⟨A2, c2, rfl⟩ := own_slice hownA)
  have hown : (Wa.ext none dA).ownsRow Wa.heap.size 104 2 (.slice A2 n c2) n (pcells l) := by simpa using hownA
  have hnB : Nw Wa (Wa.ext none dA) := ⟨_, rfl⟩
  have hom : OM ((Wa.ext none dA).alloc (.cells #[.slice A2 n c2] 60)) (Wa.ext none dA).heap.size (.slice A2 n c2) l :=
    ⟨by simp [go_sem], by rw [← HN.out]; exact own_le (own_nw hown ((Nw.refl _).alloc _)) (Nat.zero_le _), fun e => by have := (hown.lt _ e).2; omega, by simp [go_sem], HASC.out⟩
  have hft : ∀ k ∈ foot (Wa.ext none dA).heap.size (.slice A2 n c2), Wa.heap.size ≤ k := fun k hk => by
    rcases mem_foot.1 hk with rfl | hk
    · exact le_size _ _ _
    · exact (hown.lt _ hk).1
  obtain ⟨gq, hgq⟩ : ∃ g, g = (Wa.ext none dA).heap.size := ⟨_, rfl⟩
  obtain ⟨WB, hWB⟩ : ∃ W, W = (Wa.ext none dA).alloc (.cells #[.slice A2 n c2] 60) := ⟨_, rfl⟩
  have hnWB : Nw Wa WB := by rw [hWB]; exact (by repeat (first | exact Xt.Nw.refl _ | refine Xt.Nw.drew ?_ | refine Xt.Nw.drewN ?_ _ | refine Xt.Nw.alloc ?_ _ | refine Xt.Nw.joined ?_ | refine Xt.Nw.drewd ?_ | refine Xt.Nw.drewdN ?_ | refine Xt.Nw.ext ?_ | refine Xt.Nw.ext_some ?_ (by assumption) | refine Xt.Nw.setCell ?_ (by simp [go_sem] <;> omega) _))
  rw [← hgq, ← hWB] at hom
  rw [← hgq] at hft
  have HOM := Lib.hid hom
  have HFT := Lib.hid hft
  have HNWB := Lib.hid hnWB
  have HWB := Lib.hid hWB
  have HGQ := Lib.hid hgq
  clear hownA hnil hown hnB hom hft hnWB hWB hgq
  have bb0 := cell_nw HB0.out (HNA.out.trans HNWB.out)
  have bb1 := cell_nw HB1.out (HNA.out.trans HNWB.out)
  haveI : In w.heap.size WB := ⟨World.block_lt_of_cell? _ _ bb0⟩
  rw [← HWB.out, ← HGQ.out]
  go_wp2_with fail
  refine (rmove_om HOM.out HLN.out lo hi b HB.out.1 HB.out.2.1 HB.out.2.2.1 HB.out.2.2.2).mono ?_
  rintro e W4 ⟨rfl, vm, hu⟩
  have hcw : Nw Wa W4 := nw_chg3 HNWB.out hu.chg HFT.out
  have hwa : Nw W1 Wa := HNA.out
  have b0 := cell_nw HB0.out (hwa.trans hcw)
  have b1 := cell_nw HB1.out (hwa.trans hcw)
  have hw4 : Nw w W4 := HN1.out.trans (hwa.trans hcw)
  obtain ⟨Am, cm, hvm⟩ := own_slice hu.om.row
  have p0 := hu.om.p0
  rw [hvm] at p0
  have HVM := Lib.hid hvm
  have HU := Lib.hid hu.om
  have HW4 := Lib.hid hw4
  have HR4 := Lib.hid (HR.out.nw hw4)
  have HA4 := Lib.hid (own_nw HA.out hw4)
  haveI : In w.heap.size W4 := ⟨World.block_lt_of_cell? _ _ b0⟩
  haveI : In gq W4 := ⟨World.block_lt_of_cell? _ _ p0⟩
  obtain ⟨mm, hmm⟩ : ∃ y, y = (moveL lo hi b l).length := ⟨_, rfl⟩
  rw [← hmm] at p0 HVM
  have HMM := Lib.hid hmm
  clear hu hcw hwa hw4 hvm hmm
  go_wp2
  go_loopw [11, 12, 13] (fun u z a wr => ∃ i : Nat, i ≤ n ∧ a = .int .i64 i ∧ Nw W4 wr ∧ ∃ U, U = u ∧ ∃ Z, Z = z ∧ Hid (CollK wr W4.heap.size U (fromL lo hi (l.take i)) ∧ CollK wr W4.heap.size Z (toL lo hi b (l.take i)) ∧ ∀ g, U.ownBlock = some g → Z.ownBlock ≠ some g))
    (fun _ _ a _ => n - (intOf a).toNat)
  case atStart => exact ⟨0, Nat.zero_le _, rfl, Nw.refl _, _, rfl, _, rfl, Lib.hid ⟨World.ownsRow_nil _ _ _ _, World.ownsRow_nil _ _ _ _, fun g hg => by cases hg⟩⟩
  case round =>
    obtain ⟨i, hi', rfl, ⟨d, rfl⟩, u, hu, z, hz, HC⟩ := hrel
    subst hu hz
    have i0 : (0 : Int) ≤ (i : Int) := by omega
    by_cases hin : i < n
    · have i1 : (i : Int) < (n : Int) := by omega
      have i2 : i < 1000000 := by omega
      obtain ⟨g, o, rfl, hg, hc⟩ := HR4.out.2 (by omega)
      haveI : In g W4 := ⟨hg⟩
      obtain ⟨⟨yk, yx⟩, hy⟩ : ∃ z, l[i]? = some z := ⟨_, List.getElem?_eq_getElem (by have := HN.out; omega)⟩
      have y0 : W4.cell? ⟨g, o + i * 2, none⟩ = some (.int .u64 yk) := hc _ _ (pcells_get l i _ hy).1
      have hs1 := from_take (lo := lo) (hi := hi) hy
      have hs2 := to_take (lo := lo) (hi := hi) (b := b) hy
      have hl1 : (fromL lo hi (l.take i)).length ≤ 1000000 := Nat.le_trans (Nat.le_trans (from_len _ _ _) (List.length_take_le _ _)) (by omega)
      have hl2 : (toL lo hi b (l.take i)).length ≤ 1000000 := Nat.le_trans (Nat.le_trans (to_len _ _ _ _) (List.length_take_le _ _)) (by omega)
      have HIN := Lib.hid hin
      have HHAS := Lib.hid (fun W => rhas_any lo hi yk W)
      have hwr : (decide (lo ≤ yk) && decide (yk ≤ hi)) = true → IntKind.u64.wrap (yk + b) = yk + b := fun e => by
        simp at e
        have := HB.out
        rw [IntKind.wrap_u64]; omega
      obtain ⟨q, hq⟩ : ∃ q, q = (decide (lo ≤ yk) && decide (yk ≤ hi)) := ⟨_, rfl⟩
      simp only at hs1 hs2
      rw [← hq] at hs1 hs2 hwr
      simp only [← hq] at HHAS
      have H1 := Lib.hid hs1
      have H2 := Lib.hid hs2
      obtain ⟨O1, hO1⟩ : ∃ O, O = fromL lo hi (l.take i) := ⟨_, rfl⟩
      obtain ⟨O2, hO2⟩ : ∃ O, O = toL lo hi b (l.take i) := ⟨_, rfl⟩
      obtain ⟨hown1, hown2, hdis⟩ := HC.out
      rw [← hO1] at hown1 hl1
      rw [← hO2] at hown2 hl2
      have HO1 := Lib.hid hO1
      have HO2 := Lib.hid hO2
      unfold CollK at hown1 hown2
      clear HC hq hs1 hs2 hy hc hin hi' hO1 hO2
      cases q with
      | true =>
        have hw2 := hwr rfl
        clear hwr
        go_upto_region 11 with (fail)
        (refine wp_region_nw (by kernel_rfl) (by kernel_rfl) ?_; (repeat (go_big_quiet_step ((go_at_call 29; exact quiet_of (HHAS.out _))))); refine wpQuiet_nil ?_; intro _ hreg; obtain ⟨dW, rfl⟩ : Nw _ _ := hreg)
        replace hown1 := own_nw hown1 ((by repeat (first | exact Xt.Nw.refl _ | refine Xt.Nw.drew ?_ | refine Xt.Nw.drewN ?_ _ | refine Xt.Nw.alloc ?_ _ | refine Xt.Nw.joined ?_ | refine Xt.Nw.drewd ?_ | refine Xt.Nw.drewdN ?_ | refine Xt.Nw.ext ?_ | refine Xt.Nw.ext_some ?_ (by assumption) | refine Xt.Nw.setCell ?_ (by simp [go_sem] <;> omega) _)) : Nw (W4.ext none d) ((W4.ext none d).reg dW))
        replace hown2 := own_nw hown2 ((by repeat (first | exact Xt.Nw.refl _ | refine Xt.Nw.drew ?_ | refine Xt.Nw.drewN ?_ _ | refine Xt.Nw.alloc ?_ _ | refine Xt.Nw.joined ?_ | refine Xt.Nw.drewd ?_ | refine Xt.Nw.drewdN ?_ | refine Xt.Nw.ext ?_ | refine Xt.Nw.ext_some ?_ (by assumption) | refine Xt.Nw.setCell ?_ (by simp [go_sem] <;> omega) _)) : Nw (W4.ext none d) ((W4.ext none d).reg dW))
        go_upto_region 13 with (at_builtin; refine wpList_app2 rfl _ _ 22 rfl 38 (.int .u64 0) 1 8 Tryz.underlying22 kInfo rfl (by decide) W4 ((W4.ext none d).reg dW) ((by repeat (first | exact Xt.Nw.refl _ | refine Xt.Nw.drew ?_ | refine Xt.Nw.drewN ?_ _ | refine Xt.Nw.alloc ?_ _ | refine Xt.Nw.joined ?_ | refine Xt.Nw.drewd ?_ | refine Xt.Nw.drewdN ?_ | refine Xt.Nw.ext ?_ | refine Xt.Nw.ext_some ?_ (by assumption) | refine Xt.Nw.setCell ?_ (by simp [go_sem] <;> omega) _))) _ _ _ rfl (by exact hown1) _ _ _ _ _ (by exact hown2) (by exact hdis) _ 1 1 _ [.int .u64 yk] rfl rfl rfl (by intro z hz; simp at hz; subst hz; rfl) (by unfold maxLen; omega) (by omega) ?_; intro vA dA hownA hownB hdis2)
        have hA := CollK.snoc hownA
        have HA1 := Lib.hid hA
        clear hown1 hown2 hdis
        go_wp2_with (at_builtin; refine wpList_app2 rfl _ _ 22 rfl 38 (.int .u64 0) 1 8 Tryz.underlying22 kInfo rfl (by decide) W4 (W4.ext none dA) ((by repeat (first | exact Xt.Nw.refl _ | refine Xt.Nw.drew ?_ | refine Xt.Nw.drewN ?_ _ | refine Xt.Nw.alloc ?_ _ | refine Xt.Nw.joined ?_ | refine Xt.Nw.drewd ?_ | refine Xt.Nw.drewdN ?_ | refine Xt.Nw.ext ?_ | refine Xt.Nw.ext_some ?_ (by assumption) | refine Xt.Nw.setCell ?_ (by simp [go_sem] <;> omega) _))) _ _ _ rfl (by exact hownB) _ _ _ _ _ (by exact hownA) (by exact fun g h1 h2 => hdis2 g h2 h1) _ 1 1 _ [.int .u64 (yk + b)] rfl rfl rfl (by intro z hz; simp at hz; subst hz; rfl) (by unfold maxLen; omega) (by omega) ?_; intro vB dB hownC hownD hdis3)
        have HAB := Lib.hid (⟨CollK.snoc hownD, CollK.snoc hownC, fun g h1 h2 => hdis3 g h2 h1⟩ : CollK _ _ _ (O1 ++ [yk]) ∧ CollK _ _ _ (O2 ++ [yk + b]) ∧ ∀ g, vA.ownBlock = some g → vB.ownBlock ≠ some g)
        clear hownA hownB hownC hownD hdis2 hdis3 hA
        go_wp2
        refine ⟨⟨i + 1, by have := HIN.out; omega, by go_num, (by repeat (first | exact Xt.Nw.refl _ | refine Xt.Nw.drew ?_ | refine Xt.Nw.drewN ?_ _ | refine Xt.Nw.alloc ?_ _ | refine Xt.Nw.joined ?_ | refine Xt.Nw.drewd ?_ | refine Xt.Nw.drewdN ?_ | refine Xt.Nw.ext ?_ | refine Xt.Nw.ext_some ?_ (by assumption) | refine Xt.Nw.setCell ?_ (by simp [go_sem] <;> omega) _)), _, rfl, _, rfl, Lib.hid ?_⟩, by have := HIN.out; simp [intOf]; omega⟩
        rw [H1.out, H2.out, ← HO1.out, ← HO2.out]
        obtain ⟨x1, x2, x3⟩ := HAB.out
        exact ⟨by simpa using x1.nw (by exact (by repeat (first | exact Xt.Nw.refl _ | refine Xt.Nw.drew ?_ | refine Xt.Nw.drewN ?_ _ | refine Xt.Nw.alloc ?_ _ | refine Xt.Nw.joined ?_ | refine Xt.Nw.drewd ?_ | refine Xt.Nw.drewdN ?_ | refine Xt.Nw.ext ?_ | refine Xt.Nw.ext_some ?_ (by assumption) | refine Xt.Nw.setCell ?_ (by simp [go_sem] <;> omega) _))), by simpa using x2.nw (by exact (by repeat (first | exact Xt.Nw.refl _ | refine Xt.Nw.drew ?_ | refine Xt.Nw.drewN ?_ _ | refine Xt.Nw.alloc ?_ _ | refine Xt.Nw.joined ?_ | refine Xt.Nw.drewd ?_ | refine Xt.Nw.drewdN ?_ | refine Xt.Nw.ext ?_ | refine Xt.Nw.ext_some ?_ (by assumption) | refine Xt.Nw.setCell ?_ (by simp [go_sem] <;> omega) _))), x3⟩
      | false =>
        clear hwr
        go_upto_region 11 with (fail)
        (refine wp_region_nw (by kernel_rfl) (by kernel_rfl) ?_; (repeat (go_big_quiet_step ((go_at_call 29; exact quiet_of (HHAS.out _))))); refine wpQuiet_nil ?_; intro _ hreg; obtain ⟨dW, rfl⟩ : Nw _ _ := hreg)
        have HAB := Lib.hid (⟨own_nw hown1 ((by repeat (first | exact Xt.Nw.refl _ | refine Xt.Nw.drew ?_ | refine Xt.Nw.drewN ?_ _ | refine Xt.Nw.alloc ?_ _ | refine Xt.Nw.joined ?_ | refine Xt.Nw.drewd ?_ | refine Xt.Nw.drewdN ?_ | refine Xt.Nw.ext ?_ | refine Xt.Nw.ext_some ?_ (by assumption) | refine Xt.Nw.setCell ?_ (by simp [go_sem] <;> omega) _)) : Nw (W4.ext none d) ((W4.ext none d).reg dW)), own_nw hown2 ((by repeat (first | exact Xt.Nw.refl _ | refine Xt.Nw.drew ?_ | refine Xt.Nw.drewN ?_ _ | refine Xt.Nw.alloc ?_ _ | refine Xt.Nw.joined ?_ | refine Xt.Nw.drewd ?_ | refine Xt.Nw.drewdN ?_ | refine Xt.Nw.ext ?_ | refine Xt.Nw.ext_some ?_ (by assumption) | refine Xt.Nw.setCell ?_ (by simp [go_sem] <;> omega) _)) : Nw (W4.ext none d) ((W4.ext none d).reg dW)), hdis⟩ : CollK _ _ _ O1 ∧ CollK _ _ _ O2 ∧ ∀ g, u.ownBlock = some g → z.ownBlock ≠ some g)
        clear hown1 hown2 hdis
        go_wp2
        refine ⟨⟨i + 1, by have := HIN.out; omega, by go_num, (by repeat (first | exact Xt.Nw.refl _ | refine Xt.Nw.drew ?_ | refine Xt.Nw.drewN ?_ _ | refine Xt.Nw.alloc ?_ _ | refine Xt.Nw.joined ?_ | refine Xt.Nw.drewd ?_ | refine Xt.Nw.drewdN ?_ | refine Xt.Nw.ext ?_ | refine Xt.Nw.ext_some ?_ (by assumption) | refine Xt.Nw.setCell ?_ (by simp [go_sem] <;> omega) _)), _, rfl, _, rfl, Lib.hid ?_⟩, by have := HIN.out; simp [intOf]; omega⟩
        rw [H1.out, H2.out, ← HO1.out, ← HO2.out]
        obtain ⟨x1, x2, x3⟩ := HAB.out
        exact ⟨by simpa using x1.nw (by exact (by repeat (first | exact Xt.Nw.refl _ | refine Xt.Nw.drew ?_ | refine Xt.Nw.drewN ?_ _ | refine Xt.Nw.alloc ?_ _ | refine Xt.Nw.joined ?_ | refine Xt.Nw.drewd ?_ | refine Xt.Nw.drewdN ?_ | refine Xt.Nw.ext ?_ | refine Xt.Nw.ext_some ?_ (by assumption) | refine Xt.Nw.setCell ?_ (by simp [go_sem] <;> omega) _))), by simpa using x2.nw (by exact (by repeat (first | exact Xt.Nw.refl _ | refine Xt.Nw.drew ?_ | refine Xt.Nw.drewN ?_ _ | refine Xt.Nw.alloc ?_ _ | refine Xt.Nw.joined ?_ | refine Xt.Nw.drewd ?_ | refine Xt.Nw.drewdN ?_ | refine Xt.Nw.ext ?_ | refine Xt.Nw.ext_some ?_ (by assumption) | refine Xt.Nw.setCell ?_ (by simp [go_sem] <;> omega) _))), x3⟩
    · have i1 : ¬ (i : Int) < (n : Int) := by omega
      have hfl := HC.out
      rw [List.take_of_length_le (by have := HN.out; omega)] at hfl
      obtain ⟨hown1, hown2, -⟩ := hfl
      obtain ⟨A1, c1, rfl, r1⟩ := hown1.rd
      obtain ⟨A3, c3, rfl, r3⟩ := hown2.rd
      have hf1 := from_len lo hi l
      have hf2 := to_len lo hi b l
      have hg1 := mg_len (fromL lo hi l) (toL lo hi b l)
      have hml := move_len lo hi b l
      have HMG := Lib.hid (fun W (hw : Nw (W4.ext none d) W) => rmerged W A1 A3 _ _ c1 c3 _ _ (r1.nw hw) (r3.nw hw) (by have := HLN.out; omega) (by have := HLN.out; omega) rfl rfl)
      have HBT := Lib.hid (fun W (hw : Nw W4 W) (Ak : Option Addr) (nk ck : Nat) (hk : Rd W 1 Ak nk (kcells (mg (fromL lo hi l) (toL lo hi b l)))) (hkl : (mg (fromL lo hi l) (toL lo hi b l)).length = nk) => rbetween W (.slice A n c) vm Ak nk ck l (moveL lo hi b l) (mg (fromL lo hi l) (toL lo hi b l)) (by rw [← HN.out]; exact own_nw HA4.out hw) (own_nw HU.out.row hw) HASC.out HU.out.asc hk (by have := HLN.out; omega) (by have := HLN.out; omega) (by have := HLN.out; omega) hkl)
      obtain ⟨f1, hf1'⟩ : ∃ y, y = (fromL lo hi l).length := ⟨_, rfl⟩
      obtain ⟨f2, hf2'⟩ : ∃ y, y = (toL lo hi b l).length := ⟨_, rfl⟩
      rw [← hf1'] at HMG
      rw [← hf2'] at HMG
      rw [← hf1', ← hf2']
      rw [HVM.out] at HBT
      clear HC hown1 hown2 r1 r3 hf1 hf2 hg1 hml hf1' hf2'
      have g0 : (W4.ext none d).cell? ⟨gq, 0, none⟩ = some (.slice Am mm cm) := by rw [cell_ext]; exact p0
      go_upto_region 14 with (fail)
      go_region_held3 (fun w' => w'.cell? ⟨gq, 0, none⟩ = some (.slice Am mm cm)) (first | exact g0 | exact cell_nw g0 (Nw.drew (Nw.refl _)) | exact cell_nw g0 hn6 | exact cell_nw g0 hn7)
        ((first | (go_at_call 99; refine (HBT.out W5 (Nw.trans (show Nw W4 (W4.ext none d) from ⟨d, rfl⟩) hn6) Ak _ ck rk rfl).mono ?_; rintro e W6 ⟨v6, rfl, hcg, hn7'⟩; have hn7 := hn6.trans hn7') | (go_at_call 100; refine (HMG.out _ (Nw.drew (Nw.refl _))).mono ?_; rintro e W5 ⟨v5, rfl, hcoll, hn5⟩; obtain ⟨Ak, ck, rfl, rk⟩ := hcoll.rd; have hn6 := (Nw.drew (Nw.refl (W4.ext none d))).trans hn5)))
      obtain ⟨A6, c6, rfl, r6⟩ := hcg.rd
      have HE := Lib.hid (show Rd W6 5 A6 (planL lo hi b l).length (cgcells (planL lo hi b l)) from r6)
      have HN6 := Lib.hid (HW4.out.trans (Nw.trans (show Nw W4 (W4.ext none d) from ⟨d, rfl⟩) hn7))
      clear hcg hn7' hn7 hn6 hn5 hcoll rk r6
      go_wp2
      refine bodyPost_ret (v := .tuple #[.slice A6 (planL lo hi b l).length c6, .int .i64 0]) ?_ rfl ⟨A6, c6, rfl, HE.out, HN6.out⟩
      simp [results, Tryz.results72, go_sem, planL]
end Go.Proofs.YtahagplegmcaaaaGreat
namespace Go.Proofs.YtahagplegmcaaaaGreat
open Go.RowKit Go.Xt
/-! The reference's model: Do, where it refuses. -/
set_option maxRecDepth 20000 in
set_option maxHeartbeats 8000000 in
theorem rdo_ref (w : World) (p : Pl) (cf : Cf) (s : Md) (h : RAt w p cf s) (t : Int) (x : Ox) (hx : x.Wf) (hr : refM s t x ≠ 0) :
    Calls Tryz.prog 12 #[.pointer (some ⟨p.gm, 0, none⟩), .int .i64 t, opV x] w fun e w' => e = .returned (res5 (refM s t x) false 0 0 0) ∧ Nw w w' := by
  have HRF := Lib.hid (fun W (hn : Nw w W) => rrefusal_any W p cf s (h.nw hn) t x hx)
  have im := h.im
  obtain ⟨R, hR⟩ : ∃ R, R = refM s t x := ⟨_, rfl⟩
  rw [← hR] at HRF hr ⊢
  obtain ⟨gm, hgm⟩ : ∃ g, g = p.gm := ⟨_, rfl⟩
  rw [← hgm] at im HRF ⊢
  obtain ⟨k, a, b, c, d, e, f⟩ := x
  unfold opV at HRF ⊢
  simp only at HRF ⊢
  haveI : In gm w := ⟨im⟩
  have r0 : (R == 0) = false := by simpa using hr
  have r1 : ¬ R = 0 := hr
  clear h hx hgm im hR hr
  go_enter Tryz.func12, Tryz.ntmps12
  go_wp2_with (go_at_call 26; refine (HRF.out _ ((by repeat (first | exact Xt.Nw.refl _ | refine Xt.Nw.drew ?_ | refine Xt.Nw.drewN ?_ _ | refine Xt.Nw.alloc ?_ _ | refine Xt.Nw.joined ?_ | refine Xt.Nw.drewd ?_ | refine Xt.Nw.drewdN ?_ | refine Xt.Nw.ext ?_ | refine Xt.Nw.ext_some ?_ (by assumption) | refine Xt.Nw.setCell ?_ (by simp [go_sem] <;> omega) _)))).mono ?_; rintro e w' ⟨rfl, dW, rfl⟩)
  refine bodyPost_ret (v := res5 R false 0 0 0) ?_ rfl ⟨rfl, (by repeat (first | exact Xt.Nw.refl _ | refine Xt.Nw.drew ?_ | refine Xt.Nw.drewN ?_ _ | refine Xt.Nw.alloc ?_ _ | refine Xt.Nw.joined ?_ | refine Xt.Nw.drewd ?_ | refine Xt.Nw.drewdN ?_ | refine Xt.Nw.ext ?_ | refine Xt.Nw.ext_some ?_ (by assumption) | refine Xt.Nw.setCell ?_ (by simp [go_sem] <;> omega) _))⟩
  simp [results, Tryz.results12, go_sem]
end Go.Proofs.YtahagplegmcaaaaGreat
