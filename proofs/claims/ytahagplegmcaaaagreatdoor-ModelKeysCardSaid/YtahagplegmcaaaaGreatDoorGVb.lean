import Derived.Test.YtahagplegmcaaaaGreatDoorGVa
set_option linter.unusedVariables false
set_option linter.unusedSimpArgs false
set_option linter.unnecessarySimpa false
namespace Go.Proofs.YtahagplegmcaaaaGreatDoor
open Go.RowKit Go.Xt
/-! The reference's map: set. -/
/-- A round of set: what has been collected, and whether the pair is in it. -/
def stepS (k x : Int) (s : List (Int × Int) × Bool) (y : Int × Int) : List (Int × Int) × Bool :=
  if s.2 = false ∧ k ≤ y.1 then (if y.1 = k then s.1 ++ [(k, x)] else s.1 ++ [(k, x)] ++ [y], true)
  else (if y.1 = k then s.1 else s.1 ++ [y], s.2)
theorem fold_t {k x : Int} : ∀ {l o : List (Int × Int)}, (∀ z ∈ l, k < z.1) → l.foldl (stepS k x) (o, true) = (o ++ l, true)
  | [], o, _ => by simp
  | y :: r, o, h => by
    have hy := h y (by simp)
    rw [List.foldl_cons]
    have e : stepS k x (o, true) y = (o ++ [y], true) := by unfold stepS; rw [if_neg (by simp), if_neg (by omega)]
    rw [e, fold_t (fun z hz => h z (by simp [hz]))]; simp
theorem fold_f {k x : Int} : ∀ {l o : List (Int × Int)}, asc l → (if (l.foldl (stepS k x) (o, false)).2 = true then (l.foldl (stepS k x) (o, false)).1 else (l.foldl (stepS k x) (o, false)).1 ++ [(k, x)]) = o ++ putL k x l
  | [], o, _ => by simp [putL]
  | y :: r, o, h => by
    have h2 := List.pairwise_cons.1 h
    rw [List.foldl_cons, putL]
    by_cases h1 : y.1 < k
    · have e : stepS k x (o, false) y = (o ++ [y], false) := by unfold stepS; rw [if_neg (by simp; omega), if_neg (by omega)]
      rw [e, fold_f h2.2, if_pos h1]; simp
    · by_cases h3 : y.1 = k
      · have e : stepS k x (o, false) y = (o ++ [(k, x)], true) := by unfold stepS; rw [if_pos ⟨rfl, by omega⟩, if_pos h3]
        rw [e, fold_t (fun z hz => by have := h2.1 z hz; omega), if_neg h1, if_pos h3]; simp
      · have e : stepS k x (o, false) y = (o ++ [(k, x)] ++ [y], true) := by unfold stepS; rw [if_pos ⟨rfl, by omega⟩, if_neg h3]
        rw [e, fold_t (fun z hz => by have := h2.1 z hz; omega), if_neg h1, if_neg h3]; simp
theorem stepS_len (k x : Int) (s : List (Int × Int) × Bool) (y : Int × Int) : (stepS k x s y).1.length ≤ s.1.length + 2 := by
  unfold stepS
  split <;> (simp only; split <;> simp)
theorem fold_len (k x : Int) : ∀ (l : List (Int × Int)) (s : List (Int × Int) × Bool), (l.foldl (stepS k x) s).1.length ≤ s.1.length + 2 * l.length
  | [], s => by simp
  | y :: r, s => by
    have h1 := fold_len k x r (stepS k x s y)
    have h2 := stepS_len k x s y
    rw [List.foldl_cons, List.length_cons]; omega
theorem fold_take {α β : Type} (f : β → α → β) (s : β) {l : List α} {i : Nat} {y : α} (h : l[i]? = some y) : (l.take (i + 1)).foldl f s = f ((l.take i).foldl f s) y := by
  obtain ⟨p, e⟩ := List.getElem?_eq_some_iff.1 h
  rw [List.take_succ_eq_append_getElem p, e, List.foldl_append]; rfl
theorem pcells_snoc (l : List (Int × Int)) (a b : Int) : pcells (l ++ [(a, b)]) = pcells l ++ [.int .u64 a, .int .u64 b] := by rw [pcells_app]; rfl
/-- What has been collected. -/
def Coll (W : World) (base : Nat) (v : Value) (o : List (Int × Int)) : Prop := W.ownsRow base 106 2 v o.length (pcells o)
theorem Coll.nw {W W' : World} {base : Nat} {v : Value} {o : List (Int × Int)} (h : Coll W base v o) (hn : Nw W W') : Coll W' base v o := own_nw h hn
theorem Coll.snoc {W : World} {base : Nat} {v : Value} {o : List (Int × Int)} {a b : Int} (h : W.ownsRow base 106 2 v (o.length + 1) (pcells o ++ [.int .u64 a, .int .u64 b])) : Coll W base v (o ++ [(a, b)]) := by
  unfold Coll; rw [pcells_snoc, List.length_append]; exact h
set_option maxRecDepth 20000 in
set_option maxHeartbeats 8000000 in
theorem rset_om {w : World} {gp : Nat} {v : Value} {l : List (Int × Int)} (h : OM w gp v l) (hn : l.length ≤ 1000000) (k x : Int) :
    Calls Tryz.prog 66 #[.pointer (some ⟨gp, 0, none⟩), .agg #[.int .u64 k, .int .u64 x]] w fun e w' => e = .returned (.tuple #[]) ∧ ∃ v', RUpd w gp v (putL k x l) v' w' := by
  obtain ⟨wB, hwB⟩ : ∃ W, W = w.alloc (.cells #[.int .u64 k, .int .u64 x] 106) := ⟨_, rfl⟩
  obtain ⟨q, hq⟩ : ∃ q, q = w.heap.size := ⟨_, rfl⟩
  have hnB : Nw w wB := by rw [hwB]; exact (Nw.refl w).alloc _
  have b0 : wB.cell? ⟨q, 0, none⟩ = some (.int .u64 k) := by rw [hwB, hq]; simp [go_sem]
  have b1 : wB.cell? ⟨q, 1, none⟩ = some (.int .u64 x) := by rw [hwB, hq]; simp [go_sem]
  have hB := h.nw hnB
  have p0 := hB.p0
  haveI : In gp w := ⟨h.lt⟩
  haveI : In gp wB := ⟨hB.lt⟩
  haveI : In q wB := ⟨World.block_lt_of_cell? _ _ b0⟩
  obtain ⟨A, c, rfl, hr⟩ := om_rd hB
  have HH := Lib.hid h
  have HB := Lib.hid hB
  have HR := Lib.hid hr
  obtain ⟨n, hne⟩ : ∃ n, n = l.length := ⟨_, rfl⟩
  rw [← hne] at p0 HR hn HH HB ⊢
  have HN := Lib.hid hne
  have HNN := Lib.hid hn
  have HWB := Lib.hid hwB
  have HQ := Lib.hid hq
  have HNB := Lib.hid hnB
  clear h hB hr hne hn hwB hq hnB
  go_enter Tryz.func66, Tryz.ntmps66
  go_upto_region 3 with (fail)
  rw [← HWB.out, ← HQ.out]
  go_wp2_with fail
  go_loopw [4, 5, 6] (fun u dn a wr => ∃ i : Nat, i ≤ n ∧ a = .int .i64 i ∧ Nw wB wr ∧ ∃ D : Bool, dn = .bool D ∧ ∃ U, U = u ∧ Hid (∃ O, (l.take i).foldl (stepS k x) ([], false) = (O, D) ∧ Coll wr wB.heap.size U O))
    (fun _ _ a _ => n - (intOf a).toNat)
  case atStart => exact ⟨0, Nat.zero_le _, rfl, Nw.refl _, false, rfl, _, rfl, Lib.hid ⟨[], rfl, World.ownsRow_nil _ _ _ _⟩⟩
  case round =>
    obtain ⟨i, hi, rfl, ⟨d, rfl⟩, D, rfl, u, hu, HC⟩ := hrel
    subst hu
    obtain ⟨O, hf, hc0⟩ := HC.out
    have hol : O.length ≤ 2 * i := by
      have h1 := fold_len k x (l.take i) ([], false)
      rw [hf] at h1
      have h2 := List.length_take_le i l
      simp at h1; omega
    have HF := Lib.hid hf
    have HO := Lib.hid hc0
    have HOL := Lib.hid hol
    have i0 : (0 : Int) ≤ (i : Int) := by omega
    clear HC hf hc0 hol
    by_cases hin : i < n
    · have i1 : (i : Int) < (n : Int) := by omega
      have i2 : i < 1000000 := by have := HNN.out; omega
      have hoo : O.length ≤ 2000000 := by have := HOL.out; omega
      obtain ⟨g, o, rfl, hg, hc⟩ := HR.out.2 (by omega)
      haveI : In g wB := ⟨hg⟩
      obtain ⟨⟨yk, yx⟩, hz⟩ : ∃ z, l[i]? = some z := ⟨_, List.getElem?_eq_getElem (by have := HN.out; omega)⟩
      have y0 : wB.cell? ⟨g, o + i * 2, none⟩ = some (.int .u64 yk) := hc _ _ (pcells_get l i _ hz).1
      have y1 : wB.cell? ⟨g, o + i * 2 + 1, none⟩ = some (.int .u64 yx) := by have := hc _ _ (pcells_get l i _ hz).2; rwa [← Nat.add_assoc] at this
      have hst := fold_take (stepS k x) ([], false) hz
      rw [HF.out] at hst
      have HST := Lib.hid hst
      have HIN := Lib.hid hin
      clear hz hc hin hi hst

      have hown2 := HO.out
      unfold Coll at hown2
      cases D with
      | false =>
        by_cases hk : k ≤ yk
        · by_cases he : yk = k
          · have d1 : decide (k ≤ yk) = true := by simpa using hk
            have d2 : (yk != k) = false := by simpa using he
            have HE := Lib.hid he
            have HK := Lib.hid hk
            clear he hk
            go_upto_region 6 with (fail)
            (refine wp_region_nw (by kernel_rfl) (by kernel_rfl) ?_; (repeat (go_big_quiet_step (fail))); refine wpQuiet_nil ?_; intro _ hreg; obtain ⟨dW, rfl⟩ : Nw _ _ := hreg)
            replace hown2 := own_nw hown2 ((by repeat (first | exact Xt.Nw.refl _ | refine Xt.Nw.drew ?_ | refine Xt.Nw.drewN ?_ _ | refine Xt.Nw.alloc ?_ _ | refine Xt.Nw.joined ?_ | refine Xt.Nw.drewd ?_ | refine Xt.Nw.drewdN ?_ | refine Xt.Nw.ext ?_ | refine Xt.Nw.ext_some ?_ (by assumption) | refine Xt.Nw.setCell ?_ (by simp [go_sem] <;> omega) _)) : Nw (wB.ext none d) ((wB.ext none d).reg dW))
            go_wp2_with (at_builtin; refine wpList_app1 rfl _ _ 62 rfl 106 (.agg #[.int .u64 0, .int .u64 0]) 2 16 Tryz.underlying62 pairInfo rfl (by decide) wB ((wB.ext none d).reg dW) ((by repeat (first | exact Xt.Nw.refl _ | refine Xt.Nw.drew ?_ | refine Xt.Nw.drewN ?_ _ | refine Xt.Nw.alloc ?_ _ | refine Xt.Nw.joined ?_ | refine Xt.Nw.drewd ?_ | refine Xt.Nw.drewdN ?_ | refine Xt.Nw.ext ?_ | refine Xt.Nw.ext_some ?_ (by assumption) | refine Xt.Nw.setCell ?_ (by simp [go_sem] <;> omega) _))) _ _ _ rfl (by exact hown2) _ 1 1 _ [.int .u64 k, .int .u64 x] rfl rfl rfl (by intro z hz; simp at hz; rcases hz with rfl | rfl <;> rfl) (by unfold maxLen; omega) (by omega) ?_; intro vA dA hownA)
            have hown2 := Coll.snoc hownA
            unfold Coll at hown2
            have hol2 : (O ++ [(k, x)]).length ≤ 2000001 := by simp; omega
            clear hownA
            go_upto_region 9 with (fail)
            (refine wp_region_nw (by kernel_rfl) (by kernel_rfl) ?_; (repeat (go_big_quiet_step (fail))); refine wpQuiet_nil ?_; intro _ hreg; obtain ⟨dW, rfl⟩ : Nw _ _ := hreg)
            replace hown2 := own_nw hown2 ((by repeat (first | exact Xt.Nw.refl _ | refine Xt.Nw.drew ?_ | refine Xt.Nw.drewN ?_ _ | refine Xt.Nw.alloc ?_ _ | refine Xt.Nw.joined ?_ | refine Xt.Nw.drewd ?_ | refine Xt.Nw.drewdN ?_ | refine Xt.Nw.ext ?_ | refine Xt.Nw.ext_some ?_ (by assumption) | refine Xt.Nw.setCell ?_ (by simp [go_sem] <;> omega) _)) : Nw (wB.ext none dA) ((wB.ext none dA).reg dW))
            have HA := Lib.hid (show Coll _ _ _ _ from hown2)
            clear hown2
            go_wp2
            refine ⟨⟨i + 1, by have := HIN.out; omega, by go_num, (by repeat (first | exact Xt.Nw.refl _ | refine Xt.Nw.drew ?_ | refine Xt.Nw.drewN ?_ _ | refine Xt.Nw.alloc ?_ _ | refine Xt.Nw.joined ?_ | refine Xt.Nw.drewd ?_ | refine Xt.Nw.drewdN ?_ | refine Xt.Nw.ext ?_ | refine Xt.Nw.ext_some ?_ (by assumption) | refine Xt.Nw.setCell ?_ (by simp [go_sem] <;> omega) _)), true, rfl, _, rfl, Lib.hid ⟨(O ++ [(k, x)]), ?_, HA.out.nw (by exact (by repeat (first | exact Xt.Nw.refl _ | refine Xt.Nw.drew ?_ | refine Xt.Nw.drewN ?_ _ | refine Xt.Nw.alloc ?_ _ | refine Xt.Nw.joined ?_ | refine Xt.Nw.drewd ?_ | refine Xt.Nw.drewdN ?_ | refine Xt.Nw.ext ?_ | refine Xt.Nw.ext_some ?_ (by assumption) | refine Xt.Nw.setCell ?_ (by simp [go_sem] <;> omega) _)))⟩⟩, by have := HIN.out; simp [intOf]; omega⟩
            rw [HST.out]; unfold stepS; rw [if_pos ⟨rfl, HK.out⟩]; rw [if_pos HE.out]
          · have d1 : decide (k ≤ yk) = true := by simpa using hk
            have d2 : (yk != k) = true := by simpa using he
            have HE := Lib.hid he
            have HK := Lib.hid hk
            clear he hk
            go_upto_region 6 with (fail)
            (refine wp_region_nw (by kernel_rfl) (by kernel_rfl) ?_; (repeat (go_big_quiet_step (fail))); refine wpQuiet_nil ?_; intro _ hreg; obtain ⟨dW, rfl⟩ : Nw _ _ := hreg)
            replace hown2 := own_nw hown2 ((by repeat (first | exact Xt.Nw.refl _ | refine Xt.Nw.drew ?_ | refine Xt.Nw.drewN ?_ _ | refine Xt.Nw.alloc ?_ _ | refine Xt.Nw.joined ?_ | refine Xt.Nw.drewd ?_ | refine Xt.Nw.drewdN ?_ | refine Xt.Nw.ext ?_ | refine Xt.Nw.ext_some ?_ (by assumption) | refine Xt.Nw.setCell ?_ (by simp [go_sem] <;> omega) _)) : Nw (wB.ext none d) ((wB.ext none d).reg dW))
            go_wp2_with (at_builtin; refine wpList_app1 rfl _ _ 62 rfl 106 (.agg #[.int .u64 0, .int .u64 0]) 2 16 Tryz.underlying62 pairInfo rfl (by decide) wB ((wB.ext none d).reg dW) ((by repeat (first | exact Xt.Nw.refl _ | refine Xt.Nw.drew ?_ | refine Xt.Nw.drewN ?_ _ | refine Xt.Nw.alloc ?_ _ | refine Xt.Nw.joined ?_ | refine Xt.Nw.drewd ?_ | refine Xt.Nw.drewdN ?_ | refine Xt.Nw.ext ?_ | refine Xt.Nw.ext_some ?_ (by assumption) | refine Xt.Nw.setCell ?_ (by simp [go_sem] <;> omega) _))) _ _ _ rfl (by exact hown2) _ 1 1 _ [.int .u64 k, .int .u64 x] rfl rfl rfl (by intro z hz; simp at hz; rcases hz with rfl | rfl <;> rfl) (by unfold maxLen; omega) (by omega) ?_; intro vA dA hownA)
            have hown2 := Coll.snoc hownA
            unfold Coll at hown2
            have hol2 : (O ++ [(k, x)]).length ≤ 2000001 := by simp; omega
            clear hownA
            go_upto_region 9 with (fail)
            (refine wp_region_nw (by kernel_rfl) (by kernel_rfl) ?_; (repeat (go_big_quiet_step (fail))); refine wpQuiet_nil ?_; intro _ hreg; obtain ⟨dW, rfl⟩ : Nw _ _ := hreg)
            replace hown2 := own_nw hown2 ((by repeat (first | exact Xt.Nw.refl _ | refine Xt.Nw.drew ?_ | refine Xt.Nw.drewN ?_ _ | refine Xt.Nw.alloc ?_ _ | refine Xt.Nw.joined ?_ | refine Xt.Nw.drewd ?_ | refine Xt.Nw.drewdN ?_ | refine Xt.Nw.ext ?_ | refine Xt.Nw.ext_some ?_ (by assumption) | refine Xt.Nw.setCell ?_ (by simp [go_sem] <;> omega) _)) : Nw (wB.ext none dA) ((wB.ext none dA).reg dW))
            obtain ⟨m9, hm9⟩ : ∃ m, m = (O ++ [(k, x)]) := ⟨_, rfl⟩
            rw [← hm9] at hown2 hol2
            have HM9 := Lib.hid hm9
            clear hm9
            go_wp2_with (at_builtin; refine wpList_app1 rfl _ _ 62 rfl 106 (.agg #[.int .u64 0, .int .u64 0]) 2 16 Tryz.underlying62 pairInfo rfl (by decide) wB ((wB.ext none dA).reg dW) ((by repeat (first | exact Xt.Nw.refl _ | refine Xt.Nw.drew ?_ | refine Xt.Nw.drewN ?_ _ | refine Xt.Nw.alloc ?_ _ | refine Xt.Nw.joined ?_ | refine Xt.Nw.drewd ?_ | refine Xt.Nw.drewdN ?_ | refine Xt.Nw.ext ?_ | refine Xt.Nw.ext_some ?_ (by assumption) | refine Xt.Nw.setCell ?_ (by simp [go_sem] <;> omega) _))) _ _ _ rfl (by exact hown2) _ 1 1 _ [.int .u64 yk, .int .u64 yx] rfl rfl rfl (by intro z hz; simp at hz; rcases hz with rfl | rfl <;> rfl) (by unfold maxLen; omega) (by omega) ?_; intro vA dA hownA)
            have hown3 := Coll.snoc hownA
            rw [HM9.out] at hown3
            have HA := Lib.hid hown3
            clear hownA hown3 hown2
            go_wp2
            refine ⟨⟨i + 1, by have := HIN.out; omega, by go_num, (by repeat (first | exact Xt.Nw.refl _ | refine Xt.Nw.drew ?_ | refine Xt.Nw.drewN ?_ _ | refine Xt.Nw.alloc ?_ _ | refine Xt.Nw.joined ?_ | refine Xt.Nw.drewd ?_ | refine Xt.Nw.drewdN ?_ | refine Xt.Nw.ext ?_ | refine Xt.Nw.ext_some ?_ (by assumption) | refine Xt.Nw.setCell ?_ (by simp [go_sem] <;> omega) _)), true, rfl, _, rfl, Lib.hid ⟨(O ++ [(k, x)]) ++ [(yk, yx)], ?_, HA.out.nw (by exact (by repeat (first | exact Xt.Nw.refl _ | refine Xt.Nw.drew ?_ | refine Xt.Nw.drewN ?_ _ | refine Xt.Nw.alloc ?_ _ | refine Xt.Nw.joined ?_ | refine Xt.Nw.drewd ?_ | refine Xt.Nw.drewdN ?_ | refine Xt.Nw.ext ?_ | refine Xt.Nw.ext_some ?_ (by assumption) | refine Xt.Nw.setCell ?_ (by simp [go_sem] <;> omega) _)))⟩⟩, by have := HIN.out; simp [intOf]; omega⟩
            rw [HST.out]; unfold stepS; rw [if_pos ⟨rfl, HK.out⟩]; rw [if_neg HE.out]
        · by_cases he : yk = k
          · omega
          · have d1 : decide (k ≤ yk) = false := by simpa using hk
            have d2 : (yk != k) = true := by simpa using he
            have HE := Lib.hid he
            have HK := Lib.hid hk
            clear he hk
            go_upto_region 6 with (fail)
            (refine wp_region_nw (by kernel_rfl) (by kernel_rfl) ?_; (repeat (go_big_quiet_step (fail))); refine wpQuiet_nil ?_; intro _ hreg; obtain ⟨dW, rfl⟩ : Nw _ _ := hreg)
            replace hown2 := own_nw hown2 ((by repeat (first | exact Xt.Nw.refl _ | refine Xt.Nw.drew ?_ | refine Xt.Nw.drewN ?_ _ | refine Xt.Nw.alloc ?_ _ | refine Xt.Nw.joined ?_ | refine Xt.Nw.drewd ?_ | refine Xt.Nw.drewdN ?_ | refine Xt.Nw.ext ?_ | refine Xt.Nw.ext_some ?_ (by assumption) | refine Xt.Nw.setCell ?_ (by simp [go_sem] <;> omega) _)) : Nw (wB.ext none d) ((wB.ext none d).reg dW))
            have hol2 : O.length ≤ 2000001 := by omega
            go_upto_region 9 with (fail)
            obtain ⟨dR, hdR⟩ : ∃ z, z = dW := ⟨_, rfl⟩
            subst hdR
            (refine wp_region_nw (by kernel_rfl) (by kernel_rfl) ?_; (repeat (go_big_quiet_step (fail))); refine wpQuiet_nil ?_; intro _ hreg; obtain ⟨dW, rfl⟩ : Nw _ _ := hreg)
            replace hown2 := own_nw hown2 ((by repeat (first | exact Xt.Nw.refl _ | refine Xt.Nw.drew ?_ | refine Xt.Nw.drewN ?_ _ | refine Xt.Nw.alloc ?_ _ | refine Xt.Nw.joined ?_ | refine Xt.Nw.drewd ?_ | refine Xt.Nw.drewdN ?_ | refine Xt.Nw.ext ?_ | refine Xt.Nw.ext_some ?_ (by assumption) | refine Xt.Nw.setCell ?_ (by simp [go_sem] <;> omega) _)) : Nw ((wB.ext none d).reg dR) (((wB.ext none d).reg dR).reg dW))
            obtain ⟨m9, hm9⟩ : ∃ m, m = O := ⟨_, rfl⟩
            rw [← hm9] at hown2 hol2
            have HM9 := Lib.hid hm9
            clear hm9
            go_wp2_with (at_builtin; refine wpList_app1 rfl _ _ 62 rfl 106 (.agg #[.int .u64 0, .int .u64 0]) 2 16 Tryz.underlying62 pairInfo rfl (by decide) wB (((wB.ext none d).reg dR).reg dW) ((by repeat (first | exact Xt.Nw.refl _ | refine Xt.Nw.drew ?_ | refine Xt.Nw.drewN ?_ _ | refine Xt.Nw.alloc ?_ _ | refine Xt.Nw.joined ?_ | refine Xt.Nw.drewd ?_ | refine Xt.Nw.drewdN ?_ | refine Xt.Nw.ext ?_ | refine Xt.Nw.ext_some ?_ (by assumption) | refine Xt.Nw.setCell ?_ (by simp [go_sem] <;> omega) _))) _ _ _ rfl (by exact hown2) _ 1 1 _ [.int .u64 yk, .int .u64 yx] rfl rfl rfl (by intro z hz; simp at hz; rcases hz with rfl | rfl <;> rfl) (by unfold maxLen; omega) (by omega) ?_; intro vA dA hownA)
            have hown3 := Coll.snoc hownA
            rw [HM9.out] at hown3
            have HA := Lib.hid hown3
            clear hownA hown3 hown2
            go_wp2
            refine ⟨⟨i + 1, by have := HIN.out; omega, by go_num, (by repeat (first | exact Xt.Nw.refl _ | refine Xt.Nw.drew ?_ | refine Xt.Nw.drewN ?_ _ | refine Xt.Nw.alloc ?_ _ | refine Xt.Nw.joined ?_ | refine Xt.Nw.drewd ?_ | refine Xt.Nw.drewdN ?_ | refine Xt.Nw.ext ?_ | refine Xt.Nw.ext_some ?_ (by assumption) | refine Xt.Nw.setCell ?_ (by simp [go_sem] <;> omega) _)), false, rfl, _, rfl, Lib.hid ⟨O ++ [(yk, yx)], ?_, HA.out.nw (by exact (by repeat (first | exact Xt.Nw.refl _ | refine Xt.Nw.drew ?_ | refine Xt.Nw.drewN ?_ _ | refine Xt.Nw.alloc ?_ _ | refine Xt.Nw.joined ?_ | refine Xt.Nw.drewd ?_ | refine Xt.Nw.drewdN ?_ | refine Xt.Nw.ext ?_ | refine Xt.Nw.ext_some ?_ (by assumption) | refine Xt.Nw.setCell ?_ (by simp [go_sem] <;> omega) _)))⟩⟩, by have := HIN.out; simp [intOf]; omega⟩
            rw [HST.out]; unfold stepS; rw [if_neg (fun h => HK.out h.2)]; rw [if_neg HE.out]
      | true =>
        by_cases he : yk = k
        · have d2 : (yk != k) = false := by simpa using he
          have HE := Lib.hid he
          clear he
          go_upto_region 6 with (fail)
          (refine wp_region_nw (by kernel_rfl) (by kernel_rfl) ?_; (repeat (go_big_quiet_step (fail))); refine wpQuiet_nil ?_; intro _ hreg; obtain ⟨dW, rfl⟩ : Nw _ _ := hreg)
          replace hown2 := own_nw hown2 ((by repeat (first | exact Xt.Nw.refl _ | refine Xt.Nw.drew ?_ | refine Xt.Nw.drewN ?_ _ | refine Xt.Nw.alloc ?_ _ | refine Xt.Nw.joined ?_ | refine Xt.Nw.drewd ?_ | refine Xt.Nw.drewdN ?_ | refine Xt.Nw.ext ?_ | refine Xt.Nw.ext_some ?_ (by assumption) | refine Xt.Nw.setCell ?_ (by simp [go_sem] <;> omega) _)) : Nw (wB.ext none d) ((wB.ext none d).reg dW))
          have hol2 : O.length ≤ 2000001 := by omega
          go_upto_region 9 with (fail)
          obtain ⟨dR, hdR⟩ : ∃ z, z = dW := ⟨_, rfl⟩
          subst hdR
          (refine wp_region_nw (by kernel_rfl) (by kernel_rfl) ?_; (repeat (go_big_quiet_step (fail))); refine wpQuiet_nil ?_; intro _ hreg; obtain ⟨dW, rfl⟩ : Nw _ _ := hreg)
          replace hown2 := own_nw hown2 ((by repeat (first | exact Xt.Nw.refl _ | refine Xt.Nw.drew ?_ | refine Xt.Nw.drewN ?_ _ | refine Xt.Nw.alloc ?_ _ | refine Xt.Nw.joined ?_ | refine Xt.Nw.drewd ?_ | refine Xt.Nw.drewdN ?_ | refine Xt.Nw.ext ?_ | refine Xt.Nw.ext_some ?_ (by assumption) | refine Xt.Nw.setCell ?_ (by simp [go_sem] <;> omega) _)) : Nw ((wB.ext none d).reg dR) (((wB.ext none d).reg dR).reg dW))
          have HA := Lib.hid (show Coll _ _ _ _ from hown2)
          clear hown2
          go_wp2
          refine ⟨⟨i + 1, by have := HIN.out; omega, by go_num, (by repeat (first | exact Xt.Nw.refl _ | refine Xt.Nw.drew ?_ | refine Xt.Nw.drewN ?_ _ | refine Xt.Nw.alloc ?_ _ | refine Xt.Nw.joined ?_ | refine Xt.Nw.drewd ?_ | refine Xt.Nw.drewdN ?_ | refine Xt.Nw.ext ?_ | refine Xt.Nw.ext_some ?_ (by assumption) | refine Xt.Nw.setCell ?_ (by simp [go_sem] <;> omega) _)), true, rfl, _, rfl, Lib.hid ⟨O, ?_, HA.out.nw (by exact (by repeat (first | exact Xt.Nw.refl _ | refine Xt.Nw.drew ?_ | refine Xt.Nw.drewN ?_ _ | refine Xt.Nw.alloc ?_ _ | refine Xt.Nw.joined ?_ | refine Xt.Nw.drewd ?_ | refine Xt.Nw.drewdN ?_ | refine Xt.Nw.ext ?_ | refine Xt.Nw.ext_some ?_ (by assumption) | refine Xt.Nw.setCell ?_ (by simp [go_sem] <;> omega) _)))⟩⟩, by have := HIN.out; simp [intOf]; omega⟩
          rw [HST.out]; unfold stepS; rw [if_neg (by simp)]; rw [if_pos HE.out]
        · have d2 : (yk != k) = true := by simpa using he
          have HE := Lib.hid he
          clear he
          go_upto_region 6 with (fail)
          (refine wp_region_nw (by kernel_rfl) (by kernel_rfl) ?_; (repeat (go_big_quiet_step (fail))); refine wpQuiet_nil ?_; intro _ hreg; obtain ⟨dW, rfl⟩ : Nw _ _ := hreg)
          replace hown2 := own_nw hown2 ((by repeat (first | exact Xt.Nw.refl _ | refine Xt.Nw.drew ?_ | refine Xt.Nw.drewN ?_ _ | refine Xt.Nw.alloc ?_ _ | refine Xt.Nw.joined ?_ | refine Xt.Nw.drewd ?_ | refine Xt.Nw.drewdN ?_ | refine Xt.Nw.ext ?_ | refine Xt.Nw.ext_some ?_ (by assumption) | refine Xt.Nw.setCell ?_ (by simp [go_sem] <;> omega) _)) : Nw (wB.ext none d) ((wB.ext none d).reg dW))
          have hol2 : O.length ≤ 2000001 := by omega
          go_upto_region 9 with (fail)
          obtain ⟨dR, hdR⟩ : ∃ z, z = dW := ⟨_, rfl⟩
          subst hdR
          (refine wp_region_nw (by kernel_rfl) (by kernel_rfl) ?_; (repeat (go_big_quiet_step (fail))); refine wpQuiet_nil ?_; intro _ hreg; obtain ⟨dW, rfl⟩ : Nw _ _ := hreg)
          replace hown2 := own_nw hown2 ((by repeat (first | exact Xt.Nw.refl _ | refine Xt.Nw.drew ?_ | refine Xt.Nw.drewN ?_ _ | refine Xt.Nw.alloc ?_ _ | refine Xt.Nw.joined ?_ | refine Xt.Nw.drewd ?_ | refine Xt.Nw.drewdN ?_ | refine Xt.Nw.ext ?_ | refine Xt.Nw.ext_some ?_ (by assumption) | refine Xt.Nw.setCell ?_ (by simp [go_sem] <;> omega) _)) : Nw ((wB.ext none d).reg dR) (((wB.ext none d).reg dR).reg dW))
          obtain ⟨m9, hm9⟩ : ∃ m, m = O := ⟨_, rfl⟩
          rw [← hm9] at hown2 hol2
          have HM9 := Lib.hid hm9
          clear hm9
          go_wp2_with (at_builtin; refine wpList_app1 rfl _ _ 62 rfl 106 (.agg #[.int .u64 0, .int .u64 0]) 2 16 Tryz.underlying62 pairInfo rfl (by decide) wB (((wB.ext none d).reg dR).reg dW) ((by repeat (first | exact Xt.Nw.refl _ | refine Xt.Nw.drew ?_ | refine Xt.Nw.drewN ?_ _ | refine Xt.Nw.alloc ?_ _ | refine Xt.Nw.joined ?_ | refine Xt.Nw.drewd ?_ | refine Xt.Nw.drewdN ?_ | refine Xt.Nw.ext ?_ | refine Xt.Nw.ext_some ?_ (by assumption) | refine Xt.Nw.setCell ?_ (by simp [go_sem] <;> omega) _))) _ _ _ rfl (by exact hown2) _ 1 1 _ [.int .u64 yk, .int .u64 yx] rfl rfl rfl (by intro z hz; simp at hz; rcases hz with rfl | rfl <;> rfl) (by unfold maxLen; omega) (by omega) ?_; intro vA dA hownA)
          have hown3 := Coll.snoc hownA
          rw [HM9.out] at hown3
          have HA := Lib.hid hown3
          clear hownA hown3 hown2
          go_wp2
          refine ⟨⟨i + 1, by have := HIN.out; omega, by go_num, (by repeat (first | exact Xt.Nw.refl _ | refine Xt.Nw.drew ?_ | refine Xt.Nw.drewN ?_ _ | refine Xt.Nw.alloc ?_ _ | refine Xt.Nw.joined ?_ | refine Xt.Nw.drewd ?_ | refine Xt.Nw.drewdN ?_ | refine Xt.Nw.ext ?_ | refine Xt.Nw.ext_some ?_ (by assumption) | refine Xt.Nw.setCell ?_ (by simp [go_sem] <;> omega) _)), true, rfl, _, rfl, Lib.hid ⟨O ++ [(yk, yx)], ?_, HA.out.nw (by exact (by repeat (first | exact Xt.Nw.refl _ | refine Xt.Nw.drew ?_ | refine Xt.Nw.drewN ?_ _ | refine Xt.Nw.alloc ?_ _ | refine Xt.Nw.joined ?_ | refine Xt.Nw.drewd ?_ | refine Xt.Nw.drewdN ?_ | refine Xt.Nw.ext ?_ | refine Xt.Nw.ext_some ?_ (by assumption) | refine Xt.Nw.setCell ?_ (by simp [go_sem] <;> omega) _)))⟩⟩, by have := HIN.out; simp [intOf]; omega⟩
          rw [HST.out]; unfold stepS; rw [if_neg (by simp)]; rw [if_neg HE.out]
    · have i1 : ¬ (i : Int) < (n : Int) := by omega
      have hfull := fold_f (k := k) (x := x) (o := []) HH.out.asc
      have hfl := HF.out
      rw [List.take_of_length_le (by have := HN.out; omega)] at hfl
      rw [hfl] at hfull
      simp only [List.nil_append] at hfull
      have HFU := Lib.hid hfull
      have hown2 := HO.out
      unfold Coll at hown2
      have hz0 : (wB.ext none d).frozen? ⟨gp, 0, none⟩ = false := by rw [frozen_ext]; exact HB.out.pz
      have p1 : (wB.ext none d).cell? ⟨gp, 0, none⟩ = some (.slice A n c) := by rw [cell_ext]; exact p0
      have hoo : O.length ≤ 2000000 := by have := HOL.out; have := HNN.out; omega
      clear hfl hfull
      cases D with
      | true =>
        obtain ⟨A2, c2, rfl⟩ : ∃ A c, u = .slice A O.length c := by
          rcases own_forms hown2 with ⟨h1, h2⟩ | ⟨g, c, h1, _⟩
          · exact ⟨none, 0, by rw [h1, h2]⟩
          · exact ⟨_, c, h1⟩
        obtain ⟨m, hm⟩ : ∃ m, m = O.length := ⟨_, rfl⟩
        have HM := Lib.hid hm
        rw [← hm] at hown2
        have HOW := Lib.hid hown2
        rw [← hm]
        clear hm hown2
        go_wp2
        go_end0
        have hO : O = putL k x l := by have h := HFU.out; simpa using h
        have hnw : Nw w (wB.ext none d) := HNB.out.trans ⟨d, rfl⟩
        have hsz := hnw.grown.size
        have hsB := HNB.out.grown.size
        refine ⟨rfl, .slice A2 m c2, ?_⟩
        rw [← (setCell_ext (w := wB) (r := none) (d := d) (n := gp) (i := 0) (.slice A2 m c2))]
        refine RUpd.store p1 hz0 ?_ ?_ (put_asc k x HH.out.asc) hnw ?_
        · have h := own_le HOW.out (Nat.zero_le _)
          rw [HM.out, hO] at h
          rw [HM.out, hO]; exact h
        · intro e
          have h1 := (HOW.out.lt gp e).1
          have h2 := HH.out.lt
          omega
        · intro g hg
          have h1 := (HOW.out.lt g hg).1
          omega
      | false =>
        go_upto_region 13 with (at_builtin; refine wpList_app1 rfl _ _ 62 rfl 106 (.agg #[.int .u64 0, .int .u64 0]) 2 16 Tryz.underlying62 pairInfo rfl (by decide) wB (wB.ext none d) ((by repeat (first | exact Xt.Nw.refl _ | refine Xt.Nw.drew ?_ | refine Xt.Nw.drewN ?_ _ | refine Xt.Nw.alloc ?_ _ | refine Xt.Nw.joined ?_ | refine Xt.Nw.drewd ?_ | refine Xt.Nw.drewdN ?_ | refine Xt.Nw.ext ?_ | refine Xt.Nw.ext_some ?_ (by assumption) | refine Xt.Nw.setCell ?_ (by simp [go_sem] <;> omega) _))) _ _ _ rfl (by exact hown2) _ 1 1 _ [.int .u64 k, .int .u64 x] rfl rfl rfl (by intro z hz; simp at hz; rcases hz with rfl | rfl <;> rfl) (by unfold maxLen; omega) (by omega) ?_; intro vA dA hownA)
        have hown3 := Coll.snoc hownA
        unfold Coll at hown3
        clear hownA hown2
        obtain ⟨A2, c2, rfl⟩ : ∃ A c, vA = .slice A (O ++ [(k, x)]).length c := by
          rcases own_forms hown3 with ⟨h1, h2⟩ | ⟨g, c, h1, _⟩
          · exact ⟨none, 0, by rw [h1, h2]⟩
          · exact ⟨_, c, h1⟩
        obtain ⟨m, hm⟩ : ∃ m, m = (O ++ [(k, x)]).length := ⟨_, rfl⟩
        have HM := Lib.hid hm
        rw [← hm] at hown3
        have HOW := Lib.hid hown3
        have hz0 : (wB.ext none dA).frozen? ⟨gp, 0, none⟩ = false := by rw [frozen_ext]; exact HB.out.pz
        have p1 : (wB.ext none dA).cell? ⟨gp, 0, none⟩ = some (.slice A n c) := by rw [cell_ext]; exact p0
        rw [← hm]
        clear hm hown3
        go_wp2
        go_end0
        have hO : O ++ [(k, x)] = putL k x l := by have h := HFU.out; simpa using h
        have hnw : Nw w (wB.ext none dA) := HNB.out.trans ⟨dA, rfl⟩
        have hsB := HNB.out.grown.size
        refine ⟨rfl, .slice A2 m c2, ?_⟩
        rw [← (setCell_ext (w := wB) (r := none) (d := dA) (n := gp) (i := 0) (.slice A2 m c2))]
        refine RUpd.store p1 hz0 ?_ ?_ (put_asc k x HH.out.asc) hnw ?_
        · have h := own_le HOW.out (Nat.zero_le _)
          rw [HM.out, hO] at h
          rw [HM.out, hO]; exact h
        · intro e
          have h1 := (HOW.out.lt gp e).1
          have h2 := HH.out.lt
          omega
        · intro g hg
          have h1 := (HOW.out.lt g hg).1
          omega
end Go.Proofs.YtahagplegmcaaaaGreatDoor
