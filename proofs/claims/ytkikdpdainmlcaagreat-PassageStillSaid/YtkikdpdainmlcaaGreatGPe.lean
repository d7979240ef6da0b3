import Derived.Test.YtkikdpdainmlcaaGreatGPa
import Derived.Deep.AppendSrc
import Derived.Maps.AppendAt
set_option linter.unusedVariables false
set_option linter.unusedSimpArgs false
set_option linter.unnecessarySimpa false
namespace Go.Proofs.YtkikdpdainmlcaaGreat
open Go.RowKit Go.Xt
/-! slices.Insert of one pair before another, where there is no room. -/
theorem run_append_zeros {Q : Program} (w : World) (t tn ty e : TypeId) (i : TypeInfo) (z : Value) (k kn : IntKind) (ht : Q.underlying t = some (.slice e)) (htn : Q.underlying tn = some (.int kn)) (hi : Q.info? e = some i) (hz : i.zero = some z)
    (base : Option Addr) (sLen sCap : Nat) (olds : List Value) (hold : (Builtin.firstCells i.size sLen (.slice base sLen sCap)).run Q w.drew = .ok olds.toArray w.drew)
    (n : Nat) (h0 : 0 < n) (hs : 0 < i.size) (hg : sCap < sLen + n) (h63 : ((sLen + n : Nat) : Int) ≤ 9223372036854775807) (h48 : n * i.bytes ≤ 281474976710656) (hfit : Builtin.nextslicecap (sLen + n) sCap * i.bytes ≤ 281474976710656) :
    (Builtin.append_ #[t, tn] ty #[.slice base sLen sCap, .int k n]).run Q w =
      .ok (.slice (some ⟨w.heap.size, 0, none⟩) (sLen + n) (grownCap w (sLen + n) sCap e))
        (w.drew.alloc (.cells (olds.toArray ++ Builtin.zeroCells z.cells n ++ Builtin.zeroCells z.cells (grownCap w (sLen + n) sCap e - (sLen + n))) e)) := by
  have hn0 : n ≠ 0 := by omega
  have hw : IntKind.i64.wrap (n : Int) = n := by rw [IntKind.wrap_i64]; omega
  have hn : ¬ (sLen + n ≤ sCap) := by omega
  have h63' : ¬ (9223372036854775807 < ((sLen : Int) + (n : Int))) := by omega
  have h48' : ¬ (281474976710656 < Builtin.nextslicecap (sLen + n) sCap * i.bytes) := by omega
  have h48i : ¬ (281474976710656 < (n : Int) * (i.bytes : Int)) := by
    rw [← Int.natCast_mul]; omega
  have hneg : ¬ ((n : Int) < 0) := by omega
  have hns : ¬ (n * i.size = 0) := Nat.mul_ne_zero hn0 (by omega)
  simp [Builtin.append_, run_underlying ht, run_underlying htn, sizeOf, typeInfo, zeroValue, hi, hz, asInt, asIntOf, hw, hn, hneg, hns, h63', h48', h48i, Question.forced, hold, newRow, grownCap]
theorem ins_cells2 {l : List (Int × Int)} {cur : List Value} {P n c : Nat} {k x : Int} (hl : l.length = n) (hP : P < n) (hc : n + 1 ≤ c) (hcur : cur.take (P * 2) = pcells (l.take P)) (hlen : cur.length = c * 2) :
    (setL (setL cur (P * 2) [.int .u64 k, .int .u64 x]) ((P + 1) * 2) (pcells (l.drop P))).take ((n + 1) * 2) = pcells (insM l P (k, x)) := by
  have hd : (pcells (l.drop P)).length = (n - P) * 2 := by rw [pcells_len, List.length_drop, hl]
  have ht : (pcells (l.take P)).length = P * 2 := by rw [pcells_len, List.length_take, hl]; congr 1; omega
  have hr : pcells (insM l P (k, x)) = pcells (l.take P) ++ ([.int .u64 k, .int .u64 x] ++ pcells (l.drop P)) := by
    rw [insM, pcells_app]; rfl
  apply List.ext_getElem?
  intro j
  rw [hr, List.getElem?_take]
  by_cases hj : j < (n + 1) * 2
  · rw [if_pos hj]
    by_cases h1 : j < P * 2
    · rw [setL_out _ _ _ _ (by omega), setL_out _ _ _ _ (by omega), List.getElem?_append_left (by omega), ← hcur, List.getElem?_take, if_pos h1]
    · by_cases h2 : j < (P + 1) * 2
      · have e : j = P * 2 + (j - P * 2) := by omega
        rw [setL_out _ _ _ _ (by omega), e, setL_in _ _ _ _ (by simp; omega) (by rw [hlen]; simp; omega), List.getElem?_append_right (by omega), ht, show P * 2 + (j - P * 2) - P * 2 = j - P * 2 by omega, List.getElem?_append_left (by simp; omega)]
      · have e : j = (P + 1) * 2 + (j - (P + 1) * 2) := by omega
        rw [e, setL_in _ _ _ _ (by omega) (by rw [setL_len]; omega), List.getElem?_append_right (by omega), ht, List.getElem?_append_right (by simp; omega)]
        congr 1; simp; omega
  · rw [if_neg hj, List.getElem?_eq_none (by simp [hd, ht]; omega)]
set_option maxRecDepth 20000 in
set_option maxHeartbeats 4000000 in
theorem insert_grow (base g n : Nat) (l : List (Int × Int)) (P gv : Nat) (k x : Int) (w : World) (hown : w.ownsRow base 51 2 (.slice (some ⟨g, 0, none⟩) n n) n (pcells l)) (hbase : base ≤ w.heap.size) (hl : l.length = n) (hP : P < n) (hn : n ≤ 1000000)
    (h0 : w.cell? ⟨gv, 0, none⟩ = some (.int .u64 k)) (h1 : w.cell? ⟨gv, 1, none⟩ = some (.int .u64 x)) :
    Calls Tryz.prog 117 #[.slice (some ⟨g, 0, none⟩) n n, .int .i64 P, .slice (some ⟨gv, 0, none⟩) 1 1] w fun e w' => ∃ v', e = .returned v' ∧ w'.ownsRow base 51 2 v' (n + 1) (pcells (insM l P (k, x))) ∧ Nw w w' ∧ ∃ q, v'.ownBlock = some q ∧ w.heap.size ≤ q := by
  haveI : In gv w := ⟨World.block_lt_of_cell? w _ h0⟩
  obtain ⟨cur, hfull, hcur, hclen, _⟩ := own_full hown
  have hadd : ∀ (b o j : Nat), (⟨b, o, none⟩ : Addr).add j = ⟨b, o + j, none⟩ := fun b o j => by unfold Addr.add; split <;> simp_all
  obtain ⟨ti, hi1, hz0, hz1, hz2⟩ := info_parts pairInfo
  have hsz : (Tryz.prog.info? 51).map (·.size) = some 2 := by rw [hi1]; simp [hz1]
  have hdl : (pcells (l.drop P)).length = (n - P) * 2 := by rw [pcells_len, List.length_drop, hl]
  have htl : (pcells (l.take P)).length = P * 2 := by rw [pcells_len, List.length_take, hl]; congr 1; omega
  have hat : ∀ j v, (pcells l)[j]? = some v → w.cell? ⟨g, j, none⟩ = some v := fun j v hj => by
    have hjl := (List.getElem?_eq_some_iff.1 hj).1
    rw [pcells_len, hl] at hjl
    rw [hown.cellAt j hjl]; exact hj
  have hld : ∀ j v, (pcells (l.drop P))[j]? = some v → (pcells l)[P * 2 + j]? = some v := fun j v hj => by
    rw [← List.take_append_drop P l, pcells_app, List.getElem?_append_right (by omega), htl, show P * 2 + j - P * 2 = j by omega]; exact hj
  have hlt : ∀ j v, (pcells (l.take P))[j]? = some v → (pcells l)[j]? = some v := fun j v hj => by
    rw [← List.take_append_drop P l, pcells_app, List.getElem?_append_left (List.getElem?_eq_some_iff.1 hj).1]; exact hj
  have hfirst : (Builtin.firstCells ti.size P (.slice (some ⟨g, 0, none⟩) P n)).run Tryz.prog w.drew = .ok (pcells (l.take P)).toArray w.drew := by
    rw [hz1]
    exact run_firstCells_some w.drew 2 P ⟨g, 0, none⟩ P n _ htl (fun j v hj => by rw [hadd, Nat.zero_add]; exact hat _ _ (hlt _ _ hj))
  have hap := fun ty => run_append_zeros w 47 3 ty 51 ti (.agg #[.int .u64 0, .int .u64 0]) .i64 .i64 Tryz.underlying47 Tryz.underlying3 hi1 hz0 (some ⟨g, 0, none⟩) P n (pcells (l.take P)) hfirst (n + 1 - P) (by omega) (by rw [hz1]; omega) (by omega) (by omega) (by rw [hz2]; omega) (growslice_fits (by omega) (by rw [hz2]; omega))
  have e1 : P + (n + 1 - P) = n + 1 := by omega
  have e2 : ((n + 1 - P : Nat) : Int) = (n : Int) + 1 - (P : Int) := by omega
  simp only [e1, e2] at hap
  obtain ⟨cap, hcap⟩ : ∃ cap, cap = grownCap w (n + 1) n 51 := ⟨_, rfl⟩
  rw [← hcap] at hap
  have hcge : n + 1 ≤ cap := by rw [hcap]; exact grownCap_ge _ _ _ _
  have hcle : cap ≤ maxLen := by rw [hcap]; exact grownCap_le_maxLen _ _ _ _ (by unfold maxLen; omega)
  clear hcap
  obtain ⟨arr, harr⟩ : ∃ arr : Array Value, arr = (pcells (l.take P)).toArray ++ Builtin.zeroCells (Value.agg #[.int .u64 0, .int .u64 0]).cells (n + 1 - P) ++ Builtin.zeroCells (Value.agg #[.int .u64 0, .int .u64 0]).cells (cap - (n + 1)) := ⟨_, rfl⟩
  rw [← harr] at hap
  have hasz : arr.size = cap * 2 := by
    have hz : (Value.agg #[.int .u64 0, .int .u64 0]).cells.size = 2 := rfl
    rw [harr, Array.size_append, Array.size_append, size_zeroCells, size_zeroCells, hz, List.size_toArray, htl]
    omega
  have hatk : arr.toList.take (P * 2) = pcells (l.take P) := by
    rw [harr, Array.toList_append, Array.toList_append, List.append_assoc]
    exact List.take_left' htl
  obtain ⟨W2, hW2⟩ : ∃ W2, W2 = w.drew.alloc (.cells arr 51) := ⟨_, rfl⟩
  rw [← hW2] at hap
  have hnw2 : Nw w W2 := by rw [hW2]; exact (Nw.drew (Nw.refl w)).alloc _
  have hrow2 : W2.ownsRow w.heap.size 51 2 (.slice (some ⟨w.heap.size, 0, none⟩) cap cap) cap arr.toList := by rw [hW2]; exact World.ownsRow_lit w.drew arr cap (Nat.le_refl _) hcle hasz
  have hfsome : ∀ (W : World) (xs : List Value), W.ownsRow w.heap.size 51 2 (.slice (some ⟨w.heap.size, 0, none⟩) cap cap) cap xs → ∀ j, j < cap * 2 → (W.cell? ⟨w.heap.size, j, none⟩).isSome = true := fun W xs h j hj => by
    rw [h.cellAt j hj, List.getElem?_eq_getElem (by rw [h.1]; exact hj)]; rfl
  have hold : ∀ (b j : Nat) v, w.cell? ⟨b, j, none⟩ = some v → W2.cell? ⟨b, j, none⟩ = some v := fun b j v hv =>
    (World.cell?_of_block (hnw2.grown.block b (World.block_lt_of_cell? w _ hv) (by simp))).trans hv
  have hcp1 : ∀ ty dc, (Builtin.copy_ #[47, 47] ty #[.slice (some ⟨w.heap.size, P * 2, none⟩) (n + 1 - P) dc, .slice (some ⟨gv, 0, none⟩) 1 1]).run Tryz.prog W2 = .ok (goInt (Nat.min 1 (n + 1 - P))) (W2.setCells w.heap.size (P * 2) [.int .u64 k, .int .u64 x]) := fun ty dc =>
    run_copy2 W2 _ _ ty 51 w.heap.size (P * 2) (n + 1 - P) dc ⟨gv, 0, none⟩ 1 1 [.int .u64 k, .int .u64 x] Tryz.underlying47 hsz
      (by simp only [Nat.min_def]; split <;> simp <;> omega)
      (fun j v hj => by
        rw [hadd, Nat.zero_add]
        match j, hj with
        | 0, hj => simp at hj; subst hj; exact hold _ _ _ h0
        | 1, hj => simp at hj; subst hj; exact hold _ _ _ h1
        | j + 2, hj => simp at hj)
      (fun j hj => hfsome _ _ hrow2 _ (by simp at hj; omega)) (fun j _ => hrow2.frozenAt _) (by intro u hu; simp at hu; rcases hu with rfl | rfl <;> rfl)
  obtain ⟨W3, hW3⟩ : ∃ W3, W3 = W2.setCells w.heap.size (P * 2) [.int .u64 k, .int .u64 x] := ⟨_, rfl⟩
  rw [← hW3] at hcp1
  have hrow3 := own_setCells [.int .u64 k, .int .u64 x] arr.toList (P * 2) W2 hrow2
  rw [← hW3] at hrow3
  have hnw3 : Nw w W3 := hnw2.row hrow3.2 (fun q hq => by cases hq; exact Nat.le_refl _)
  have hnw3d : Nw w W3.drew := hnw3.drew
  have hrow3d : W3.drew.ownsRow w.heap.size 51 2 (.slice (some ⟨w.heap.size, 0, none⟩) cap cap) cap _ := own_nw hrow3.1 (Nw.drew (Nw.refl _))
  have hold3 : ∀ (b j : Nat) v, w.cell? ⟨b, j, none⟩ = some v → W3.drew.cell? ⟨b, j, none⟩ = some v := fun b j v hv =>
    (World.cell?_of_block (hnw3d.grown.block b (World.block_lt_of_cell? w _ hv) (by simp))).trans hv
  have hcp2 : ∀ ty dc sc, (Builtin.copy_ #[47, 47] ty #[.slice (some ⟨w.heap.size, (P + 1) * 2, none⟩) (n - P) dc, .slice (some ⟨g, P * 2, none⟩) (n - P) sc]).run Tryz.prog W3.drew = .ok (goInt (Nat.min (n - P) (n - P))) (W3.drew.setCells w.heap.size ((P + 1) * 2) (pcells (l.drop P))) := fun ty dc sc =>
    run_copy2 W3.drew _ _ ty 51 w.heap.size ((P + 1) * 2) (n - P) dc ⟨g, P * 2, none⟩ (n - P) sc (pcells (l.drop P)) Tryz.underlying47 hsz
      (by rw [hdl]; simp)
      (fun j v hj => by rw [hadd]; exact hold3 _ _ _ (hat _ _ (hld _ _ hj)))
      (fun j hj => hfsome _ _ hrow3d _ (by rw [hdl] at hj; omega)) (fun j _ => hrow3d.frozenAt _) (pcells_one _)
  have hrow4 := own_setCells (pcells (l.drop P)) _ ((P + 1) * 2) W3.drew hrow3d
  have hfin := own_take hrow4.1 hcge
  rw [ins_cells2 hl hP hcge hatk (by simpa using hasz)] at hfin
  have hnw4 := hnw3d.row hrow4.2 (fun q hq => by cases hq; exact Nat.le_refl _)
  have AP := Lib.hid hap
  have CP1 := Lib.hid hcp1
  have CP2 := Lib.hid hcp2
  have FIN := Lib.hid (own_le hfin hbase)
  have NWF := Lib.hid hnw4
  have HW3 := Lib.hid hW3
  have HW2 := Lib.hid hW2
  have HO := Lib.hid hown
  have p1 : (P : Int) < (n : Int) := by omega
  have p2 : (P : Int) ≤ (n : Int) := by omega
  have p3 : ¬ P = n := by omega
  have p4 : ((P : Int) == (n : Int)) = false := by simp; omega
  have p5 : (n : Int) < (n : Int) + 1 := by omega
  have p7 : IntKind.i64.wrap ((n : Int) + 1) = (n : Int) + 1 := by rw [IntKind.wrap_i64]; omega
  have p8 : IntKind.i64.wrap ((P : Int) + 1) = (P : Int) + 1 := by rw [IntKind.wrap_i64]; omega
  have p9 : n ≤ n := by omega
  have p10 : IntKind.i64.wrap ((n : Int) + 1 - (P : Int)) = (n : Int) + 1 - (P : Int) := by rw [IntKind.wrap_i64]; omega
  have p11 : (P : Int) ≤ (n : Int) := by omega
  have p12 : P ≤ n := by omega
  have q1 : (P : Int) ≤ (n : Int) + 1 := by omega
  have q2 : (P : Int) + 1 ≤ (n : Int) + 1 := by omega
  have q3 : (0 : Int) ≤ (P : Int) + 1 := by omega
  have q4 : ¬ cap = P + 1 := by omega
  have q5 : ¬ cap ≤ P + 1 := by omega
  have q6 : ¬ cap = P := by omega
  have q7 : ¬ cap ≤ P := by omega
  have q8 : ((P : Int) + 1).toNat = P + 1 := by omega
  have q9 : ¬ n = P := by omega
  have q10 : ¬ n ≤ P := by omega
  have HCUR := Lib.hid hcur
  clear hadd hsz hdl htl hat hld hlt hfirst hap hcge hcle harr hasz hatk hnw2 hrow2 hfsome hold hcp1 hrow3 hnw3 hnw3d hrow3d hold3 hcp2 hrow4 hfin hnw4 hW3 hW2 hown hcur hfull hclen
  go_enter Tryz.func117, Tryz.ntmps117
  have hc1 := CP1.out 3 (cap - P)
  go_wp2_with (at_builtin; refine Lib.wpList_append_run _ rfl (.tmp 34) (.tmp 39) 47 3 rfl (Value.slice (some ⟨g, 0, none⟩) P n) (Value.int .i64 ((n : Int) + 1 - (P : Int))) rfl rfl _ _ (AP.out _) ?_)
  go_region_law (refine step_copy_eq rfl (.tmp 50) (.tmp 53) 47 47 rfl _ _ (by simp [Act.eval, Act.put]; rfl) (by simp [Act.eval, Act.put]; rfl) (CP2.out _ _ _) ?_)
  go_wp2
  exact bodyPost_ret (results_tmp rfl _ _ _) rfl ⟨.slice (some ⟨w.heap.size, 0, none⟩) (n + 1) cap, rfl, FIN.out, NWF.out, _, rfl, Nat.le_refl _⟩
end Go.Proofs.YtkikdpdainmlcaaGreat
namespace Go.Proofs.YtkikdpdainmlcaaGreat
open Go.RowKit Go.Xt
/-! The ordered map: what it holds in memory; slices.Insert, find, set at any pairs. -/
def Moved (w : World) (v v' : Value) : Prop := v'.ownBlock = v.ownBlock ∨ ∃ g, v'.ownBlock = some g ∧ w.heap.size ≤ g
set_option maxRecDepth 20000 in
set_option maxHeartbeats 4000000 in
theorem insert_last (v : Value) (n : Nat) (l : List (Int × Int)) (gv : Nat) (k x : Int) (w : World) (hown : w.ownsRow 0 51 2 v n (pcells l)) (hn : n ≤ 1000000)
    (h0 : w.cell? ⟨gv, 0, none⟩ = some (.int .u64 k)) (h1 : w.cell? ⟨gv, 1, none⟩ = some (.int .u64 x)) :
    Calls Tryz.prog 117 #[v, .int .i64 n, .slice (some ⟨gv, 0, none⟩) 1 1] w fun e w' => ∃ v', e = .returned v' ∧ w'.ownsRow 0 51 2 v' (n + 1) (pcells (l ++ [(k, x)])) ∧ w.grownBy w' v.ownBlock ∧ Moved w v v' := by
  haveI : In gv w := ⟨World.block_lt_of_cell? w _ h0⟩
  have HO := Lib.hid hown
  obtain ⟨i, hi1, hz0, hz1, hz2⟩ := info_parts pairInfo
  have HI := Lib.hid (⟨hi1, hz0, hz1, hz2⟩ : _ ∧ _ ∧ _ ∧ _)
  clear hi1 hz0 hz1 hz2
  have hnews : ∀ j u, [Value.int .u64 k, Value.int .u64 x][j]? = some u → w.cell? ((⟨gv, 0, none⟩ : Addr).add j) = some u := by
    intro j u hu
    have hadd : (⟨gv, 0, none⟩ : Addr).add j = ⟨gv, j, none⟩ := by unfold Addr.add; split <;> simp_all
    rw [hadd]
    match j, hu with
    | 0, hu => simp at hu; subst hu; exact h0
    | 1, hu => simp at hu; subst hu; exact h1
    | j + 2, hu => simp at hu
  have HN := Lib.hid hnews
  clear hnews
  have fin : ∀ (w' : World) (v' : Value), w'.ownsRow 0 51 2 v' (n + 1) (pcells l ++ [.int .u64 k, .int .u64 x]) → w'.ownsRow 0 51 2 v' (n + 1) (pcells (l ++ [(k, x)])) := fun w' v' h => by rw [pcells_app]; exact h
  have FIN := Lib.hid fin
  have mvd : ∀ (v' : Value), (v'.ownBlock = v.ownBlock ∨ v'.ownBlock = some w.heap.size) → Moved w v v' := fun v' h => h.imp id fun h => ⟨_, h, Nat.le_refl _⟩
  have MVD := Lib.hid mvd
  clear fin mvd
  rcases own_forms hown with ⟨rfl, rfl⟩ | ⟨g, c, rfl, hg, hin, hc1, hc2⟩
  · clear hown
    go_enter Tryz.func117, Tryz.ntmps117
    go_wp2_with (at_builtin; refine wpList_append_own_at w rfl _ _ 47 rfl 0 51 i (.agg #[.int .u64 0, .int .u64 0]) 2 16 Tryz.underlying47 HI.out.1 HI.out.2.1 HI.out.2.2.1 HI.out.2.2.2 rfl (by decide) _ 0 _ rfl HO.out ⟨gv, 0, none⟩ 1 1 [.int .u64 k, .int .u64 x] rfl rfl HN.out (by intro u hu; simp at hu; rcases hu with rfl | rfl <;> rfl) (by unfold maxLen; omega) (by omega) (Nat.zero_le _) ?_; intro vA wA hownA hgrA _ hmvA)
    exact bodyPost_ret (results_tmp rfl _ _ _) rfl ⟨vA, rfl, FIN.out _ _ hownA, hgrA, MVD.out _ hmvA⟩
  · have c1 : (n : Int) ≤ (c : Int) := by omega
    clear hown
    go_enter Tryz.func117, Tryz.ntmps117
    go_wp2_with (at_builtin; refine wpList_append_own_at w rfl _ _ 47 rfl 0 51 i (.agg #[.int .u64 0, .int .u64 0]) 2 16 Tryz.underlying47 HI.out.1 HI.out.2.1 HI.out.2.2.1 HI.out.2.2.2 rfl (by decide) _ n _ rfl HO.out ⟨gv, 0, none⟩ 1 1 [.int .u64 k, .int .u64 x] rfl rfl HN.out (by intro u hu; simp at hu; rcases hu with rfl | rfl <;> rfl) (by unfold maxLen; omega) (by omega) (Nat.zero_le _) ?_; intro vA wA hownA hgrA _ hmvA)
    all_goals exact bodyPost_ret (results_tmp rfl _ _ _) rfl ⟨vA, rfl, FIN.out _ _ hownA, hgrA, MVD.out _ hmvA⟩
theorem insM_end (l : List (Int × Int)) (y : Int × Int) : insM l l.length y = l ++ [y] := by simp [insM]
theorem insert_any (v : Value) (n : Nat) (l : List (Int × Int)) (P gv : Nat) (k x : Int) (w : World) (hown : w.ownsRow 0 51 2 v n (pcells l)) (hl : l.length = n) (hP : P ≤ n) (hn : n ≤ 1000000)
    (h0 : w.cell? ⟨gv, 0, none⟩ = some (.int .u64 k)) (h1 : w.cell? ⟨gv, 1, none⟩ = some (.int .u64 x)) (hne : v.ownBlock ≠ some gv) (tA : TypeId) (kA : Nat) (hsv : w.shape? gv = some (tA, kA)) (hfv : ∀ o, w.frozen? ⟨gv, o, none⟩ = false) :
    Calls Tryz.prog 117 #[v, .int .i64 P, .slice (some ⟨gv, 0, none⟩) 1 1] w fun e w' => ∃ v', e = .returned v' ∧ w'.ownsRow 0 51 2 v' (n + 1) (pcells (insM l P (k, x))) ∧ w.grownBy w' v.ownBlock ∧ Moved w v v' := by
  by_cases h : P = n
  · subst h
    rw [← hl, insM_end, hl]
    exact insert_last v P l gv k x w hown hn h0 h1
  · rcases own_forms hown with ⟨rfl, rfl⟩ | ⟨g, c, rfl, hg, hin, hc1, hc2⟩
    · omega
    · by_cases hc : n + 1 ≤ c
      · refine (insert_mid 0 g n c l P gv k x w hown hl (by omega) hc hn h0 h1 (fun e => hne (by rw [e]; rfl)) tA kA hsv hfv).mono ?_
        rintro e w' ⟨rfl, ho, hg⟩
        exact ⟨_, rfl, ho, hg, .inl rfl⟩
      · obtain rfl : n = c := by omega
        refine (insert_grow 0 g n l P gv k x w hown (Nat.zero_le _) hl (by omega) hn h0 h1).mono ?_
        rintro e w' ⟨v', rfl, ho, hnw, hmv⟩
        exact ⟨_, rfl, ho, grown_weak hnw.grown _, .inr hmv⟩
end Go.Proofs.YtkikdpdainmlcaaGreat
namespace Go.Proofs.YtkikdpdainmlcaaGreat
open Go.RowKit Go.Xt
/-! The ordered map, plain. -/
def putL (k x : Int) : List (Int × Int) → List (Int × Int)
  | [] => [(k, x)]
  | y :: r => if y.1 < k then y :: putL k x r else if y.1 = k then (k, x) :: r else (k, x) :: y :: r
def getL (k : Int) : List (Int × Int) → Option Int
  | [] => none
  | y :: r => if y.1 < k then getL k r else if y.1 = k then some y.2 else none
theorem hasK_cons (k : Int) (y : Int × Int) (r : List (Int × Int)) : hasK k (y :: r) = if y.1 < k then hasK k r else decide (y.1 = k) := by
  unfold hasK
  rw [pos]
  by_cases h : y.1 < k
  · rw [if_pos h, if_pos h]; rfl
  · rw [if_neg h, if_neg h]; rfl
theorem hasK_get (k : Int) : ∀ l, hasK k l = (getL k l).isSome
  | [] => rfl
  | y :: r => by
    rw [hasK_cons, getL]
    split
    · exact hasK_get k r
    · split <;> simp_all
theorem get_at (k : Int) : ∀ (l : List (Int × Int)) (x : Int), getL k l = some x → l[pos k l]? = some (k, x)
  | [], x, h => by cases h
  | y :: r, x, h => by
    rw [getL] at h
    rw [pos]
    split at h
    · rename_i hy; rw [if_pos hy]; exact get_at k r x h
    · rename_i hy
      rw [if_neg hy]
      split at h
      · rename_i he; cases h; subst he; rfl
      · cases h
theorem put_had (k x : Int) : ∀ l, hasK k l = true → l.set (pos k l) (k, x) = putL k x l
  | [], h => by cases h
  | y :: r, h => by
    rw [hasK_cons] at h
    rw [pos, putL]
    split
    · rename_i hy; rw [if_pos hy] at h; simp [put_had k x r h]
    · rename_i hy; rw [if_neg hy] at h; simp at h; rw [if_pos h]; rfl
theorem put_new (k x : Int) : ∀ l, hasK k l = false → insM l (pos k l) (k, x) = putL k x l
  | [], h => rfl
  | y :: r, h => by
    rw [hasK_cons] at h
    rw [pos, putL]
    split
    · rename_i hy; rw [if_pos hy] at h; rw [← put_new k x r h]; rfl
    · rename_i hy; rw [if_neg hy] at h; simp at h; rw [if_neg h]; rfl
theorem put_mem {k x : Int} {z : Int × Int} : ∀ {l}, z ∈ putL k x l → z ∈ l ∨ z = (k, x)
  | [], h => by simp [putL] at h; exact .inr h
  | y :: r, h => by
    rw [putL] at h
    split at h
    · rcases List.mem_cons.1 h with rfl | h
      · simp
      · rcases put_mem h with h | h <;> simp [h]
    · split at h
      · rcases List.mem_cons.1 h with rfl | h <;> simp_all
      · rcases List.mem_cons.1 h with rfl | h <;> simp_all
theorem put_asc (k x : Int) : ∀ {l}, asc l → asc (putL k x l)
  | [], _ => by simp [putL, asc]
  | y :: r, h => by
    have h2 := List.pairwise_cons.1 h
    rw [putL]
    split
    · rename_i hy
      refine List.pairwise_cons.2 ⟨fun z hz => ?_, put_asc k x h2.2⟩
      rcases put_mem hz with h | rfl
      · exact h2.1 _ h
      · exact hy
    · split
      · rename_i he
        exact List.pairwise_cons.2 ⟨fun z hz => by rw [← he]; exact h2.1 _ hz, h2.2⟩
      · exact List.pairwise_cons.2 ⟨fun z hz => by
          rcases List.mem_cons.1 hz with rfl | h
          · show k < _; omega
          · have := h2.1 _ h; show k < _; omega, h⟩
theorem put_len (k x : Int) : ∀ l, (putL k x l).length = if hasK k l then l.length else l.length + 1
  | [] => rfl
  | y :: r => by
    rw [putL, hasK_cons]
    split
    · rw [List.length_cons, put_len k x r]; split <;> simp
    · split <;> simp_all
theorem put_le (k x : Int) (l : List (Int × Int)) : (putL k x l).length ≤ l.length + 1 := by rw [put_len]; split <;> omega
def delL (k : Int) : List (Int × Int) → List (Int × Int)
  | [] => []
  | y :: r => if y.1 < k then y :: delL k r else if y.1 = k then r else y :: r
theorem del_had (k : Int) : ∀ l, hasK k l = true → l.take (pos k l) ++ l.drop (pos k l + 1) = delL k l
  | [], h => by cases h
  | y :: r, h => by
    rw [hasK_cons] at h
    rw [pos, delL]
    split
    · rename_i hy; rw [if_pos hy] at h; rw [← del_had k r h]; rfl
    · rename_i hy; rw [if_neg hy] at h; simp at h; rw [if_pos h]; rfl
theorem del_not (k : Int) : ∀ l, hasK k l = false → delL k l = l
  | [], h => rfl
  | y :: r, h => by
    rw [hasK_cons] at h
    rw [delL]
    split
    · rename_i hy; rw [if_pos hy] at h; rw [del_not k r h]
    · rename_i hy; rw [if_neg hy] at h; simp at h; rw [if_neg h]
theorem asc_sub {l m : List (Int × Int)} (h : asc l) (hs : m.Sublist l) : asc m := List.Pairwise.sublist hs h
theorem del_sub (k : Int) : ∀ l, (delL k l).Sublist l
  | [] => .slnil
  | y :: r => by
    rw [delL]
    split
    · exact (del_sub k r).cons_cons _
    · split
      · exact List.sublist_cons_self _ _
      · exact List.Sublist.refl _
def posTo (k : Int) (l : List (Int × Int)) : Nat := if hasK k l then pos k l + 1 else pos k l
def inR (lo hi : Int) (l : List (Int × Int)) : List (Int × Int) := l.filter fun x => decide (lo ≤ x.1) && decide (x.1 ≤ hi)
def outR (lo hi : Int) (l : List (Int × Int)) : List (Int × Int) := l.filter fun x => !(decide (lo ≤ x.1) && decide (x.1 ≤ hi))
theorem posTo_cons (k : Int) (y : Int × Int) (r : List (Int × Int)) : posTo k (y :: r) = if y.1 < k then posTo k r + 1 else if y.1 = k then 1 else 0 := by
  unfold posTo
  rw [hasK_cons, pos]
  by_cases h : y.1 < k
  · simp only [h, if_true]; split <;> rfl
  · by_cases h2 : y.1 = k
    · simp [h, h2]
    · simp [h, h2]
theorem none_above {k : Int} {l : List (Int × Int)} (h : ∀ z ∈ l, k < z.1) (lo : Int) : inR lo k l = [] ∧ outR lo k l = l := by
  constructor
  · exact List.filter_eq_nil_iff.2 fun z hz => by have := h z hz; simp; omega
  · exact List.filter_eq_self.2 fun z hz => by have := h z hz; simp; omega
theorem pos_le_to {lo hi : Int} (hlh : lo ≤ hi) : ∀ {l}, asc l → pos lo l ≤ posTo hi l
  | [], _ => Nat.le_refl _
  | y :: r, h => by
    have h2 := List.pairwise_cons.1 h
    rw [pos, posTo_cons]
    split
    · rename_i h1
      have h3 := pos_le_to hlh h2.2
      split
      · omega
      · omega
    · exact Nat.zero_le _
theorem posTo_le (k : Int) (l : List (Int × Int)) : posTo k l ≤ l.length := by
  unfold posTo
  split
  · rename_i h
    unfold hasK at h
    split at h
    · rename_i x hx
      have := (List.getElem?_eq_some_iff.1 hx).1
      omega
    · cases h
  · exact pos_le _ _
theorem split_range {lo hi : Int} (hlh : lo ≤ hi) : ∀ {l}, asc l → (l.take (posTo hi l)).drop (pos lo l) = inR lo hi l ∧ l.take (pos lo l) ++ l.drop (posTo hi l) = outR lo hi l
  | [], _ => ⟨rfl, rfl⟩
  | y :: r, h => by
    have h2 := List.pairwise_cons.1 h
    have ih := split_range hlh h2.2
    rw [pos, posTo_cons]
    by_cases h1 : y.1 < lo
    · have e1 : y.1 < hi := by omega
      have e2 : inR lo hi (y :: r) = inR lo hi r := by rw [inR, List.filter_cons_of_neg (by simp; omega)]; rfl
      have e3 : outR lo hi (y :: r) = y :: outR lo hi r := by rw [outR, List.filter_cons_of_pos (by simp; omega)]; rfl
      rw [if_pos h1, if_pos e1, e2, e3, ← ih.1, ← ih.2]
      exact ⟨rfl, rfl⟩
    · rw [if_neg h1]
      by_cases e1 : y.1 < hi
      · have e2 : inR lo hi (y :: r) = y :: inR lo hi r := by rw [inR, List.filter_cons_of_pos (by simp; omega)]; rfl
        have e3 : outR lo hi (y :: r) = outR lo hi r := by rw [outR, List.filter_cons_of_neg (by simp; omega)]; rfl
        have e4 : pos lo r = 0 := by
          cases r with
          | nil => rfl
          | cons z q => have := h2.1 z (by simp); rw [pos, if_neg (by omega)]
        rw [e4] at ih
        rw [if_pos e1, e2, e3, ← ih.1, ← ih.2]
        exact ⟨rfl, rfl⟩
      · rw [if_neg e1]
        by_cases e5 : y.1 = hi
        · have e6 := none_above (k := hi) (l := r) (fun z hz => by have := h2.1 z hz; omega) lo
          have e2 : inR lo hi (y :: r) = y :: inR lo hi r := by rw [inR, List.filter_cons_of_pos (by simp; omega)]; rfl
          have e3 : outR lo hi (y :: r) = outR lo hi r := by rw [outR, List.filter_cons_of_neg (by simp; omega)]; rfl
          rw [if_pos e5, e2, e3, e6.1, e6.2]
          exact ⟨rfl, rfl⟩
        · have e6 := none_above (k := hi) (l := y :: r) (fun z hz => by
            rcases List.mem_cons.1 hz with rfl | hz
            · omega
            · have := h2.1 z hz; omega) lo
          rw [if_neg e5, e6.1, e6.2]
          exact ⟨rfl, rfl⟩
end Go.Proofs.YtkikdpdainmlcaaGreat
