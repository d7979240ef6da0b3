import Derived.Test.YtdjcndpnjoahmaaDoorGPd
import Derived.Deep.AppendSrc
set_option linter.unusedVariables false
set_option linter.unusedSimpArgs false
namespace Go.Proofs.YtdjcndpnjoahmaaDoor
open Go.RowKit Go.Xt
/-! slices.Insert of one pair before another, where there is no room. -/
/-- append(s, make([]T, n)...), no room: a new row. -/
theorem run_append_zeros {Q : Program} (w : World) (t tn ty e : TypeId) (i : TypeInfo) (z : Value) (k kn : IntKind) (ht : Q.underlying t = some (.slice e)) (htn : Q.underlying tn = some (.int kn)) (hi : Q.info? e = some i) (hz : i.zero = some z)
    (base : Option Addr) (sLen sCap : Nat) (olds : List Value) (hold : (Builtin.firstCells i.size sLen (.slice base sLen sCap)).run Q w.drew = .ok olds.toArray w.drew)
    (n : Nat) (h0 : 0 < n) (hs : 0 < i.size) (hg : sCap < sLen + n) (h63 : ((sLen + n : Nat) : Int) ≤ 9223372036854775807) (h48 : n * i.bytes ≤ 281474976710656) (hfit : Builtin.nextslicecap (sLen + n) sCap * i.bytes ≤ 281474976710656) :
    (Builtin.append_ #[t, tn] ty #[.slice base sLen sCap, .int k n]).run Q w =
      .ok (.slice (some ⟨w.heap.size, 0, none⟩) (sLen + n) (grownCap w (sLen + n) sCap e))
        (w.drew.alloc (.cells (olds.toArray ++ Builtin.zeroCells z.cells n ++ Builtin.zeroCells z.cells (grownCap w (sLen + n) sCap e - (sLen + n))) e)) := by
  have hn0 : n ≠ 0 := by omega
  have hw : IntKind.i64.wrap (n : Int) = n := by rw [IntKind.wrap_i64]; omega
  have hn : ¬ (sLen + n ≤ sCap) := by omega
  have h63' : ¬ (9223372036854775807 < ((sLen : Int) + (n : Int))) := by omega
  have h48' : ¬ (281474976710656 < Builtin.nextslicecap (sLen + n) sCap * i.bytes) := by omega
  have h48i : ¬ (281474976710656 < (n : Int) * (i.bytes : Int)) := by
    rw [← Int.natCast_mul]; omega
  have hneg : ¬ ((n : Int) < 0) := by omega
  have hns : ¬ (n * i.size = 0) := Nat.mul_ne_zero hn0 (by omega)
  simp [Builtin.append_, run_underlying ht, run_underlying htn, sizeOf, typeInfo, zeroValue, hi, hz, asInt, asIntOf, hw, hn, hneg, hns, h63', h48', h48i, Question.forced, hold, newRow, grownCap]
theorem ins_cells2 {l : List (Int × Int)} {cur : List Value} {P n c : Nat} {k x : Int} (hl : l.length = n) (hP : P < n) (hc : n + 1 ≤ c) (hcur : cur.take (P * 2) = pcells (l.take P)) (hlen : cur.length = c * 2) :
    (setL (setL cur (P * 2) [.int .u64 k, .int .u64 x]) ((P + 1) * 2) (pcells (l.drop P))).take ((n + 1) * 2) = pcells (insM l P (k, x)) := by
  have hd : (pcells (l.drop P)).length = (n - P) * 2 := by rw [pcells_len, List.length_drop, hl]
  have ht : (pcells (l.take P)).length = P * 2 := by rw [pcells_len, List.length_take, hl]; congr 1; omega
  have hr : pcells (insM l P (k, x)) = pcells (l.take P) ++ ([.int .u64 k, .int .u64 x] ++ pcells (l.drop P)) := by
    rw [insM, pcells_app]; rfl
  apply List.ext_getElem?
  intro j
  rw [hr, List.getElem?_take]
  by_cases hj : j < (n + 1) * 2
  · rw [if_pos hj]
    by_cases h1 : j < P * 2
    · rw [setL_out _ _ _ _ (by omega), setL_out _ _ _ _ (by omega), List.getElem?_append_left (by omega), ← hcur, List.getElem?_take, if_pos h1]
    · by_cases h2 : j < (P + 1) * 2
      · have e : j = P * 2 + (j - P * 2) := by omega
        rw [setL_out _ _ _ _ (by omega), e, setL_in _ _ _ _ (by simp; omega) (by rw [hlen]; simp; omega), List.getElem?_append_right (by omega), ht, show P * 2 + (j - P * 2) - P * 2 = j - P * 2 by omega, List.getElem?_append_left (by simp; omega)]
      · have e : j = (P + 1) * 2 + (j - (P + 1) * 2) := by omega
        rw [e, setL_in _ _ _ _ (by omega) (by rw [setL_len]; omega), List.getElem?_append_right (by omega), ht, List.getElem?_append_right (by simp; omega)]
        congr 1; simp; omega
  · rw [if_neg hj, List.getElem?_eq_none (by simp [hd, ht]; omega)]
set_option maxRecDepth 20000 in
set_option maxHeartbeats 4000000 in
theorem insert_grow (base g n : Nat) (l : List (Int × Int)) (P gv : Nat) (k x : Int) (w : World) (hown : w.ownsRow base 85 2 (.slice (some ⟨g, 0, none⟩) n n) n (pcells l)) (hbase : base ≤ w.heap.size) (hl : l.length = n) (hP : P < n) (hn : n ≤ 1000000)
    (h0 : w.cell? ⟨gv, 0, none⟩ = some (.int .u64 k)) (h1 : w.cell? ⟨gv, 1, none⟩ = some (.int .u64 x)) :
    Calls Tryd.prog 85 #[.slice (some ⟨g, 0, none⟩) n n, .int .i64 P, .slice (some ⟨gv, 0, none⟩) 1 1] w fun e w' => ∃ v', e = .returned v' ∧ w'.ownsRow base 85 2 v' (n + 1) (pcells (insM l P (k, x))) ∧ Nw w w' ∧ ∃ q, v'.ownBlock = some q ∧ w.heap.size ≤ q := by
  haveI : In gv w := ⟨World.block_lt_of_cell? w _ h0⟩
  obtain ⟨cur, hfull, hcur, hclen, _⟩ := own_full hown
  have hadd : ∀ (b o j : Nat), (⟨b, o, none⟩ : Addr).add j = ⟨b, o + j, none⟩ := fun b o j => by unfold Addr.add; split <;> simp_all
  obtain ⟨ti, hi1, hz0, hz1, hz2⟩ := info_parts pairInfo
  have hsz : (Tryd.prog.info? 85).map (·.size) = some 2 := by rw [hi1]; simp [hz1]
  have hdl : (pcells (l.drop P)).length = (n - P) * 2 := by rw [pcells_len, List.length_drop, hl]
  have htl : (pcells (l.take P)).length = P * 2 := by rw [pcells_len, List.length_take, hl]; congr 1; omega
  have hat : ∀ j v, (pcells l)[j]? = some v → w.cell? ⟨g, j, none⟩ = some v := fun j v hj => by
    have hjl := (List.getElem?_eq_some_iff.1 hj).1
    rw [pcells_len, hl] at hjl
    rw [hown.cellAt j hjl]; exact hj
  have hld : ∀ j v, (pcells (l.drop P))[j]? = some v → (pcells l)[P * 2 + j]? = some v := fun j v hj => by
    rw [← List.take_append_drop P l, pcells_app, List.getElem?_append_right (by omega), htl, show P * 2 + j - P * 2 = j by omega]; exact hj
  have hlt : ∀ j v, (pcells (l.take P))[j]? = some v → (pcells l)[j]? = some v := fun j v hj => by
    rw [← List.take_append_drop P l, pcells_app, List.getElem?_append_left (List.getElem?_eq_some_iff.1 hj).1]; exact hj
  have hfirst : (Builtin.firstCells ti.size P (.slice (some ⟨g, 0, none⟩) P n)).run Tryd.prog w.drew = .ok (pcells (l.take P)).toArray w.drew := by
    rw [hz1]
    exact run_firstCells_some w.drew 2 P ⟨g, 0, none⟩ P n _ htl (fun j v hj => by rw [hadd, Nat.zero_add]; exact hat _ _ (hlt _ _ hj))
  have hap := fun ty => run_append_zeros w 40 3 ty 85 ti (.agg #[.int .u64 0, .int .u64 0]) .i64 .i64 Tryd.underlying40 Tryd.underlying3 hi1 hz0 (some ⟨g, 0, none⟩) P n (pcells (l.take P)) hfirst (n + 1 - P) (by omega) (by rw [hz1]; omega) (by omega) (by omega) (by rw [hz2]; omega) (growslice_fits (by omega) (by rw [hz2]; omega))
  have e1 : P + (n + 1 - P) = n + 1 := by omega
  have e2 : ((n + 1 - P : Nat) : Int) = (n : Int) + 1 - (P : Int) := by omega
  simp only [e1, e2] at hap
  obtain ⟨cap, hcap⟩ : ∃ cap, cap = grownCap w (n + 1) n 85 := ⟨_, rfl⟩
  rw [← hcap] at hap
  have hcge : n + 1 ≤ cap := by rw [hcap]; exact grownCap_ge _ _ _ _
  have hcle : cap ≤ maxLen := by rw [hcap]; exact grownCap_le_maxLen _ _ _ _ (by unfold maxLen; omega)
  clear hcap
  obtain ⟨arr, harr⟩ : ∃ arr : Array Value, arr = (pcells (l.take P)).toArray ++ Builtin.zeroCells (Value.agg #[.int .u64 0, .int .u64 0]).cells (n + 1 - P) ++ Builtin.zeroCells (Value.agg #[.int .u64 0, .int .u64 0]).cells (cap - (n + 1)) := ⟨_, rfl⟩
  rw [← harr] at hap
  have hasz : arr.size = cap * 2 := by
    have hz : (Value.agg #[.int .u64 0, .int .u64 0]).cells.size = 2 := rfl
    rw [harr, Array.size_append, Array.size_append, size_zeroCells, size_zeroCells, hz, List.size_toArray, htl]
    omega
  have hatk : arr.toList.take (P * 2) = pcells (l.take P) := by
    rw [harr, Array.toList_append, Array.toList_append, List.append_assoc]
    exact List.take_left' htl
  obtain ⟨W2, hW2⟩ : ∃ W2, W2 = w.drew.alloc (.cells arr 85) := ⟨_, rfl⟩
  rw [← hW2] at hap
  have hnw2 : Nw w W2 := by rw [hW2]; exact (Nw.drew (Nw.refl w)).alloc _
  have hrow2 : W2.ownsRow w.heap.size 85 2 (.slice (some ⟨w.heap.size, 0, none⟩) cap cap) cap arr.toList := by rw [hW2]; exact World.ownsRow_lit w.drew arr cap (Nat.le_refl _) hcle hasz
  have hfsome : ∀ (W : World) (xs : List Value), W.ownsRow w.heap.size 85 2 (.slice (some ⟨w.heap.size, 0, none⟩) cap cap) cap xs → ∀ j, j < cap * 2 → (W.cell? ⟨w.heap.size, j, none⟩).isSome = true := fun W xs h j hj => by
    rw [h.cellAt j hj, List.getElem?_eq_getElem (by rw [h.1]; exact hj)]; rfl
  have hold : ∀ (b j : Nat) v, w.cell? ⟨b, j, none⟩ = some v → W2.cell? ⟨b, j, none⟩ = some v := fun b j v hv =>
    (World.cell?_of_block (hnw2.grown.block b (World.block_lt_of_cell? w _ hv) (by simp))).trans hv
  have hcp1 : ∀ ty dc, (Builtin.copy_ #[40, 40] ty #[.slice (some ⟨w.heap.size, P * 2, none⟩) (n + 1 - P) dc, .slice (some ⟨gv, 0, none⟩) 1 1]).run Tryd.prog W2 = .ok (goInt (Nat.min 1 (n + 1 - P))) (W2.setCells w.heap.size (P * 2) [.int .u64 k, .int .u64 x]) := fun ty dc =>
    run_copy2 W2 _ _ ty 85 w.heap.size (P * 2) (n + 1 - P) dc ⟨gv, 0, none⟩ 1 1 [.int .u64 k, .int .u64 x] Tryd.underlying40 hsz
      (by simp only [Nat.min_def]; split <;> simp <;> omega)
      (fun j v hj => by
        rw [hadd, Nat.zero_add]
        match j, hj with
        | 0, hj => simp at hj; subst hj; exact hold _ _ _ h0
        | 1, hj => simp at hj; subst hj; exact hold _ _ _ h1
        | j + 2, hj => simp at hj)
      (fun j hj => hfsome _ _ hrow2 _ (by simp at hj; omega)) (fun j _ => hrow2.frozenAt _) (by intro u hu; simp at hu; rcases hu with rfl | rfl <;> rfl)
  obtain ⟨W3, hW3⟩ : ∃ W3, W3 = W2.setCells w.heap.size (P * 2) [.int .u64 k, .int .u64 x] := ⟨_, rfl⟩
  rw [← hW3] at hcp1
  have hrow3 := own_setCells [.int .u64 k, .int .u64 x] arr.toList (P * 2) W2 hrow2
  rw [← hW3] at hrow3
  have hnw3 : Nw w W3 := hnw2.row hrow3.2 (fun q hq => by cases hq; exact Nat.le_refl _)
  have hnw3d : Nw w W3.drew := hnw3.drew
  have hrow3d : W3.drew.ownsRow w.heap.size 85 2 (.slice (some ⟨w.heap.size, 0, none⟩) cap cap) cap _ := own_nw hrow3.1 (Nw.drew (Nw.refl _))
  have hold3 : ∀ (b j : Nat) v, w.cell? ⟨b, j, none⟩ = some v → W3.drew.cell? ⟨b, j, none⟩ = some v := fun b j v hv =>
    (World.cell?_of_block (hnw3d.grown.block b (World.block_lt_of_cell? w _ hv) (by simp))).trans hv
  have hcp2 : ∀ ty dc sc, (Builtin.copy_ #[40, 40] ty #[.slice (some ⟨w.heap.size, (P + 1) * 2, none⟩) (n - P) dc, .slice (some ⟨g, P * 2, none⟩) (n - P) sc]).run Tryd.prog W3.drew = .ok (goInt (Nat.min (n - P) (n - P))) (W3.drew.setCells w.heap.size ((P + 1) * 2) (pcells (l.drop P))) := fun ty dc sc =>
    run_copy2 W3.drew _ _ ty 85 w.heap.size ((P + 1) * 2) (n - P) dc ⟨g, P * 2, none⟩ (n - P) sc (pcells (l.drop P)) Tryd.underlying40 hsz
      (by rw [hdl]; simp)
      (fun j v hj => by rw [hadd]; exact hold3 _ _ _ (hat _ _ (hld _ _ hj)))
      (fun j hj => hfsome _ _ hrow3d _ (by rw [hdl] at hj; omega)) (fun j _ => hrow3d.frozenAt _) (pcells_one _)
  have hrow4 := own_setCells (pcells (l.drop P)) _ ((P + 1) * 2) W3.drew hrow3d
  have hfin := own_take hrow4.1 hcge
  rw [ins_cells2 hl hP hcge hatk (by simpa using hasz)] at hfin
  have hnw4 := hnw3d.row hrow4.2 (fun q hq => by cases hq; exact Nat.le_refl _)
  have AP := Lib.hid hap
  have CP1 := Lib.hid hcp1
  have CP2 := Lib.hid hcp2
  have FIN := Lib.hid (own_le hfin hbase)
  have NWF := Lib.hid hnw4
  have HW3 := Lib.hid hW3
  have HW2 := Lib.hid hW2
  have HO := Lib.hid hown
  have p1 : (P : Int) < (n : Int) := by omega
  have p2 : (P : Int) ≤ (n : Int) := by omega
  have p3 : ¬ P = n := by omega
  have p4 : ((P : Int) == (n : Int)) = false := by simp; omega
  have p5 : (n : Int) < (n : Int) + 1 := by omega
  have p7 : IntKind.i64.wrap ((n : Int) + 1) = (n : Int) + 1 := by rw [IntKind.wrap_i64]; omega
  have p8 : IntKind.i64.wrap ((P : Int) + 1) = (P : Int) + 1 := by rw [IntKind.wrap_i64]; omega
  have p9 : n ≤ n := by omega
  have p10 : IntKind.i64.wrap ((n : Int) + 1 - (P : Int)) = (n : Int) + 1 - (P : Int) := by rw [IntKind.wrap_i64]; omega
  have p11 : (P : Int) ≤ (n : Int) := by omega
  have p12 : P ≤ n := by omega
  have q1 : (P : Int) ≤ (n : Int) + 1 := by omega
  have q2 : (P : Int) + 1 ≤ (n : Int) + 1 := by omega
  have q3 : (0 : Int) ≤ (P : Int) + 1 := by omega
  have q4 : ¬ cap = P + 1 := by omega
  have q5 : ¬ cap ≤ P + 1 := by omega
  have q6 : ¬ cap = P := by omega
  have q7 : ¬ cap ≤ P := by omega
  have q8 : ((P : Int) + 1).toNat = P + 1 := by omega
  have q9 : ¬ n = P := by omega
  have q10 : ¬ n ≤ P := by omega
  have HCUR := Lib.hid hcur
  clear hadd hsz hdl htl hat hld hlt hfirst hap hcge hcle harr hasz hatk hnw2 hrow2 hfsome hold hcp1 hrow3 hnw3 hnw3d hrow3d hold3 hcp2 hrow4 hfin hnw4 hW3 hW2 hown hcur hfull hclen
  go_enter Tryd.func85, Tryd.ntmps85
  have hc1 := CP1.out 3 (cap - P)
  go_wp2_with (at_builtin; refine Lib.wpList_append_run _ rfl (.tmp 34) (.tmp 39) 40 3 rfl (Value.slice (some ⟨g, 0, none⟩) P n) (Value.int .i64 ((n : Int) + 1 - (P : Int))) rfl rfl _ _ (AP.out _) ?_)
  go_region_law (refine step_copy_eq rfl (.tmp 50) (.tmp 53) 40 40 rfl _ _ (by simp [Act.eval, Act.put]; rfl) (by simp [Act.eval, Act.put]; rfl) (CP2.out _ _ _) ?_)
  go_wp2
  exact bodyPost_ret (results_tmp rfl _ _ _) rfl ⟨.slice (some ⟨w.heap.size, 0, none⟩) (n + 1) cap, rfl, FIN.out, NWF.out, _, rfl, Nat.le_refl _⟩
end Go.Proofs.YtdjcndpnjoahmaaDoor
