import Derived.Test.YtahagplegmcaaaaGreatDoorGMk
import Derived.Deep.RegionLaw
import Derived.Laws.Externs
import Derived.Deep.AppendSrc
set_option linter.unusedVariables false
set_option linter.unusedSimpArgs false
set_option linter.unnecessarySimpa false
namespace Go.Proofs.YtahagplegmcaaaaGreatDoor
open Go.RowKit Go.Xt
/-! A row of one's own and its spare places; copy at pairs. -/
def setL (cur : List Value) : Nat → List Value → List Value
  | _, [] => cur
  | o, v :: r => setL (cur.set o v) (o + 1) r
theorem setL_len : ∀ (vs cur : List Value) (o : Nat), (setL cur o vs).length = cur.length
  | [], _, _ => rfl
  | v :: r, cur, o => by rw [setL, setL_len r]; simp
theorem setL_out : ∀ (vs cur : List Value) (o j : Nat), (j < o ∨ o + vs.length ≤ j) → (setL cur o vs)[j]? = cur[j]?
  | [], _, _, _, _ => rfl
  | v :: r, cur, o, j, h => by
    rw [setL, setL_out r _ _ j (by simp at h; omega), List.getElem?_set_ne (by simp at h; omega)]
theorem setL_in : ∀ (vs cur : List Value) (o i : Nat), i < vs.length → o + vs.length ≤ cur.length → (setL cur o vs)[o + i]? = vs[i]?
  | [], _, _, _, h, _ => by simp at h
  | v :: r, cur, o, 0, _, hl => by
    show (setL (cur.set o v) (o + 1) r)[o]? = _
    rw [setL_out r _ _ o (by omega), List.getElem?_set_self (by simp at hl; omega)]; rfl
  | v :: r, cur, o, i + 1, h, hl => by
    rw [setL, show o + (i + 1) = (o + 1) + i by omega, setL_in r _ _ i (by simpa using h) (by simp at hl ⊢; omega)]; rfl
theorem own_full {W : World} {base : Nat} {e : TypeId} {size g n c : Nat} {xs : List Value} (h : W.ownsRow base e size (.slice (some ⟨g, 0, none⟩) n c) n xs) :
    ∃ cur : List Value, W.ownsRow base e size (.slice (some ⟨g, 0, none⟩) c c) c cur ∧ cur.take (n * size) = xs ∧ cur.length = c * size ∧ n ≤ c := by
  rcases h.2 with ⟨h1, _⟩ | ⟨g', cap, cur, h1, h2, h3, h4, h5, h6, h7⟩
  · cases h1
  · injection h1 with a1 a2 a3
    injection a1 with a1; injection a1 with a1
    subst a1 a3
    exact ⟨cur.toList, ⟨by simpa using h6, .inr ⟨g, c, cur, rfl, h2, h3, Nat.le_refl _, h5, h6, by rw [List.take_of_length_le (by simp [h6])]⟩⟩, by rw [← h.1] at h7 ⊢; exact h7, by simpa using h6, h4⟩
theorem own_take {W : World} {base : Nat} {e : TypeId} {size g c m : Nat} {cur : List Value} (h : W.ownsRow base e size (.slice (some ⟨g, 0, none⟩) c c) c cur) (hm : m ≤ c) : W.ownsRow base e size (.slice (some ⟨g, 0, none⟩) m c) m (cur.take (m * size)) := by
  have hl := h.1
  rcases h.2 with ⟨h1, _⟩ | ⟨g', cap, cur', h1, h2, h3, h4, h5, h6, h7⟩
  · cases h1
  · injection h1 with a1 a2 a3
    injection a1 with a1; injection a1 with a1
    subst a1 a3
    have hlen : (cur.take (m * size)).length = m * size := by rw [List.length_take, hl]; exact Nat.min_eq_left (Nat.mul_le_mul_right _ hm)
    refine ⟨hlen, .inr ⟨g, c, cur', rfl, h2, h3, hm, h5, h6, ?_⟩⟩
    rw [← h7, List.take_take]
    congr 1
    exact (Nat.min_eq_left (Nat.mul_le_mul_right _ hm)).symm
theorem own_setCells {base : Nat} {e : TypeId} {size g c : Nat} : ∀ (vs cur : List Value) (o : Nat) (W : World), W.ownsRow base e size (.slice (some ⟨g, 0, none⟩) c c) c cur → (W.setCells g o vs).ownsRow base e size (.slice (some ⟨g, 0, none⟩) c c) c (setL cur o vs) ∧ W.grownBy (W.setCells g o vs) (some g)
  | [], _, _, W, h => ⟨h, gref W _⟩
  | v :: r, cur, o, W, h => by
    have h1 := h.stored o v
    have h2 := own_setCells r (cur.set o v) (o + 1) _ h1.1
    exact ⟨h2.1, grownBy_trans h1.2 h2.2⟩
theorem ins_cells {l : List (Int × Int)} {cur : List Value} {P n c : Nat} {k x : Int} (hl : l.length = n) (hP : P < n) (hc : n + 1 ≤ c) (hcur : cur.take (n * 2) = pcells l) (hlen : cur.length = c * 2) :
    (setL (setL cur ((P + 1) * 2) (pcells (l.drop P))) (P * 2) [.int .u64 k, .int .u64 x]).take ((n + 1) * 2) = pcells (insM l P (k, x)) := by
  have hd : (pcells (l.drop P)).length = (n - P) * 2 := by rw [pcells_len, List.length_drop, hl]
  have ht : (pcells (l.take P)).length = P * 2 := by rw [pcells_len, List.length_take, hl]; congr 1; omega
  have hr : pcells (insM l P (k, x)) = pcells (l.take P) ++ ([.int .u64 k, .int .u64 x] ++ pcells (l.drop P)) := by
    rw [insM, pcells_app]; rfl
  have hpl : pcells l = pcells (l.take P) ++ pcells (l.drop P) := by rw [← pcells_app, List.take_append_drop]
  apply List.ext_getElem?
  intro j
  rw [hr, List.getElem?_take]
  by_cases hj : j < (n + 1) * 2
  · rw [if_pos hj]
    by_cases h1 : j < P * 2
    · rw [setL_out _ _ _ _ (by omega), setL_out _ _ _ _ (by omega), List.getElem?_append_left (by omega)]
      have : cur[j]? = (pcells l)[j]? := by rw [← hcur, List.getElem?_take, if_pos (by omega)]
      rw [this, hpl, List.getElem?_append_left (by omega)]
    · by_cases h2 : j < (P + 1) * 2
      · have e : j = P * 2 + (j - P * 2) := by omega
        rw [e, setL_in _ _ _ _ (by simp; omega) (by rw [setL_len, hlen]; simp; omega), List.getElem?_append_right (by omega), ht, show P * 2 + (j - P * 2) - P * 2 = j - P * 2 by omega, List.getElem?_append_left (by simp; omega)]
      · have e : j = (P + 1) * 2 + (j - (P + 1) * 2) := by omega
        rw [setL_out _ _ _ _ (by simp; omega), e, setL_in _ _ _ _ (by omega) (by omega), List.getElem?_append_right (by omega), ht, List.getElem?_append_right (by simp; omega)]
        congr 1; simp; omega
  · rw [if_neg hj, List.getElem?_eq_none (by simp [hd, ht]; omega)]
theorem run_copy2 {Q : Program} (w : World) (dT sT ty elem : TypeId) (b o dLen dCap : Nat) (a : Addr) (sLen sCap : Nat) (cs : List Value)
    (hu : Q.underlying dT = some (.slice elem)) (hs : (Q.info? elem).map (·.size) = some 2) (hn : cs.length = Nat.min sLen dLen * 2)
    (hsrc : ∀ j v, cs[j]? = some v → w.cell? (a.add j) = some v) (hc : ∀ j, j < cs.length → (w.cell? ⟨b, o + j, none⟩).isSome = true) (hf : ∀ j, j < cs.length → w.frozen? ⟨b, o + j, none⟩ = false) (h1 : ∀ v ∈ cs, v.oneCell' = true) :
    (Builtin.copy_ #[dT, sT] ty #[.slice (some ⟨b, o, none⟩) dLen dCap, .slice (some a) sLen sCap]).run Q w = .ok (goInt (Nat.min sLen dLen)) (w.setCells b o cs) := by
  have hl := run_loadCells_list (P := Q) w a cs hsrc
  have hst := run_storeCells_cells (P := Q) b o cs 0 w (by simpa using hc) (by simpa using hf) h1
  cases hq : Q.info? elem with
  | none => simp [hq] at hs
  | some i =>
    have hi : i.size = 2 := by simpa [hq] using hs
    simp [Builtin.copy_, run_underlying hu, Builtin.lenOf, Builtin.firstCells, sizeOf, typeInfo, hq, hi, ← hn, hl, hst]
end Go.Proofs.YtahagplegmcaaaaGreatDoor
namespace Go.Proofs.YtahagplegmcaaaaGreatDoor
open Go.RowKit Go.Xt
/-! slices.Insert of one pair before another, where there is room. -/
/-- One step of a region that draws: copy, where its run is known by an equation. -/
theorem step_copy_eq {Q0 : Program} {ops : Array Oper} {o : Oper} {a : Act} {w : World} {K : Act → World → Prop} {Q : Exit → Act → World → Prop} {E : Prop}
    (hg : o.guard = none) (d x : Operand) (dT sT : TypeId) (hop : o.op = Op.call { callee := Callee.builtin Builtin.copy, args := #[d, x], argTypes := #[dT, sT] })
    (v u : Value) (hd : a.eval d = v) (hx : a.eval x = u) {v' : Value} {w' : World} (hr : (Builtin.copy_ #[dT, sT] o.type #[v, u]).run Q0 w = .ok v' w') (hK : K (a.put o.dst v') w') :
    if Region.wanted o (yielded ops a.tmps) = true then Oper.wp Q0 o a w K Q else E := by
  have hw : Region.wanted o (yielded ops a.tmps) = true := by simp [Region.wanted, hg]
  rw [if_pos hw]
  unfold Oper.wp
  simp [execOp, hop, resolve, invoke, builtin, hd, hx, hr, Result.andThen]
  exact hK
theorem own_shape {W : World} {base : Nat} {e : TypeId} {size g n c : Nat} {xs : List Value} (h : W.ownsRow base e size (.slice (some ⟨g, 0, none⟩) n c) n xs) : W.shape? g = some (e, c * size) := by
  rcases h.2 with ⟨h1, _⟩ | ⟨g', cap, cur, h1, h2, h3, h4, h5, h6, h7⟩
  · cases h1
  · injection h1 with a1 a2 a3
    injection a1 with a1; injection a1 with a1
    subst a1 a3
    simp [World.shape?, h3, h6]
set_option maxRecDepth 20000 in
set_option maxHeartbeats 4000000 in
theorem insert_mid (base g n c : Nat) (l : List (Int × Int)) (P gv : Nat) (k x : Int) (w : World) (hown : w.ownsRow base 106 2 (.slice (some ⟨g, 0, none⟩) n c) n (pcells l)) (hl : l.length = n) (hP : P < n) (hc : n + 1 ≤ c) (hn : n ≤ 1000000)
    (h0 : w.cell? ⟨gv, 0, none⟩ = some (.int .u64 k)) (h1 : w.cell? ⟨gv, 1, none⟩ = some (.int .u64 x)) (hne : gv ≠ g) (tA : TypeId) (kA : Nat) (hsv : w.shape? gv = some (tA, kA)) (hfv : ∀ o, w.frozen? ⟨gv, o, none⟩ = false) :
    Calls Tryz.prog 78 #[.slice (some ⟨g, 0, none⟩) n c, .int .i64 P, .slice (some ⟨gv, 0, none⟩) 1 1] w fun e w' => e = .returned (.slice (some ⟨g, 0, none⟩) (n + 1) c) ∧ w'.ownsRow base 106 2 (.slice (some ⟨g, 0, none⟩) (n + 1) c) (n + 1) (pcells (insM l P (k, x))) ∧ w.grownBy w' (some g) := by
  haveI : In gv w := ⟨World.block_lt_of_cell? w _ h0⟩
  have HO := Lib.hid hown
  have p1 : (P : Int) < (n : Int) := by omega
  have p2 : (P : Int) ≤ (n : Int) := by omega
  have p3 : ¬ P = n := by omega
  have p4 : ((P : Int) == (n : Int)) = false := by simp; omega
  have p5 : ¬ (c : Int) < (n : Int) + 1 := by omega
  have p6 : (n : Int) + 1 ≤ (c : Int) := by omega
  have p7 : IntKind.i64.wrap ((n : Int) + 1) = (n : Int) + 1 := by rw [IntKind.wrap_i64]; omega
  have p8 : IntKind.i64.wrap ((P : Int) + 1) = (P : Int) + 1 := by rw [IntKind.wrap_i64]; omega
  have p9 : n ≤ c := by omega
  obtain ⟨cur, hfull, hcur, hclen, _⟩ := own_full hown
  have hov : (callFunc 102 #[.slice (some ⟨gv, 0, none⟩) 1 1, .slice (some ⟨g, (P + 1) * 2, none⟩) (n - P) (c - (P + 1))]).run Tryz.prog w = .ok (.value (.bool false)) w := by
    rw [run_callFunc_extern Tryz.func102 (by kernel_rfl) (by kernel_rfl) (by kernel_rfl) (e := Extern.SlicesOverlaps.overlaps #[62, 62] #[4]) (by kernel_rfl),
      Lib.run_overlaps_apart w 62 4 106 Tryz.underlying62 2 (fun w => by kernel_rfl) ⟨gv, 0, none⟩ ⟨g, (P + 1) * 2, none⟩ 1 1 (n - P) (c - (P + 1)) hne tA 106 kA (c * 2) hsv (own_shape hown) (by omega) (hfv 0) (hfv kA)]
    rfl
  have hadd : ∀ (b o j : Nat), (⟨b, o, none⟩ : Addr).add j = ⟨b, o + j, none⟩ := fun b o j => by unfold Addr.add; split <;> simp_all
  have hsz : (Tryz.prog.info? 106).map (·.size) = some 2 := by
    obtain ⟨i, hi1, hz0, hz1, hz2⟩ := info_parts pairInfo
    rw [hi1]; simp [hz1]
  have hdl : (pcells (l.drop P)).length = (n - P) * 2 := by rw [pcells_len, List.length_drop, hl]
  have htl : (pcells (l.take P)).length = P * 2 := by rw [pcells_len, List.length_take, hl]; congr 1; omega
  have hfd : w.drew.ownsRow base 106 2 (.slice (some ⟨g, 0, none⟩) c c) c cur := own_nw hfull (Nw.drew (Nw.refl _))
  have hsome : ∀ (W : World) (xs : List Value), W.ownsRow base 106 2 (.slice (some ⟨g, 0, none⟩) c c) c xs → ∀ j, j < c * 2 → (W.cell? ⟨g, j, none⟩).isSome = true := fun W xs h j hj => by
    rw [h.cellAt j hj, List.getElem?_eq_getElem (by rw [h.1]; exact hj)]; rfl
  have hcp1 : ∀ ty dc sc, (Builtin.copy_ #[62, 62] ty #[.slice (some ⟨g, (P + 1) * 2, none⟩) (n - P) dc, .slice (some ⟨g, P * 2, none⟩) (n + 1 - P) sc]).run Tryz.prog w.drew = .ok (goInt (Nat.min (n + 1 - P) (n - P))) (w.drew.setCells g ((P + 1) * 2) (pcells (l.drop P))) := fun ty dc sc =>
    run_copy2 w.drew _ _ ty 106 g ((P + 1) * 2) (n - P) dc ⟨g, P * 2, none⟩ (n + 1 - P) sc (pcells (l.drop P)) Tryz.underlying62 hsz
      (by rw [hdl]; congr 1; simp only [Nat.min_def]; split <;> omega)
      (fun j v hj => by
        have hjl : j < (n - P) * 2 := by rw [← hdl]; exact (List.getElem?_eq_some_iff.1 hj).1
        rw [hadd, hfd.cellAt _ (by omega)]
        have h2 : (pcells l)[P * 2 + j]? = some v := by
          rw [← List.take_append_drop P l, pcells_app, List.getElem?_append_right (by omega), htl, show P * 2 + j - P * 2 = j by omega]; exact hj
        rw [← hcur, List.getElem?_take, if_pos (by omega)] at h2; exact h2)
      (fun j hj => hsome _ _ hfd _ (by omega)) (fun j _ => hfd.frozenAt _) (pcells_one _)
  obtain ⟨W1, hW1⟩ : ∃ W1, W1 = w.drew.setCells g ((P + 1) * 2) (pcells (l.drop P)) := ⟨_, rfl⟩
  rw [← hW1] at hcp1
  have hrow1 := own_setCells (pcells (l.drop P)) cur ((P + 1) * 2) w.drew hfd
  rw [← hW1] at hrow1
  have hgv : ∀ j v, [Value.int .u64 k, Value.int .u64 x][j]? = some v → W1.cell? ((⟨gv, 0, none⟩ : Addr).add j) = some v := fun j v hj => by
    rw [hadd, Nat.zero_add]
    have hb : ∀ i u, w.cell? ⟨gv, i, none⟩ = some u → W1.cell? ⟨gv, i, none⟩ = some u := fun i u hu =>
      (World.cell?_of_block (hrow1.2.block gv (World.block_lt_of_cell? w _ hu) (by simpa using hne))).trans hu
    match j, hj with
    | 0, hj => simp at hj; subst hj; exact hb _ _ h0
    | 1, hj => simp at hj; subst hj; exact hb _ _ h1
    | j + 2, hj => simp at hj
  have hcp2 : ∀ ty dc, (Builtin.copy_ #[62, 62] ty #[.slice (some ⟨g, P * 2, none⟩) (n + 1 - P) dc, .slice (some ⟨gv, 0, none⟩) 1 1]).run Tryz.prog W1 = .ok (goInt (Nat.min 1 (n + 1 - P))) (W1.setCells g (P * 2) [.int .u64 k, .int .u64 x]) := fun ty dc =>
    run_copy2 W1 _ _ ty 106 g (P * 2) (n + 1 - P) dc ⟨gv, 0, none⟩ 1 1 [.int .u64 k, .int .u64 x] Tryz.underlying62 hsz
      (by simp only [Nat.min_def]; split <;> simp <;> omega) hgv (fun j hj => hsome _ _ hrow1.1 _ (by simp at hj; omega)) (fun j _ => hrow1.1.frozenAt _) (by intro u hu; simp at hu; rcases hu with rfl | rfl <;> rfl)
  have hrow2 := own_setCells [.int .u64 k, .int .u64 x] _ (P * 2) W1 hrow1.1
  have hfin := own_take hrow2.1 hc
  rw [ins_cells hl hP hc hcur hclen] at hfin
  have FIN := Lib.hid hfin
  have GRW := Lib.hid (grownBy_trans (grownBy_trans (⟨rfl, rfl, rfl, Nat.le_refl _, fun _ _ _ => rfl⟩ : w.grownBy w.drew (some g)) hrow1.2) hrow2.2)
  have CP1 := Lib.hid hcp1
  have CP2 := Lib.hid hcp2
  have HW1 := Lib.hid hW1
  clear hadd hsz hdl htl hfd hsome hcp1 hrow1 hgv hcp2 hrow2 hfin hW1
  have q1 : (P : Int) ≤ (n : Int) + 1 := by omega
  have q2 : (P : Int) + 1 ≤ (n : Int) + 1 := by omega
  have q3 : (0 : Int) ≤ (P : Int) + 1 := by omega
  have q4 : ¬ c = P + 1 := by omega
  have q5 : ¬ c ≤ P + 1 := by omega
  have q6 : ¬ c = P := by omega
  have q7 : ¬ c ≤ P := by omega
  have q8 : ((P : Int) + 1).toNat = P + 1 := by omega
  have HCUR := Lib.hid hcur
  have HCL := Lib.hid hclen
  have HFU := Lib.hid hfull
  clear hown hcur hclen hfull
  go_enter Tryz.func78, Tryz.ntmps78
  go_wp2_with fail
  go_region_law (refine step_copy_eq rfl (.tmp 73) (.tmp 76) 62 62 rfl _ _ (by simp [Act.eval, Act.put]; rfl) (by simp [Act.eval, Act.put]; rfl) (CP1.out _ _ _) ?_)
  have hc2 := CP2.out 3 (c - P)
  go_wp2
  exact bodyPost_ret (results_tmp rfl _ _ _) rfl ⟨rfl, FIN.out, GRW.out⟩
end Go.Proofs.YtahagplegmcaaaaGreatDoor
namespace Go.Proofs.YtahagplegmcaaaaGreatDoor
open Go.RowKit Go.Xt
/-! slices.Insert of one pair before another, where there is no room. -/
/-- append(s, make([]T, n)...), no room: a new row. -/
theorem run_append_zeros {Q : Program} (w : World) (t tn ty e : TypeId) (i : TypeInfo) (z : Value) (k kn : IntKind) (ht : Q.underlying t = some (.slice e)) (htn : Q.underlying tn = some (.int kn)) (hi : Q.info? e = some i) (hz : i.zero = some z)
    (base : Option Addr) (sLen sCap : Nat) (olds : List Value) (hold : (Builtin.firstCells i.size sLen (.slice base sLen sCap)).run Q w.drew = .ok olds.toArray w.drew)
    (n : Nat) (h0 : 0 < n) (hs : 0 < i.size) (hg : sCap < sLen + n) (h63 : ((sLen + n : Nat) : Int) ≤ 9223372036854775807) (h48 : n * i.bytes ≤ 281474976710656) (hfit : Builtin.nextslicecap (sLen + n) sCap * i.bytes ≤ 281474976710656) :
    (Builtin.append_ #[t, tn] ty #[.slice base sLen sCap, .int k n]).run Q w =
      .ok (.slice (some ⟨w.heap.size, 0, none⟩) (sLen + n) (grownCap w (sLen + n) sCap e))
        (w.drew.alloc (.cells (olds.toArray ++ Builtin.zeroCells z.cells n ++ Builtin.zeroCells z.cells (grownCap w (sLen + n) sCap e - (sLen + n))) e)) := by
  have hn0 : n ≠ 0 := by omega
  have hw : IntKind.i64.wrap (n : Int) = n := by rw [IntKind.wrap_i64]; omega
  have hn : ¬ (sLen + n ≤ sCap) := by omega
  have h63' : ¬ (9223372036854775807 < ((sLen : Int) + (n : Int))) := by omega
  have h48' : ¬ (281474976710656 < Builtin.nextslicecap (sLen + n) sCap * i.bytes) := by omega
  have h48i : ¬ (281474976710656 < (n : Int) * (i.bytes : Int)) := by
    rw [← Int.natCast_mul]; omega
  have hneg : ¬ ((n : Int) < 0) := by omega
  have hns : ¬ (n * i.size = 0) := Nat.mul_ne_zero hn0 (by omega)
  simp [Builtin.append_, run_underlying ht, run_underlying htn, sizeOf, typeInfo, zeroValue, hi, hz, asInt, asIntOf, hw, hn, hneg, hns, h63', h48', h48i, Question.forced, hold, newRow, grownCap]
theorem ins_cells2 {l : List (Int × Int)} {cur : List Value} {P n c : Nat} {k x : Int} (hl : l.length = n) (hP : P < n) (hc : n + 1 ≤ c) (hcur : cur.take (P * 2) = pcells (l.take P)) (hlen : cur.length = c * 2) :
    (setL (setL cur (P * 2) [.int .u64 k, .int .u64 x]) ((P + 1) * 2) (pcells (l.drop P))).take ((n + 1) * 2) = pcells (insM l P (k, x)) := by
  have hd : (pcells (l.drop P)).length = (n - P) * 2 := by rw [pcells_len, List.length_drop, hl]
  have ht : (pcells (l.take P)).length = P * 2 := by rw [pcells_len, List.length_take, hl]; congr 1; omega
  have hr : pcells (insM l P (k, x)) = pcells (l.take P) ++ ([.int .u64 k, .int .u64 x] ++ pcells (l.drop P)) := by
    rw [insM, pcells_app]; rfl
  apply List.ext_getElem?
  intro j
  rw [hr, List.getElem?_take]
  by_cases hj : j < (n + 1) * 2
  · rw [if_pos hj]
    by_cases h1 : j < P * 2
    · rw [setL_out _ _ _ _ (by omega), setL_out _ _ _ _ (by omega), List.getElem?_append_left (by omega), ← hcur, List.getElem?_take, if_pos h1]
    · by_cases h2 : j < (P + 1) * 2
      · have e : j = P * 2 + (j - P * 2) := by omega
        rw [setL_out _ _ _ _ (by omega), e, setL_in _ _ _ _ (by simp; omega) (by rw [hlen]; simp; omega), List.getElem?_append_right (by omega), ht, show P * 2 + (j - P * 2) - P * 2 = j - P * 2 by omega, List.getElem?_append_left (by simp; omega)]
      · have e : j = (P + 1) * 2 + (j - (P + 1) * 2) := by omega
        rw [e, setL_in _ _ _ _ (by omega) (by rw [setL_len]; omega), List.getElem?_append_right (by omega), ht, List.getElem?_append_right (by simp; omega)]
        congr 1; simp; omega
  · rw [if_neg hj, List.getElem?_eq_none (by simp [hd, ht]; omega)]
set_option maxRecDepth 20000 in
set_option maxHeartbeats 4000000 in
theorem insert_grow (base g n : Nat) (l : List (Int × Int)) (P gv : Nat) (k x : Int) (w : World) (hown : w.ownsRow base 106 2 (.slice (some ⟨g, 0, none⟩) n n) n (pcells l)) (hbase : base ≤ w.heap.size) (hl : l.length = n) (hP : P < n) (hn : n ≤ 1000000)
    (h0 : w.cell? ⟨gv, 0, none⟩ = some (.int .u64 k)) (h1 : w.cell? ⟨gv, 1, none⟩ = some (.int .u64 x)) :
    Calls Tryz.prog 78 #[.slice (some ⟨g, 0, none⟩) n n, .int .i64 P, .slice (some ⟨gv, 0, none⟩) 1 1] w fun e w' => ∃ v', e = .returned v' ∧ w'.ownsRow base 106 2 v' (n + 1) (pcells (insM l P (k, x))) ∧ Nw w w' ∧ ∃ q, v'.ownBlock = some q ∧ w.heap.size ≤ q := by
  haveI : In gv w := ⟨World.block_lt_of_cell? w _ h0⟩
  obtain ⟨cur, hfull, hcur, hclen, _⟩ := own_full hown
  have hadd : ∀ (b o j : Nat), (⟨b, o, none⟩ : Addr).add j = ⟨b, o + j, none⟩ := fun b o j => by unfold Addr.add; split <;> simp_all
  obtain ⟨ti, hi1, hz0, hz1, hz2⟩ := info_parts pairInfo
  have hsz : (Tryz.prog.info? 106).map (·.size) = some 2 := by rw [hi1]; simp [hz1]
  have hdl : (pcells (l.drop P)).length = (n - P) * 2 := by rw [pcells_len, List.length_drop, hl]
  have htl : (pcells (l.take P)).length = P * 2 := by rw [pcells_len, List.length_take, hl]; congr 1; omega
  have hat : ∀ j v, (pcells l)[j]? = some v → w.cell? ⟨g, j, none⟩ = some v := fun j v hj => by
    have hjl := (List.getElem?_eq_some_iff.1 hj).1
    rw [pcells_len, hl] at hjl
    rw [hown.cellAt j hjl]; exact hj
  have hld : ∀ j v, (pcells (l.drop P))[j]? = some v → (pcells l)[P * 2 + j]? = some v := fun j v hj => by
    rw [← List.take_append_drop P l, pcells_app, List.getElem?_append_right (by omega), htl, show P * 2 + j - P * 2 = j by omega]; exact hj
  have hlt : ∀ j v, (pcells (l.take P))[j]? = some v → (pcells l)[j]? = some v := fun j v hj => by
    rw [← List.take_append_drop P l, pcells_app, List.getElem?_append_left (List.getElem?_eq_some_iff.1 hj).1]; exact hj
  have hfirst : (Builtin.firstCells ti.size P (.slice (some ⟨g, 0, none⟩) P n)).run Tryz.prog w.drew = .ok (pcells (l.take P)).toArray w.drew := by
    rw [hz1]
    exact run_firstCells_some w.drew 2 P ⟨g, 0, none⟩ P n _ htl (fun j v hj => by rw [hadd, Nat.zero_add]; exact hat _ _ (hlt _ _ hj))
  have hap := fun ty => run_append_zeros w 62 3 ty 106 ti (.agg #[.int .u64 0, .int .u64 0]) .i64 .i64 Tryz.underlying62 Tryz.underlying3 hi1 hz0 (some ⟨g, 0, none⟩) P n (pcells (l.take P)) hfirst (n + 1 - P) (by omega) (by rw [hz1]; omega) (by omega) (by omega) (by rw [hz2]; omega) (growslice_fits (by omega) (by rw [hz2]; omega))
  have e1 : P + (n + 1 - P) = n + 1 := by omega
  have e2 : ((n + 1 - P : Nat) : Int) = (n : Int) + 1 - (P : Int) := by omega
  simp only [e1, e2] at hap
  obtain ⟨cap, hcap⟩ : ∃ cap, cap = grownCap w (n + 1) n 106 := ⟨_, rfl⟩
  rw [← hcap] at hap
  have hcge : n + 1 ≤ cap := by rw [hcap]; exact grownCap_ge _ _ _ _
  have hcle : cap ≤ maxLen := by rw [hcap]; exact grownCap_le_maxLen _ _ _ _ (by unfold maxLen; omega)
  clear hcap
  obtain ⟨arr, harr⟩ : ∃ arr : Array Value, arr = (pcells (l.take P)).toArray ++ Builtin.zeroCells (Value.agg #[.int .u64 0, .int .u64 0]).cells (n + 1 - P) ++ Builtin.zeroCells (Value.agg #[.int .u64 0, .int .u64 0]).cells (cap - (n + 1)) := ⟨_, rfl⟩
  rw [← harr] at hap
  have hasz : arr.size = cap * 2 := by
    have hz : (Value.agg #[.int .u64 0, .int .u64 0]).cells.size = 2 := rfl
    rw [harr, Array.size_append, Array.size_append, size_zeroCells, size_zeroCells, hz, List.size_toArray, htl]
    omega
  have hatk : arr.toList.take (P * 2) = pcells (l.take P) := by
    rw [harr, Array.toList_append, Array.toList_append, List.append_assoc]
    exact List.take_left' htl
  obtain ⟨W2, hW2⟩ : ∃ W2, W2 = w.drew.alloc (.cells arr 106) := ⟨_, rfl⟩
  rw [← hW2] at hap
  have hnw2 : Nw w W2 := by rw [hW2]; exact (Nw.drew (Nw.refl w)).alloc _
  have hrow2 : W2.ownsRow w.heap.size 106 2 (.slice (some ⟨w.heap.size, 0, none⟩) cap cap) cap arr.toList := by rw [hW2]; exact World.ownsRow_lit w.drew arr cap (Nat.le_refl _) hcle hasz
  have hfsome : ∀ (W : World) (xs : List Value), W.ownsRow w.heap.size 106 2 (.slice (some ⟨w.heap.size, 0, none⟩) cap cap) cap xs → ∀ j, j < cap * 2 → (W.cell? ⟨w.heap.size, j, none⟩).isSome = true := fun W xs h j hj => by
    rw [h.cellAt j hj, List.getElem?_eq_getElem (by rw [h.1]; exact hj)]; rfl
  have hold : ∀ (b j : Nat) v, w.cell? ⟨b, j, none⟩ = some v → W2.cell? ⟨b, j, none⟩ = some v := fun b j v hv =>
    (World.cell?_of_block (hnw2.grown.block b (World.block_lt_of_cell? w _ hv) (by simp))).trans hv
  have hcp1 : ∀ ty dc, (Builtin.copy_ #[62, 62] ty #[.slice (some ⟨w.heap.size, P * 2, none⟩) (n + 1 - P) dc, .slice (some ⟨gv, 0, none⟩) 1 1]).run Tryz.prog W2 = .ok (goInt (Nat.min 1 (n + 1 - P))) (W2.setCells w.heap.size (P * 2) [.int .u64 k, .int .u64 x]) := fun ty dc =>
    run_copy2 W2 _ _ ty 106 w.heap.size (P * 2) (n + 1 - P) dc ⟨gv, 0, none⟩ 1 1 [.int .u64 k, .int .u64 x] Tryz.underlying62 hsz
      (by simp only [Nat.min_def]; split <;> simp <;> omega)
      (fun j v hj => by
        rw [hadd, Nat.zero_add]
        match j, hj with
        | 0, hj => simp at hj; subst hj; exact hold _ _ _ h0
        | 1, hj => simp at hj; subst hj; exact hold _ _ _ h1
        | j + 2, hj => simp at hj)
      (fun j hj => hfsome _ _ hrow2 _ (by simp at hj; omega)) (fun j _ => hrow2.frozenAt _) (by intro u hu; simp at hu; rcases hu with rfl | rfl <;> rfl)
  obtain ⟨W3, hW3⟩ : ∃ W3, W3 = W2.setCells w.heap.size (P * 2) [.int .u64 k, .int .u64 x] := ⟨_, rfl⟩
  rw [← hW3] at hcp1
  have hrow3 := own_setCells [.int .u64 k, .int .u64 x] arr.toList (P * 2) W2 hrow2
  rw [← hW3] at hrow3
  have hnw3 : Nw w W3 := hnw2.row hrow3.2 (fun q hq => by cases hq; exact Nat.le_refl _)
  have hnw3d : Nw w W3.drew := hnw3.drew
  have hrow3d : W3.drew.ownsRow w.heap.size 106 2 (.slice (some ⟨w.heap.size, 0, none⟩) cap cap) cap _ := own_nw hrow3.1 (Nw.drew (Nw.refl _))
  have hold3 : ∀ (b j : Nat) v, w.cell? ⟨b, j, none⟩ = some v → W3.drew.cell? ⟨b, j, none⟩ = some v := fun b j v hv =>
    (World.cell?_of_block (hnw3d.grown.block b (World.block_lt_of_cell? w _ hv) (by simp))).trans hv
  have hcp2 : ∀ ty dc sc, (Builtin.copy_ #[62, 62] ty #[.slice (some ⟨w.heap.size, (P + 1) * 2, none⟩) (n - P) dc, .slice (some ⟨g, P * 2, none⟩) (n - P) sc]).run Tryz.prog W3.drew = .ok (goInt (Nat.min (n - P) (n - P))) (W3.drew.setCells w.heap.size ((P + 1) * 2) (pcells (l.drop P))) := fun ty dc sc =>
    run_copy2 W3.drew _ _ ty 106 w.heap.size ((P + 1) * 2) (n - P) dc ⟨g, P * 2, none⟩ (n - P) sc (pcells (l.drop P)) Tryz.underlying62 hsz
      (by rw [hdl]; simp)
      (fun j v hj => by rw [hadd]; exact hold3 _ _ _ (hat _ _ (hld _ _ hj)))
      (fun j hj => hfsome _ _ hrow3d _ (by rw [hdl] at hj; omega)) (fun j _ => hrow3d.frozenAt _) (pcells_one _)
  have hrow4 := own_setCells (pcells (l.drop P)) _ ((P + 1) * 2) W3.drew hrow3d
  have hfin := own_take hrow4.1 hcge
  rw [ins_cells2 hl hP hcge hatk (by simpa using hasz)] at hfin
  have hnw4 := hnw3d.row hrow4.2 (fun q hq => by cases hq; exact Nat.le_refl _)
  have AP := Lib.hid hap
  have CP1 := Lib.hid hcp1
  have CP2 := Lib.hid hcp2
  have FIN := Lib.hid (own_le hfin hbase)
  have NWF := Lib.hid hnw4
  have HW3 := Lib.hid hW3
  have HW2 := Lib.hid hW2
  have HO := Lib.hid hown
  have p1 : (P : Int) < (n : Int) := by omega
  have p2 : (P : Int) ≤ (n : Int) := by omega
  have p3 : ¬ P = n := by omega
  have p4 : ((P : Int) == (n : Int)) = false := by simp; omega
  have p5 : (n : Int) < (n : Int) + 1 := by omega
  have p7 : IntKind.i64.wrap ((n : Int) + 1) = (n : Int) + 1 := by rw [IntKind.wrap_i64]; omega
  have p8 : IntKind.i64.wrap ((P : Int) + 1) = (P : Int) + 1 := by rw [IntKind.wrap_i64]; omega
  have p9 : n ≤ n := by omega
  have p10 : IntKind.i64.wrap ((n : Int) + 1 - (P : Int)) = (n : Int) + 1 - (P : Int) := by rw [IntKind.wrap_i64]; omega
  have p11 : (P : Int) ≤ (n : Int) := by omega
  have p12 : P ≤ n := by omega
  have q1 : (P : Int) ≤ (n : Int) + 1 := by omega
  have q2 : (P : Int) + 1 ≤ (n : Int) + 1 := by omega
  have q3 : (0 : Int) ≤ (P : Int) + 1 := by omega
  have q4 : ¬ cap = P + 1 := by omega
  have q5 : ¬ cap ≤ P + 1 := by omega
  have q6 : ¬ cap = P := by omega
  have q7 : ¬ cap ≤ P := by omega
  have q8 : ((P : Int) + 1).toNat = P + 1 := by omega
  have q9 : ¬ n = P := by omega
  have q10 : ¬ n ≤ P := by omega
  have HCUR := Lib.hid hcur
  clear hadd hsz hdl htl hat hld hlt hfirst hap hcge hcle harr hasz hatk hnw2 hrow2 hfsome hold hcp1 hrow3 hnw3 hnw3d hrow3d hold3 hcp2 hrow4 hfin hnw4 hW3 hW2 hown hcur hfull hclen
  go_enter Tryz.func78, Tryz.ntmps78
  have hc1 := CP1.out 3 (cap - P)
  go_wp2_with (at_builtin; refine Lib.wpList_append_run _ rfl (.tmp 34) (.tmp 39) 62 3 rfl (Value.slice (some ⟨g, 0, none⟩) P n) (Value.int .i64 ((n : Int) + 1 - (P : Int))) rfl rfl _ _ (AP.out _) ?_)
  go_region_law (refine step_copy_eq rfl (.tmp 50) (.tmp 53) 62 62 rfl _ _ (by simp [Act.eval, Act.put]; rfl) (by simp [Act.eval, Act.put]; rfl) (CP2.out _ _ _) ?_)
  go_wp2
  exact bodyPost_ret (results_tmp rfl _ _ _) rfl ⟨.slice (some ⟨w.heap.size, 0, none⟩) (n + 1) cap, rfl, FIN.out, NWF.out, _, rfl, Nat.le_refl _⟩
end Go.Proofs.YtahagplegmcaaaaGreatDoor
