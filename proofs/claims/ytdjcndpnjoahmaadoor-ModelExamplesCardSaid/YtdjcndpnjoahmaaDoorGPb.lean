import Derived.Test.YtdjcndpnjoahmaaDoorGMg
import Derived.Lib.AppendZeros
import Derived.Lib.Overlaps
import Derived.Laws.IdiomCopy
set_option linter.unusedVariables false
set_option linter.unusedSimpArgs false
namespace Go.Proofs.YtdjcndpnjoahmaaDoor
open Go.RowKit Go.Xt
/-! slices.Insert of one pair. -/
def insM (l : List (Int × Int)) (P : Nat) (y : Int × Int) : List (Int × Int) := l.take P ++ y :: l.drop P
theorem pcells_app (a b : List (Int × Int)) : pcells (a ++ b) = pcells a ++ pcells b := List.flatMap_append
theorem pcells_one (l : List (Int × Int)) : ∀ u ∈ pcells l, u.oneCell' = true := by
  intro u hu
  obtain ⟨x, _, hx⟩ := List.mem_flatMap.1 hu
  simp at hx; rcases hx with rfl | rfl <;> rfl
set_option maxRecDepth 20000 in
set_option maxHeartbeats 4000000 in
theorem insert_end (base : Nat) (v : Value) (n : Nat) (l : List (Int × Int)) (gv : Nat) (k x : Int) (w : World) (hown : w.ownsRow base 85 2 v n (pcells l)) (hbase : base ≤ w.heap.size) (hn : n ≤ 1000000)
    (h0 : w.cell? ⟨gv, 0, none⟩ = some (.int .u64 k)) (h1 : w.cell? ⟨gv, 1, none⟩ = some (.int .u64 x)) :
    Calls Tryd.prog 85 #[v, .int .i64 n, .slice (some ⟨gv, 0, none⟩) 1 1] w fun e w' => ∃ v', e = .returned v' ∧ w'.ownsRow base 85 2 v' (n + 1) (pcells (l ++ [(k, x)])) ∧ w.grownBy w' v.ownBlock := by
  haveI : In gv w := ⟨World.block_lt_of_cell? w _ h0⟩
  have HO := Lib.hid hown
  obtain ⟨i, hi1, hz0, hz1, hz2⟩ := info_parts pairInfo
  have HI := Lib.hid (⟨hi1, hz0, hz1, hz2⟩ : _ ∧ _ ∧ _ ∧ _)
  clear hi1 hz0 hz1 hz2
  have hnews : ∀ j u, [Value.int .u64 k, Value.int .u64 x][j]? = some u → w.cell? ((⟨gv, 0, none⟩ : Addr).add j) = some u := by
    intro j u hu
    have hadd : (⟨gv, 0, none⟩ : Addr).add j = ⟨gv, j, none⟩ := by unfold Addr.add; split <;> simp_all
    rw [hadd]
    match j, hu with
    | 0, hu => simp at hu; subst hu; exact h0
    | 1, hu => simp at hu; subst hu; exact h1
    | j + 2, hu => simp at hu
  have HN := Lib.hid hnews
  clear hnews
  have fin : ∀ (w' : World) (v' : Value), w'.ownsRow base 85 2 v' (n + 1) (pcells l ++ [.int .u64 k, .int .u64 x]) → w'.ownsRow base 85 2 v' (n + 1) (pcells (l ++ [(k, x)])) := fun w' v' h => by rw [pcells_app]; exact h
  have FIN := Lib.hid fin
  clear fin
  rcases own_forms hown with ⟨rfl, rfl⟩ | ⟨g, c, rfl, hg, hin, hc1, hc2⟩
  · clear hown
    go_enter Tryd.func85, Tryd.ntmps85
    go_wp2_with (at_builtin; refine wpList_append_own w rfl _ _ 40 rfl base 85 i (.agg #[.int .u64 0, .int .u64 0]) 2 16 Tryd.underlying40 HI.out.1 HI.out.2.1 HI.out.2.2.1 HI.out.2.2.2 rfl (by decide) _ 0 _ rfl HO.out ⟨gv, 0, none⟩ 1 1 [.int .u64 k, .int .u64 x] rfl rfl HN.out (by intro u hu; simp at hu; rcases hu with rfl | rfl <;> rfl) (by unfold maxLen; omega) (by omega) hbase ?_; intro vA wA hownA hgrA _)
    exact bodyPost_ret (results_tmp rfl _ _ _) rfl ⟨vA, rfl, FIN.out _ _ hownA, hgrA⟩
  · have c1 : (n : Int) ≤ (c : Int) := by omega
    clear hown
    go_enter Tryd.func85, Tryd.ntmps85
    go_wp2_with (at_builtin; refine wpList_append_own w rfl _ _ 40 rfl base 85 i (.agg #[.int .u64 0, .int .u64 0]) 2 16 Tryd.underlying40 HI.out.1 HI.out.2.1 HI.out.2.2.1 HI.out.2.2.2 rfl (by decide) _ n _ rfl HO.out ⟨gv, 0, none⟩ 1 1 [.int .u64 k, .int .u64 x] rfl rfl HN.out (by intro u hu; simp at hu; rcases hu with rfl | rfl <;> rfl) (by unfold maxLen; omega) (by omega) hbase ?_; intro vA wA hownA hgrA _)
    all_goals exact bodyPost_ret (results_tmp rfl _ _ _) rfl ⟨vA, rfl, FIN.out _ _ hownA, hgrA⟩
end Go.Proofs.YtdjcndpnjoahmaaDoor
namespace Go.Proofs.YtdjcndpnjoahmaaDoor
open Go.RowKit Go.Xt
/-! A row of one's own and its spare places; copy at pairs. -/
def setL (cur : List Value) : Nat → List Value → List Value
  | _, [] => cur
  | o, v :: r => setL (cur.set o v) (o + 1) r
theorem setL_len : ∀ (vs cur : List Value) (o : Nat), (setL cur o vs).length = cur.length
  | [], _, _ => rfl
  | v :: r, cur, o => by rw [setL, setL_len r]; simp
theorem setL_out : ∀ (vs cur : List Value) (o j : Nat), (j < o ∨ o + vs.length ≤ j) → (setL cur o vs)[j]? = cur[j]?
  | [], _, _, _, _ => rfl
  | v :: r, cur, o, j, h => by
    rw [setL, setL_out r _ _ j (by simp at h; omega), List.getElem?_set_ne (by simp at h; omega)]
theorem setL_in : ∀ (vs cur : List Value) (o i : Nat), i < vs.length → o + vs.length ≤ cur.length → (setL cur o vs)[o + i]? = vs[i]?
  | [], _, _, _, h, _ => by simp at h
  | v :: r, cur, o, 0, _, hl => by
    show (setL (cur.set o v) (o + 1) r)[o]? = _
    rw [setL_out r _ _ o (by omega), List.getElem?_set_self (by simp at hl; omega)]; rfl
  | v :: r, cur, o, i + 1, h, hl => by
    rw [setL, show o + (i + 1) = (o + 1) + i by omega, setL_in r _ _ i (by simpa using h) (by simp at hl ⊢; omega)]; rfl
theorem own_full {W : World} {base : Nat} {e : TypeId} {size g n c : Nat} {xs : List Value} (h : W.ownsRow base e size (.slice (some ⟨g, 0, none⟩) n c) n xs) :
    ∃ cur : List Value, W.ownsRow base e size (.slice (some ⟨g, 0, none⟩) c c) c cur ∧ cur.take (n * size) = xs ∧ cur.length = c * size ∧ n ≤ c := by
  rcases h.2 with ⟨h1, _⟩ | ⟨g', cap, cur, h1, h2, h3, h4, h5, h6, h7⟩
  · cases h1
  · injection h1 with a1 a2 a3
    injection a1 with a1; injection a1 with a1
    subst a1 a3
    exact ⟨cur.toList, ⟨by simpa using h6, .inr ⟨g, c, cur, rfl, h2, h3, Nat.le_refl _, h5, h6, by rw [List.take_of_length_le (by simp [h6])]⟩⟩, by rw [← h.1] at h7 ⊢; exact h7, by simpa using h6, h4⟩
theorem own_take {W : World} {base : Nat} {e : TypeId} {size g c m : Nat} {cur : List Value} (h : W.ownsRow base e size (.slice (some ⟨g, 0, none⟩) c c) c cur) (hm : m ≤ c) : W.ownsRow base e size (.slice (some ⟨g, 0, none⟩) m c) m (cur.take (m * size)) := by
  have hl := h.1
  rcases h.2 with ⟨h1, _⟩ | ⟨g', cap, cur', h1, h2, h3, h4, h5, h6, h7⟩
  · cases h1
  · injection h1 with a1 a2 a3
    injection a1 with a1; injection a1 with a1
    subst a1 a3
    have hlen : (cur.take (m * size)).length = m * size := by rw [List.length_take, hl]; exact Nat.min_eq_left (Nat.mul_le_mul_right _ hm)
    refine ⟨hlen, .inr ⟨g, c, cur', rfl, h2, h3, hm, h5, h6, ?_⟩⟩
    rw [← h7, List.take_take]
    congr 1
    exact (Nat.min_eq_left (Nat.mul_le_mul_right _ hm)).symm
theorem own_setCells {base : Nat} {e : TypeId} {size g c : Nat} : ∀ (vs cur : List Value) (o : Nat) (W : World), W.ownsRow base e size (.slice (some ⟨g, 0, none⟩) c c) c cur → (W.setCells g o vs).ownsRow base e size (.slice (some ⟨g, 0, none⟩) c c) c (setL cur o vs) ∧ W.grownBy (W.setCells g o vs) (some g)
  | [], _, _, W, h => ⟨h, gref W _⟩
  | v :: r, cur, o, W, h => by
    have h1 := h.stored o v
    have h2 := own_setCells r (cur.set o v) (o + 1) _ h1.1
    exact ⟨h2.1, grownBy_trans h1.2 h2.2⟩
theorem ins_cells {l : List (Int × Int)} {cur : List Value} {P n c : Nat} {k x : Int} (hl : l.length = n) (hP : P < n) (hc : n + 1 ≤ c) (hcur : cur.take (n * 2) = pcells l) (hlen : cur.length = c * 2) :
    (setL (setL cur ((P + 1) * 2) (pcells (l.drop P))) (P * 2) [.int .u64 k, .int .u64 x]).take ((n + 1) * 2) = pcells (insM l P (k, x)) := by
  have hd : (pcells (l.drop P)).length = (n - P) * 2 := by rw [pcells_len, List.length_drop, hl]
  have ht : (pcells (l.take P)).length = P * 2 := by rw [pcells_len, List.length_take, hl]; congr 1; omega
  have hr : pcells (insM l P (k, x)) = pcells (l.take P) ++ ([.int .u64 k, .int .u64 x] ++ pcells (l.drop P)) := by
    rw [insM, pcells_app]; rfl
  have hpl : pcells l = pcells (l.take P) ++ pcells (l.drop P) := by rw [← pcells_app, List.take_append_drop]
  apply List.ext_getElem?
  intro j
  rw [hr, List.getElem?_take]
  by_cases hj : j < (n + 1) * 2
  · rw [if_pos hj]
    by_cases h1 : j < P * 2
    · rw [setL_out _ _ _ _ (by omega), setL_out _ _ _ _ (by omega), List.getElem?_append_left (by omega)]
      have : cur[j]? = (pcells l)[j]? := by rw [← hcur, List.getElem?_take, if_pos (by omega)]
      rw [this, hpl, List.getElem?_append_left (by omega)]
    · by_cases h2 : j < (P + 1) * 2
      · have e : j = P * 2 + (j - P * 2) := by omega
        rw [e, setL_in _ _ _ _ (by simp; omega) (by rw [setL_len, hlen]; simp; omega), List.getElem?_append_right (by omega), ht, show P * 2 + (j - P * 2) - P * 2 = j - P * 2 by omega, List.getElem?_append_left (by simp; omega)]
      · have e : j = (P + 1) * 2 + (j - (P + 1) * 2) := by omega
        rw [setL_out _ _ _ _ (by simp; omega), e, setL_in _ _ _ _ (by omega) (by omega), List.getElem?_append_right (by omega), ht, List.getElem?_append_right (by simp; omega)]
        congr 1; simp; omega
  · rw [if_neg hj, List.getElem?_eq_none (by simp [hd, ht]; omega)]
theorem run_copy2 {Q : Program} (w : World) (dT sT ty elem : TypeId) (b o dLen dCap : Nat) (a : Addr) (sLen sCap : Nat) (cs : List Value)
    (hu : Q.underlying dT = some (.slice elem)) (hs : (Q.info? elem).map (·.size) = some 2) (hn : cs.length = Nat.min sLen dLen * 2)
    (hsrc : ∀ j v, cs[j]? = some v → w.cell? (a.add j) = some v) (hc : ∀ j, j < cs.length → (w.cell? ⟨b, o + j, none⟩).isSome = true) (hf : ∀ j, j < cs.length → w.frozen? ⟨b, o + j, none⟩ = false) (h1 : ∀ v ∈ cs, v.oneCell' = true) :
    (Builtin.copy_ #[dT, sT] ty #[.slice (some ⟨b, o, none⟩) dLen dCap, .slice (some a) sLen sCap]).run Q w = .ok (goInt (Nat.min sLen dLen)) (w.setCells b o cs) := by
  have hl := run_loadCells_list (P := Q) w a cs hsrc
  have hst := run_storeCells_cells (P := Q) b o cs 0 w (by simpa using hc) (by simpa using hf) h1
  cases hq : Q.info? elem with
  | none => simp [hq] at hs
  | some i =>
    have hi : i.size = 2 := by simpa [hq] using hs
    simp [Builtin.copy_, run_underlying hu, Builtin.lenOf, Builtin.firstCells, sizeOf, typeInfo, hq, hi, ← hn, hl, hst]
end Go.Proofs.YtdjcndpnjoahmaaDoor
