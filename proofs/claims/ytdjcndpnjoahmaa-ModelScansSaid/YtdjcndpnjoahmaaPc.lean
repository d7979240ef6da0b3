import Derived.Test.YtdjcndpnjoahmaaPb
namespace Go.Proofs.Ytdjcndpnjoahmaa
open Go.RowKit Go.Xt
/-! A row of one's own and its spare places; copy at pairs. -/
def setL (cur : List Value) : Nat → List Value → List Value
  | _, [] => cur
  | o, v :: r => setL (cur.set o v) (o + 1) r
theorem setL_len : ∀ (vs cur : List Value) (o : Nat), (setL cur o vs).length = cur.length
  | [], _, _ => rfl
  | v :: r, cur, o => by rw [setL, setL_len r]; simp
theorem setL_out : ∀ (vs cur : List Value) (o j : Nat), (j < o ∨ o + vs.length ≤ j) → (setL cur o vs)[j]? = cur[j]?
  | [], _, _, _, _ => rfl
  | v :: r, cur, o, j, h => by
    rw [setL, setL_out r _ _ j (by simp at h; omega), List.getElem?_set_ne (by simp at h; omega)]
theorem setL_in : ∀ (vs cur : List Value) (o i : Nat), i < vs.length → o + vs.length ≤ cur.length → (setL cur o vs)[o + i]? = vs[i]?
  | [], _, _, _, h, _ => by simp at h
  | v :: r, cur, o, 0, _, hl => by
    show (setL (cur.set o v) (o + 1) r)[o]? = _
    rw [setL_out r _ _ o (by omega), List.getElem?_set_self (by simp at hl; omega)]; rfl
  | v :: r, cur, o, i + 1, h, hl => by
    rw [setL, show o + (i + 1) = (o + 1) + i by omega, setL_in r _ _ i (by simpa using h) (by simp at hl ⊢; omega)]; rfl
theorem own_full {W : World} {base : Nat} {e : TypeId} {size g n c : Nat} {xs : List Value} (h : W.ownsRow base e size (.slice (some ⟨g, 0, none⟩) n c) n xs) :
    ∃ cur : List Value, W.ownsRow base e size (.slice (some ⟨g, 0, none⟩) c c) c cur ∧ cur.take (n * size) = xs ∧ cur.length = c * size ∧ n ≤ c := by
  rcases h.2 with ⟨h1, _⟩ | ⟨g', cap, cur, h1, h2, h3, h4, h5, h6, h7⟩
  · cases h1
  · injection h1 with a1 a2 a3
    injection a1 with a1; injection a1 with a1
    subst a1 a3
    exact ⟨cur.toList, ⟨by simpa using h6, .inr ⟨g, c, cur, rfl, h2, h3, Nat.le_refl _, h5, h6, by rw [List.take_of_length_le (by simp [h6])]⟩⟩, by rw [← h.1] at h7 ⊢; exact h7, by simpa using h6, h4⟩
theorem own_take {W : World} {base : Nat} {e : TypeId} {size g c m : Nat} {cur : List Value} (h : W.ownsRow base e size (.slice (some ⟨g, 0, none⟩) c c) c cur) (hm : m ≤ c) : W.ownsRow base e size (.slice (some ⟨g, 0, none⟩) m c) m (cur.take (m * size)) := by
  have hl := h.1
  rcases h.2 with ⟨h1, _⟩ | ⟨g', cap, cur', h1, h2, h3, h4, h5, h6, h7⟩
  · cases h1
  · injection h1 with a1 a2 a3
    injection a1 with a1; injection a1 with a1
    subst a1 a3
    have hlen : (cur.take (m * size)).length = m * size := by rw [List.length_take, hl]; exact Nat.min_eq_left (Nat.mul_le_mul_right _ hm)
    refine ⟨hlen, .inr ⟨g, c, cur', rfl, h2, h3, hm, h5, h6, ?_⟩⟩
    rw [← h7, List.take_take]
    congr 1
    exact (Nat.min_eq_left (Nat.mul_le_mul_right _ hm)).symm
theorem own_setCells {base : Nat} {e : TypeId} {size g c : Nat} : ∀ (vs cur : List Value) (o : Nat) (W : World), W.ownsRow base e size (.slice (some ⟨g, 0, none⟩) c c) c cur → (W.setCells g o vs).ownsRow base e size (.slice (some ⟨g, 0, none⟩) c c) c (setL cur o vs) ∧ W.grownBy (W.setCells g o vs) (some g)
  | [], _, _, W, h => ⟨h, gref W _⟩
  | v :: r, cur, o, W, h => by
    have h1 := h.stored o v
    have h2 := own_setCells r (cur.set o v) (o + 1) _ h1.1
    exact ⟨h2.1, grownBy_trans h1.2 h2.2⟩
theorem ins_cells {l : List (Int × Int)} {cur : List Value} {P n c : Nat} {k x : Int} (hl : l.length = n) (hP : P < n) (hc : n + 1 ≤ c) (hcur : cur.take (n * 2) = pcells l) (hlen : cur.length = c * 2) :
    (setL (setL cur ((P + 1) * 2) (pcells (l.drop P))) (P * 2) [.int .u64 k, .int .u64 x]).take ((n + 1) * 2) = pcells (insM l P (k, x)) := by
  have hd : (pcells (l.drop P)).length = (n - P) * 2 := by rw [pcells_len, List.length_drop, hl]
  have ht : (pcells (l.take P)).length = P * 2 := by rw [pcells_len, List.length_take, hl]; congr 1; omega
  have hr : pcells (insM l P (k, x)) = pcells (l.take P) ++ ([.int .u64 k, .int .u64 x] ++ pcells (l.drop P)) := by
    rw [insM, pcells_app]; rfl
  have hpl : pcells l = pcells (l.take P) ++ pcells (l.drop P) := by rw [← pcells_app, List.take_append_drop]
  apply List.ext_getElem?
  intro j
  rw [hr, List.getElem?_take]
  by_cases hj : j < (n + 1) * 2
  · rw [if_pos hj]
    by_cases h1 : j < P * 2
    · rw [setL_out _ _ _ _ (by omega), setL_out _ _ _ _ (by omega), List.getElem?_append_left (by omega)]
      have : cur[j]? = (pcells l)[j]? := by rw [← hcur, List.getElem?_take, if_pos (by omega)]
      rw [this, hpl, List.getElem?_append_left (by omega)]
    · by_cases h2 : j < (P + 1) * 2
      · have e : j = P * 2 + (j - P * 2) := by omega
        rw [e, setL_in _ _ _ _ (by simp; omega) (by rw [setL_len, hlen]; simp; omega), List.getElem?_append_right (by omega), ht, show P * 2 + (j - P * 2) - P * 2 = j - P * 2 by omega, List.getElem?_append_left (by simp; omega)]
      · have e : j = (P + 1) * 2 + (j - (P + 1) * 2) := by omega
        rw [setL_out _ _ _ _ (by simp; omega), e, setL_in _ _ _ _ (by omega) (by omega), List.getElem?_append_right (by omega), ht, List.getElem?_append_right (by simp; omega)]
        congr 1; simp; omega
  · rw [if_neg hj, List.getElem?_eq_none (by simp [hd, ht]; omega)]
theorem run_copy2 {Q : Program} (w : World) (dT sT ty elem : TypeId) (b o dLen dCap : Nat) (a : Addr) (sLen sCap : Nat) (cs : List Value)
    (hu : Q.underlying dT = some (.slice elem)) (hs : (Q.info? elem).map (·.size) = some 2) (hn : cs.length = Nat.min sLen dLen * 2)
    (hsrc : ∀ j v, cs[j]? = some v → w.cell? (a.add j) = some v) (hc : ∀ j, j < cs.length → (w.cell? ⟨b, o + j, none⟩).isSome = true) (hf : ∀ j, j < cs.length → w.frozen? ⟨b, o + j, none⟩ = false) (h1 : ∀ v ∈ cs, v.oneCell' = true) :
    (Builtin.copy_ #[dT, sT] ty #[.slice (some ⟨b, o, none⟩) dLen dCap, .slice (some a) sLen sCap]).run Q w = .ok (goInt (Nat.min sLen dLen)) (w.setCells b o cs) := by
  have hl := run_loadCells_list (P := Q) w a cs hsrc
  have hst := run_storeCells_cells (P := Q) b o cs 0 w (by simpa using hc) (by simpa using hf) h1
  cases hq : Q.info? elem with
  | none => simp [hq] at hs
  | some i =>
    have hi : i.size = 2 := by simpa [hq] using hs
    simp [Builtin.copy_, run_underlying hu, Builtin.lenOf, Builtin.firstCells, sizeOf, typeInfo, hq, hi, ← hn, hl, hst]
end Go.Proofs.Ytdjcndpnjoahmaa
