import Derived.Test.YtkikdpdainmlcaaGreatGYb
import Derived.Test.YtkikdpdainmlcaaGreatGZw
set_option linter.unusedVariables false
set_option linter.unusedSimpArgs false
set_option linter.unnecessarySimpa false
namespace Go.Proofs.YtkikdpdainmlcaaGreat
open Go.RowKit Go.Xt
/-! What the law PassageParts wants of the passages, plain. -/
theorem opens_pw (l : List Cl) : (opens 0 l).Pairwise (· < ·) := opens_asc l 0
theorem passL_get {l : List Cl} {i : Nat} {r : List Nat} (h : (passL l)[i]? = some r) : ∃ op x, (opens 0 l)[i]? = some op ∧ r = ofP l op ∧ r = op :: ofG x.th (op + 1) (l.drop (op + 1)) ∧ l[op]? = some x ∧ begB x = true := by
  unfold passL at h
  rw [List.getElem?_map] at h
  cases ho : (opens 0 l)[i]? with
  | none => rw [ho] at h; cases h
  | some op =>
    rw [ho] at h
    obtain rfl : ofP l op = r := by simpa using h
    obtain ⟨x, hx, hb⟩ := opens_iff.1 (List.mem_of_getElem? ho)
    exact ⟨op, x, rfl, rfl, ofP_tail hx, hx, hb⟩
def usedQ (l : List Cl) (i : Nat) (r : List Nat) (k : Nat) (q : Nat) : Bool := decide (q ∈ ((passL l).take i).flatten) || decide (q ∈ r.take k)
theorem usedQ_step {l : List Cl} {i : Nat} {r : List Nat} {k q : Nat} (h : r[k]? = some q) (j : Nat) : (decide (j = q) || usedQ l i r k j) = usedQ l i r (k + 1) j := by
  obtain ⟨p1, q1⟩ := List.getElem?_eq_some_iff.1 h
  unfold usedQ
  rw [List.take_succ_eq_append_getElem p1, q1]
  by_cases e : j = q <;> simp [e]
theorem usedQ_row {l : List Cl} {i : Nat} {r : List Nat} (h : (passL l)[i]? = some r) (j : Nat) : usedQ l i r r.length j = usedQ l (i + 1) [] 0 j := by
  obtain ⟨p1, q1⟩ := List.getElem?_eq_some_iff.1 h
  unfold usedQ
  rw [List.take_succ_eq_append_getElem p1, q1]
  simp
theorem usedQ_nil (l : List Cl) (i : Nat) (r : List Nat) (j : Nat) : usedQ l i r 0 j = usedQ l i [] 0 j := by unfold usedQ; simp
structure PartsF (l : List Cl) (i : Nat) (r : List Nat) (k q : Nat) (x y : Cl) : Prop where
  hx : l[q]? = some x
  ans : 0 ≤ x.ans
  th : x.th = y.th
  kd : (k = 0 ∧ x.kd = 11) ∨ (0 < k ∧ (x.kd = 12 ∨ x.kd = 13 ∨ x.kd = 14))
  prev : ∀ p, r[k - 1]? = some p → 0 < k → p < q
  free : usedQ l i r k q = false
theorem parts_fact {l : List Cl} {i k q : Nat} {r : List Nat} (hr : (passL l)[i]? = some r) (hq : r[k]? = some q) : ∃ op x y, r[0]? = some op ∧ l[op]? = some y ∧ PartsF l i r k q x y := by
  obtain ⟨op, y, ho, h1, h2, hy, hb⟩ := passL_get hr
  have hb2 : y.kd = 11 ∧ 0 ≤ y.ans ∧ y.re = 0 := by unfold begB at hb; simpa using hb
  have hasc : r.Pairwise (· < ·) := by
    rw [h2]
    exact List.pairwise_cons.2 ⟨fun j hj => by have := (ofG_mem _ _ _ hj).1; omega, ofG_asc _ _⟩
  obtain ⟨pk, ek⟩ := List.getElem?_eq_some_iff.1 hq
  have hfr : usedQ l i r k q = false := by
    unfold usedQ
    rw [Bool.or_eq_false_iff, decide_eq_false_iff_not, decide_eq_false_iff_not]
    constructor
    · intro hm
      obtain ⟨s, hs, hqs⟩ := List.mem_flatten.1 hm
      obtain ⟨j, hj⟩ := List.mem_iff_getElem?.1 hs
      rw [List.getElem?_take] at hj
      split at hj
      · rename_i hji
        obtain ⟨op', y', ho', h1', -, hy', hb'⟩ := passL_get hj
        obtain ⟨p1, e1⟩ := List.getElem?_eq_some_iff.1 ho'
        obtain ⟨p2, e2⟩ := List.getElem?_eq_some_iff.1 ho
        have hlt := (List.pairwise_iff_getElem.1 (opens_pw l)) j i p1 p2 hji
        rw [e1, e2] at hlt
        exact ofP_sep hy' hy hb' hb hlt (h1' ▸ hqs) (h1 ▸ List.mem_of_getElem? hq)
      · cases hj
    · intro hm
      obtain ⟨j, hj⟩ := List.mem_iff_getElem?.1 hm
      rw [List.getElem?_take] at hj
      split at hj
      · rename_i hjk
        obtain ⟨p1, e1⟩ := List.getElem?_eq_some_iff.1 hj
        have := (List.pairwise_iff_getElem.1 hasc) j k p1 pk hjk
        omega
      · cases hj
  have hpv : ∀ p, r[k - 1]? = some p → 0 < k → p < q := fun p hp h0 => by
    obtain ⟨p1, e1⟩ := List.getElem?_eq_some_iff.1 hp
    have := (List.pairwise_iff_getElem.1 hasc) (k - 1) k p1 pk (by omega)
    omega
  cases k with
  | zero =>
    rw [h2] at hq
    obtain rfl : op = q := by simpa using hq
    exact ⟨op, y, y, by rw [h2]; rfl, hy, hy, hb2.2.1, rfl, .inl ⟨rfl, hb2.1⟩, hpv, hfr⟩
  | succ k =>
    have hq2 := hq
    rw [h2, List.getElem?_cons_succ] at hq2
    obtain ⟨h3, d, h4, h5, h6, h7⟩ := ofG_mem _ _ _ (List.mem_of_getElem? hq2)
    rw [List.getElem?_drop, show op + 1 + (q - (op + 1)) = q by omega] at h4
    exact ⟨op, d, y, by rw [h2]; rfl, hy, h4, h6, h5, .inr ⟨by omega, h7⟩, hpv, hfr⟩
def begN (l : List Cl) (i : Nat) : Nat := ((l.take i).filter begB).length
theorem begN_step {l : List Cl} {i : Nat} {x : Cl} (h : l[i]? = some x) : begN l (i + 1) = begN l i + (if begB x = true then 1 else 0) := by
  obtain ⟨p1, q1⟩ := List.getElem?_eq_some_iff.1 h
  unfold begN
  rw [List.take_succ_eq_append_getElem p1, q1, List.filter_append, List.length_append]
  congr 1
  split <;> rename_i h2 <;> simp [List.filter_cons, h2]
theorem begN_all (l : List Cl) : begN l l.length = (passL l).length := by
  unfold begN passL
  rw [List.take_length, List.length_map, opens_len]
theorem begN_le (l : List Cl) (i : Nat) : begN l i ≤ i := by
  unfold begN
  exact Nat.le_trans (List.length_filter_le _ _) (by rw [List.length_take]; exact Nat.min_le_left _ _)
end Go.Proofs.YtkikdpdainmlcaaGreat
namespace Go.Proofs.YtkikdpdainmlcaaGreat
open Go.RowKit Go.Xt
/-! A row of truth values of the call's own; make([]bool, n). -/
theorem boolInfo : (Tryz.prog.info? 4).map (fun i => (i.zero, i.size, i.bytes)) = some (some (.bool false), 1, 1) := by kernel_rfl
structure Seen (W : World) (b n : Nat) (P : Nat → Bool) : Prop where
  lt : b < W.heap.size
  cell : ∀ i, i < n → W.cell? ⟨b, i, none⟩ = some (.bool (P i))
  fz : ∀ i, i < n → W.frozen? ⟨b, i, none⟩ = false
theorem Seen.nw {W W' : World} {b n : Nat} {P : Nat → Bool} (h : Seen W b n P) (hn : Nw W W') : Seen W' b n P := by
  obtain ⟨d, rfl⟩ := hn
  haveI : In b W := ⟨h.lt⟩
  exact ⟨Nat.lt_of_lt_of_le h.lt (le_size _ _ _), fun i hi => by rw [cell_ext]; exact h.cell i hi, fun i hi => by rw [frozen_ext]; exact h.fz i hi⟩
theorem Seen.set {W : World} {b n q : Nat} {P : Nat → Bool} (h : Seen W b n P) (hq : q < n) : Seen (W.setCell ⟨b, q, none⟩ (.bool true)) b n (fun i => decide (i = q) || P i) := by
  refine ⟨by simpa using h.lt, fun i hi => ?_, fun i hi => (World.frozen?_setCell ..).trans (h.fz i hi)⟩
  by_cases e : i = q
  · subst e
    rw [World.cell?_setCell_same _ _ _ (h.cell i hi)]; simp
  · rw [World.cell?_setCell_other (h := by intro e2; injection e2 with e3 e4; exact e e4.symm), h.cell i hi]; simp [e]
theorem Seen.congr {W : World} {b n : Nat} {P Q : Nat → Bool} (h : Seen W b n P) (e : ∀ i, i < n → P i = Q i) : Seen W b n Q :=
  ⟨h.lt, fun i hi => by rw [← e i hi]; exact h.cell i hi, h.fz⟩
theorem make_bools (w : World) (n : Nat) (hn : n ≤ 1000) : ∃ w', (Instr.makeSlice 59 (.int .i64 (n : Int)) (.int .i64 (n : Int))).run Tryz.prog w = .ok (.slice (some ⟨w.heap.size, 0, none⟩) n n) w' ∧ Seen w' w.heap.size n (fun _ => false) ∧ Nw w w' := by
  obtain ⟨i, hi1, hz0, hz1, hz2⟩ := info_parts boolInfo
  obtain ⟨w', h1, h2, h3⟩ := run_make_full w w.heap.size 59 4 i (.bool false) 1 Tryz.underlying59 hi1 hz0 hz1 .i64 .i64 n (by rw [hz2]; omega) (by unfold maxLen; omega) (Nat.le_refl _)
  refine ⟨w', h1, ?_, .of h3⟩
  have hlt : w.heap.size < w'.heap.size := by
    rcases h2.2 with ⟨h0, _⟩ | ⟨g, cap, cur, h0, _, hg, _⟩
    · cases h0
    · injection h0 with h0 _ _
      injection h0 with h0
      injection h0 with h0 _ _
      rw [h0]
      exact (Array.getElem?_eq_some_iff.1 hg).1
  refine ⟨hlt, fun j hj => ?_, fun j _ => World.ownsRow.frozenAt h2 j⟩
  rw [World.ownsRow.cellAt h2 j (by omega)]
  have : (madeCells (Value.bool false).cells (n * 1)).toList = List.replicate (n * 1) (.bool false) := toList_madeCells_one _ _
  rw [this, List.getElem?_replicate, if_pos (by omega)]
end Go.Proofs.YtkikdpdainmlcaaGreat
namespace Go.Proofs.YtkikdpdainmlcaaGreat
open Go.RowKit Go.Xt
/-! What the law PassageStill wants of the passages, plain. -/
def EndAt (l : List Cl) (r : List Nat) (k : Nat) (tz : Int) : Prop :=
  (tz = -1 ∧ endS l r.tail = endS l (r.drop k)) ∨ (0 ≤ tz ∧ ∃ e z, endS l r.tail = some e ∧ l[e]? = some z ∧ z.took = tz)
def EndOf (l : List Cl) (r : List Nat) (tz : Int) : Prop :=
  tz = -1 ∨ (0 ≤ tz ∧ ∃ e z, endS l r.tail = some e ∧ l[e]? = some z ∧ z.took = tz)
theorem endAt_one (l : List Cl) (r : List Nat) : EndAt l r 1 (-1) := .inl ⟨rfl, by cases r <;> rfl⟩
theorem endS_at {l : List Cl} {r : List Nat} {k q : Nat} {x : Cl} (hq : r[k]? = some q) (hx : l[q]? = some x) : endS l (r.drop k) = if x.kd = 13 ∧ x.re = 0 then none else if x.kd = 12 ∧ x.re = 14 then some q else endS l (r.drop (k + 1)) := by
  obtain ⟨p, e⟩ := List.getElem?_eq_some_iff.1 hq
  rw [List.drop_eq_getElem_cons p, e, endS, hx]
theorem endAt_go {l : List Cl} {r : List Nat} {k q : Nat} {x : Cl} (hq : r[k]? = some q) (hx : l[q]? = some x) (h : EndAt l r k (-1)) (h1 : ¬ (x.kd = 13 ∧ x.re = 0)) (h2 : ¬ (x.kd = 12 ∧ x.re = 14)) : EndAt l r (k + 1) (-1) := by
  rcases h with ⟨-, h⟩ | ⟨h, -⟩
  · exact .inl ⟨rfl, by rw [h, endS_at hq hx, if_neg h1, if_neg h2]⟩
  · omega
theorem endAt_hit {l : List Cl} {r : List Nat} {k q : Nat} {x : Cl} (hq : r[k]? = some q) (hx : l[q]? = some x) (h : EndAt l r k (-1)) (h2 : x.kd = 12 ∧ x.re = 14) (ht : 0 ≤ x.took) : EndAt l r (k + 1) x.took := by
  rcases h with ⟨-, h⟩ | ⟨h, -⟩
  · exact .inr ⟨ht, q, x, by rw [h, endS_at hq hx, if_neg (by omega), if_pos h2], hx, rfl⟩
  · omega
theorem EndAt.end {l : List Cl} {r : List Nat} {k : Nat} {tz : Int} (h : EndAt l r k tz) : EndOf l r tz := by
  rcases h with ⟨h, -⟩ | h
  · exact .inl h
  · exact .inr h
def sameB (A : Int → Mp) (l : List Cl) (fr tz : Int) (k : Nat) : Bool := (l.take k).all fun y => !(decide (fr < y.took) && decide (y.took ≤ tz)) || decide (A y.took = A fr)
theorem sameB_step {A : Int → Mp} {l : List Cl} {fr tz : Int} {k : Nat} {y : Cl} (h : l[k]? = some y) : sameB A l fr tz (k + 1) = (sameB A l fr tz k && (!(decide (fr < y.took) && decide (y.took ≤ tz)) || decide (A y.took = A fr))) := by
  obtain ⟨p, e⟩ := List.getElem?_eq_some_iff.1 h
  unfold sameB
  rw [List.take_succ_eq_append_getElem p, e, List.all_append]
  simp only [List.all_cons, List.all_nil, Bool.and_true]
theorem sameB_all {A : Int → Mp} {l : List Cl} {fr tz : Int} (h : sameB A l fr tz l.length = true) : ∀ y ∈ l, fr < y.took → y.took ≤ tz → A y.took = A fr := by
  intro y hy h1 h2
  unfold sameB at h
  rw [List.take_length, List.all_eq_true] at h
  have h3 := h y hy
  simp [h1, h2] at h3
  exact h3
def inRg (x : Cl) (p : Mp) (k : Nat) : Mp := (p.take k).filter fun q => decide (x.ka ≤ q.1) && decide (q.1 ≤ x.kb)
theorem inRg_step {x : Cl} {p : Mp} {k : Nat} {q : Int × Int} (h : p[k]? = some q) : inRg x p (k + 1) = inRg x p k ++ if (decide (x.ka ≤ q.1) && decide (q.1 ≤ x.kb)) = true then [q] else [] := by
  obtain ⟨h1, h2⟩ := List.getElem?_eq_some_iff.1 h
  unfold inRg
  rw [List.take_succ_eq_append_getElem h1, h2, List.filter_append]
  congr 1
  split <;> rename_i h3 <;> simp [List.filter_cons, h3]
theorem inRg_len (x : Cl) (p : Mp) (k : Nat) : (inRg x p k).length ≤ k := by
  unfold inRg
  exact Nat.le_trans (List.length_filter_le _ _) (by rw [List.length_take]; exact Nat.min_le_left _ _)
theorem inRg_all (x : Cl) (p : Mp) : inRg x p p.length = p.filter fun q => decide (x.ka ≤ q.1) && decide (q.1 ≤ x.kb) := by unfold inRg; rw [List.take_length]
theorem pcells_o1 (l : List (Int × Int)) (a b : Int) : pcells (l ++ [(a, b)]) = pcells l ++ [.int .u64 a, .int .u64 b] := by simp [pcells]
structure StillF (c : Cf) (cuts : List Nat) (l : List Cl) (r : List Nat) (op : Nat) (x : Cl) (T : Mp) : Prop where
  hx : l[op]? = some x
  told : pTld (op : Int) l = (0, T)
  tlen : T.length ≤ l.length + 1
  took : -1 ≤ x.took
  same : ∀ tz, 0 ≤ tz → EndOf l r tz → sameB (mapsA c cuts l) l x.took tz l.length = true → T = inRg x (mapsA c cuts l x.took) (mapsA c cuts l x.took).length
  ans : ∀ (k q : Nat) (y : Cl), r[k]? = some q → l[q]? = some y → 0 ≤ y.took
theorem still_fact {c : Cf} {cuts : List Nat} {l : List Cl} (hw : ∀ y ∈ l, WfX y) (h : (pChk c cuts l).2 = 0) {i : Nat} {r : List Nat} (hr : (passL l)[i]? = some r) : ∃ op x T, r[0]? = some op ∧ StillF c cuts l r op x T := by
  obtain ⟨op, x, -, h1, h2, hx, hb⟩ := passL_get hr
  have hbad := wChk_bad (pChk_ok.1 h).1
  refine ⟨op, x, tldL l (ofP l op), by rw [h2]; rfl, hx, pTld_open hbad hx hb, Nat.le_trans (tldL_len _ _) (ofP_len _ _), (good_took (good_atP hbad hx)).1, fun tz h0 he hs => ?_, fun k q y hq hy => ?_⟩
  · rcases he with he | ⟨-, e, z, he, hz, rfl⟩
    · omega
    · rw [inRg_all]
      rw [h1] at he
      exact still_plain hw h hx hb he hz (sameB_all hs)
  · obtain ⟨op', x', y', -, -, hF⟩ := parts_fact hr hq
    have h5 := hF.hx
    rw [hy] at h5
    injection h5 with h5
    subst h5
    exact ((good_took (good_atP hbad hy)).2.2.2 hF.ans).1
end Go.Proofs.YtkikdpdainmlcaaGreat
