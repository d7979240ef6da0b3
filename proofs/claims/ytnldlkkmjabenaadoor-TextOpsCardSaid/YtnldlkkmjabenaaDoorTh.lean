import Derived.Test.YtnldlkkmjabenaaDoorTg
namespace Go.Proofs.YtnldlkkmjabenaaDoor
open Go.RowKit Go.Xt
/-! What the reference's ParseOp computes, plain: it is what ParseOp computes. -/
def setF (x : Opn) (o : Nat) (v : Int) : Opn :=
  ⟨x.kd, if o = 1 then v else x.ky, if o = 2 then v else x.hi, if o = 3 then v else x.vl, if o = 4 then v else x.od, if o = 5 then v else x.bt, if o = 6 then v else x.dr⟩
def fillW (x : Opn) : List Nat → List Nat → Opn
  | o :: l, v :: ns => fillW (setF x o (v : Int)) l ns
  | _, _ => x
theorem fillW_nil (x : Opn) (ns : List Nat) : fillW x [] ns = x := by cases ns <;> rfl
theorem fillW_nil2 (x : Opn) (l : List Nat) : fillW x l [] = x := by cases l <;> rfl
theorem fillW_snoc (o v : Nat) : ∀ (l ns : List Nat) (x : Opn), l.length = ns.length → fillW x (l ++ [o]) (ns ++ [v]) = setF (fillW x l ns) o (v : Int)
  | [], [], x, _ => rfl
  | a :: l, b :: ns, x, h => by
    rw [List.cons_append, List.cons_append, fillW, fillW, fillW_snoc o v l ns _ (by simpa using h)]
  | [], _ :: _, _, h => by simp at h
  | _ :: _, [], _, h => by simp at h
theorem fillW_take : ∀ (l ns : List Nat) (x : Opn) (i : Nat), (l.length ≤ i ∨ ns.length ≤ i) → fillW x (l.take i) (ns.take i) = fillW x l ns
  | [], ns, x, i, _ => by rw [List.take_nil, fillW_nil, fillW_nil]
  | l, [], x, i, _ => by rw [List.take_nil, fillW_nil2, fillW_nil2]
  | a :: l, b :: ns, x, 0, h => by simp at h
  | a :: l, b :: ns, x, i + 1, h => by
    rw [List.take_succ_cons, List.take_succ_cons, fillW, fillW, fillW_take l ns _ i (by simpa using h)]
theorem setF_wf {x : Opn} (h : WfO x) (o v : Nat) (hv : v < 18446744073709551616) : WfO (setF x o (v : Int)) := by
  have h1 := h.ky; have h2 := h.hi; have h3 := h.vl; have h4 := h.od; have h5 := h.bt; have h6 := h.dr
  constructor <;> unfold setF <;> first | exact h.kd | (dsimp only; split <;> omega)
theorem fillW_wf : ∀ (l ns : List Nat) (x : Opn), WfO x → (∀ u ∈ ns, u < 18446744073709551616) → WfO (fillW x l ns)
  | [], ns, x, h, _ => by rw [fillW_nil]; exact h
  | l, [], x, h, _ => by rw [fillW_nil2]; exact h
  | a :: l, b :: ns, x, h, hn => by
    rw [fillW]
    exact fillW_wf l ns _ (setF_wf h a b (hn b (by simp))) fun u hu => hn u (by simp [hu])
/-- The fields that the reference fills, in their order. -/
def offs2 (k : Int) : List Nat := if k = 4 ∨ k = 5 then [1, 3, 6] else if k = 7 then [1, 4, 3] else if k = 8 then [1, 2, 5, 6] else [1, 2, 3, 4, 5, 6]
def cand : List ByteArray → Option Opn
  | [] => none
  | w0 :: r => match allB r with
    | none => none
    | some ns => match kindOf w0.data.toList with
      | some k => some (fillW ⟨k, 0, 0, 0, 0, 0, 0⟩ (offs2 k) ns)
      | none => if w0 = ⟨#[111, 112]⟩ ∧ ns.length = 7 ∧ (ns[0]?).getD 0 ≤ 255 then some (fillW ⟨((ns[0]?).getD 0 : Nat), 0, 0, 0, 0, 0, 0⟩ [1, 2, 3, 4, 5, 6] ns.tail) else none
def rp (s : ByteArray) : Opn × Int := if 200 < s.size then (noOp, 4) else match cand (wordsB s) with
  | none => (noOp, 4)
  | some y => if lineO y = s.data.toList then (y, 0) else (noOp, 4)
theorem k0_wf {k : Int} (h : 0 ≤ k ∧ k < 256) : WfO ⟨k, 0, 0, 0, 0, 0, 0⟩ :=
  ⟨h, ⟨by show (0 : Int) ≤ 0; omega, by show (0 : Int) < _; omega⟩, ⟨by show (0 : Int) ≤ 0; omega, by show (0 : Int) < _; omega⟩, ⟨by show (0 : Int) ≤ 0; omega, by show (0 : Int) < _; omega⟩, ⟨by show (0 : Int) ≤ 0; omega, by show (0 : Int) < _; omega⟩, ⟨by show (0 : Int) ≤ 0; omega, by show (0 : Int) < _; omega⟩, ⟨by show (0 : Int) ≤ 0; omega, by show (0 : Int) < _; omega⟩⟩
theorem cand_wf {ws : List ByteArray} {y : Opn} (h : cand ws = some y) : WfO y := by
  cases ws with
  | nil => cases h
  | cons w0 r =>
    rw [cand] at h
    cases hR : allB r with
    | none => rw [hR] at h; cases h
    | some ns =>
      have hl := allB_lt hR
      rw [hR] at h
      dsimp only at h
      cases hK : kindOf w0.data.toList with
      | some k =>
        rw [hK] at h
        dsimp only at h
        injection h with h
        have hk := (kindOf_some hK).2
        rw [← h]
        exact fillW_wf _ _ _ (k0_wf (by omega)) hl
      | none =>
        rw [hK] at h
        dsimp only at h
        split at h
        · rename_i hc
          injection h with h
          rw [← h]
          exact fillW_wf _ _ _ (k0_wf (by omega)) fun u hu => hl u (List.mem_of_mem_tail hu)
        · cases h
theorem cand_line {x : Opn} (hx : WfO x) {s : ByteArray} (hs : s.data.toList = lineO x) : cand (wordsB s) = some x := by
  have h0 := hx.kd; have h1 := hx.ky; have h2 := hx.hi; have h3 := hx.vl; have h4 := hx.od; have h5 := hx.bt; have h6 := hx.dr
  by_cases hp : wordL x.kd = [] ∨ usedO x ≠ x
  · rw [lineO, if_pos hp] at hs
    rw [words_line hs op_nb, cand, allB_dec (allF_lt hx)]
    dsimp only
    rw [show kindOf (asB [111, 112]).data.toList = none by decide +kernel]
    dsimp only
    rw [if_pos ⟨rfl, rfl, by show x.kd.toNat ≤ 255; omega⟩]
    obtain ⟨k, ky, hi, vl, od, bt, dr⟩ := x
    simp only [fillW, setF, allF, List.tail_cons, List.getElem?_cons_zero, Option.getD_some] at *
    simp only [Option.some.injEq, opn_eq]
    refine ⟨by simp; omega, by simp; omega, by simp; omega, by simp; omega, by simp; omega, by simp; omega, by simp; omega⟩
  · rw [lineO, if_neg hp] at hs
    have hw : wordL x.kd ≠ [] := fun e => hp (.inl e)
    have hu : usedO x = x := Classical.byContradiction fun e => hp (.inr e)
    have hk := word_kind hw h0.1
    rw [words_line hs (word_nb hw h0.1), cand, allB_dec (useF_lt hx)]
    dsimp only
    rw [show (asB (wordL x.kd)).data.toList = wordL x.kd from rfl, (kinds_word x.kd hk).1]
    dsimp only
    obtain ⟨k, ky, hi, vl, od, bt, dr⟩ := x
    simp only [opn_eq, usedO, partO] at hu
    dsimp only at hk h1 h2 h3 h4 h5 h6
    clear hs hw hp
    rcases hk with rfl | rfl | rfl | rfl | rfl | rfl | rfl | rfl | rfl | rfl | rfl | rfl | rfl | rfl | rfl
    all_goals
      simp [offs] at hu
      simp [offs2, useF, offs, sel, fillW, setF, opn_eq]
      omega
theorem rp_eq (s : ByteArray) : rp s = parseW s (wordsB s) := by
  rcases parse_cases s (wordsB s) with h | ⟨x, h⟩
  · rw [h, rp]
    split
    · rfl
    · split
      · rfl
      · rename_i y hy
        split
        · rename_i hl
          have := parse_line (cand_wf hy) hl.symm
          rw [h] at this
          injection this with _ h2
          cases h2
        · rfl
  · obtain ⟨hx, hl⟩ := parse_back h
    have hsz := line_len hx
    rw [hl, data_len] at hsz
    rw [h, rp, if_neg (by omega), cand_line hx hl.symm]
    dsimp only
    rw [if_pos hl]
end Go.Proofs.YtnldlkkmjabenaaDoor
