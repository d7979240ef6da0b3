import Derived.Test.YtkikdpdainmlcaaGreatGKa
import Derived.Test.YtkikdpdainmlcaaGreatGNg
set_option linter.unusedVariables false
set_option linter.unusedSimpArgs false
set_option linter.unnecessarySimpa false
namespace Go.Proofs.YtkikdpdainmlcaaGreat
open Go.RowKit Go.Xt
/-! WitnessChanges, plain. -/
def seqF (l : List Cl) : List Nat → Md → Nat → Md
  | _, s, 0 => s
  | [], s, _ + 1 => s
  | i :: t, s, k + 1 => match l[i]?.bind (fitsM s) with
    | some s' => seqF l t s' k
    | none => s
theorem stAt_early (l : List Cl) : ∀ (ord : List Nat) (s : Md) (st : Int), (∀ i ∈ ord, st < tk l i) → stAt l ord s st = s
  | [], _, _, _ => rfl
  | i :: t, s, st, h => by
    rw [stAt]
    cases hx : l[i]? with
    | none => rfl
    | some c =>
      simp only
      have := h i (by simp)
      rw [tk_of hx] at this
      rw [if_neg (by omega)]
def woL (k : Int) (l : List (Int × Int)) : List (Int × Int) := l.filter fun p => !decide (p.1 = k)
theorem wo_cons (k : Int) (y : Int × Int) (r : List (Int × Int)) : woL k (y :: r) = if y.1 = k then woL k r else y :: woL k r := by
  unfold woL
  by_cases h : y.1 = k
  · rw [if_pos h, List.filter_cons_of_neg (by simp [h])]
  · rw [if_neg h, List.filter_cons_of_pos (by simp [h])]
def finL (out : List Sta) : List (Int × Int) := match out.getLast? with | some z => z.2 | none => []
/-! WitnessPrefixes, plain. -/
theorem badR_none {maps : List Sta} : ∀ (l : List Cl) (k : Nat), badR maps l k = none ↔ ∀ x ∈ l, readB x = true → 0 ≤ explM maps x
  | [], k => by simp [badR]
  | x :: r, k => by
    rw [badR]
    by_cases h : (readB x && decide (explM maps x < 0)) = true
    · rw [if_pos h]
      simp only [Bool.and_eq_true, decide_eq_true_eq] at h
      constructor
      · intro h2; cases h2
      · intro h2; have := h2 x (by simp) h.1; omega
    · rw [if_neg h, badR_none r (k + 1)]
      simp only [Bool.and_eq_true, decide_eq_true_eq, not_and] at h
      constructor
      · intro h2 y hy hr
        rcases List.mem_cons.1 hy with rfl | hy
        · have := h hr; omega
        · exact h2 y hy hr
      · intro h2 y hy; exact h2 y (by simp [hy])
theorem wChk_ok {c : Cf} {cuts : List Nat} {l : List Cl} : (wChk c cuts l).2 = 0 ↔ ∃ o2, wX c cuts l = .ok o2 ∧ badR o2 l 0 = none := by
  unfold wChk
  cases h : wX c cuts l with
  | error z =>
    constructor
    · intro h2; exact absurd h2 (wX_err h)
    · rintro ⟨o2, h2, -⟩; cases h2
  | ok o2 =>
    simp only
    cases hb : badR o2 l 0 with
    | none => exact ⟨fun _ => ⟨o2, rfl, hb⟩, fun _ => rfl⟩
    | some i =>
      constructor
      · intro h2; exact absurd (show (18 : Int) = 0 from h2) (by decide)
      · rintro ⟨o3, h2, h3⟩; injection h2 with h2; subst h2; rw [hb] at h3; cases h3
theorem wpfx_op (st : Int) (x : Cl) : opC (pfx st x) = opC x := by simp only [opC, pfx]; (repeat' split) <;> rfl
theorem fits_pfx {s : Int} (hs : -1 ≤ s) {m m' : Md} {x : Cl} (hw : x.took ≤ s) (h : fitsM m x = some m') : fitsM m (pfx s x) = some m' := by
  by_cases ha : s < x.ans
  · have h0 : ¬ x.ans < 0 ∨ x.ans < 0 := by omega
    have hl : lateB x = false := by
      cases hl : lateB x with
      | false => rfl
      | true => unfold fitsM at h; rw [if_pos hl] at h; cases h
    have hneg : ¬ x.ans < 0 := by omega
    · have hlt : x.took < x.ans := by omega
      have hk : writesB x.kd = true ∧ x.re = 0 := by
        unfold lateB at hl
        rw [decide_eq_true hlt, Bool.or_true, Bool.true_and] at hl
        simp only [Bool.or_eq_false_iff, Bool.not_eq_false', Bool.and_eq_false_iff, decide_eq_false_iff_not] at hl
        refine ⟨hl.1, ?_⟩
        rcases hl.2 with h2 | h2
        · omega
        · simpa using h2
      have hkk : 4 ≤ x.kd ∧ x.kd ≤ 9 := by have := hk.1; unfold writesB at this; simpa using this
      have hr : readB x = false := by unfold readB; simp; omega
      have hx : fitsM m x = if (acceptM m x.th (opC x) (rsC x)).1 = true then some (acceptM m x.th (opC x) (rsC x)).2 else none := by
        unfold fitsM; rw [if_neg (by simp [hl]), if_neg (by simp [hr])]; unfold nextM; rw [if_neg hneg]
      have hacc : (acceptM m x.th (opC x) (rsC x)).1 = true := by
        cases hq : (acceptM m x.th (opC x) (rsC x)).1 with
        | true => rfl
        | false => rw [hx, hq] at h; simp at h
      have hst := write_acc (s := m) (t := x.th) (o := opC x) (r := rsC x) hkk hk.2 hacc
      rw [hx, if_pos hacc, hst] at h
      have hp1 : (pfx s x).ans = -1 := by rw [pfx_ans, if_pos ha]
      have hp2 : (pfx s x).kd = x.kd := by unfold pfx; (repeat' split) <;> rfl
      have hl2 : lateB (pfx s x) = false := by unfold lateB; rw [hp1, hp2, hk.1]; simp
      have hr2 : readB (pfx s x) = false := by unfold readB; rw [hp1]; simp
      unfold fitsM; rw [if_neg (by simp [hl2]), if_neg (by simp [hr2])]; unfold nextM; rw [if_pos (by omega), pfx_th, wpfx_op]; exact h
  · have e : pfx s x = x := by
      unfold pfx
      rw [if_neg ha, if_neg (by omega)]
    rw [e]; exact h
theorem runF_take (l p : List Cl) (s : Int) (hsm : -1 ≤ s) : ∀ (ord : List Nat) (m m2 : Md), runF l ord m = some m2 → ∀ k, (∀ i ∈ ord.take k, ∃ x, l[i]? = some x ∧ x.took ≤ s ∧ p[i]? = some (pfx s x)) →
    ∃ m3, runF p (ord.take k) m = some m3 ∧ ∀ st, st ≤ s → (∀ i ∈ ord.drop k, s < tk l i) → stAt p (ord.take k) m st = stAt l ord m st
  | [], m, m2, h, k, hk => ⟨m, by rw [List.take_nil]; rfl, fun st _ _ => by rw [List.take_nil]; rfl⟩
  | i :: t, m, m2, h, 0, hk => ⟨m, rfl, fun st hst hd => by
      rw [List.take_zero, stAt_early l (i :: t) m st (fun j hj => by have := hd j (by simpa using hj); omega)]; rfl⟩
  | i :: t, m, m2, h, k + 1, hk => by
    obtain ⟨x, hx, hs, hp⟩ := hk i (by simp)
    rw [runF, hx] at h
    simp only at h
    cases hf : fitsM m x with
    | none => rw [hf] at h; cases h
    | some m' =>
      rw [hf] at h
      simp only at h
      have hf2 := fits_pfx hsm hs hf
      obtain ⟨m3, h1, h2⟩ := runF_take l p s hsm t m' m2 h k (fun j hj => hk j (by simp [hj]))
      refine ⟨m3, by rw [List.take_succ_cons, runF, hp]; simp only; rw [hf2]; exact h1, fun st hst hd => ?_⟩
      rw [List.take_succ_cons, stAt, hp, stAt, hx]
      simp only
      have ht : (pfx s x).took = x.took := by rw [pfx_took, if_neg (by omega)]
      rw [ht, hf2, hf]
      by_cases h3 : x.took ≤ st
      · rw [if_pos h3, if_pos h3]; exact h2 st hst (fun j hj => hd j (by simpa using hj))
      · rw [if_neg h3, if_neg h3]
theorem wprefix_plain {c : Cf} {cuts : List Nat} {l : List Cl} {s : Int} (hs : -1 ≤ s) {o2 : List Sta} (h : wX c cuts l = .ok o2) (hb : badR o2 l 0 = none) :
    ∃ o3, wX c cuts (pres s l) = .ok o3 ∧ badR o3 (pres s l) 0 = none ∧ atF [] o2 s = finL o3 := by
  obtain ⟨hc, hbad, hm⟩ := wX_ok h
  have hE := effL_is hbad
  have hbp := bad_pres hs hbad
  have hEp := effL_is hbp
  have hsp := mapsX_spec hbad (s := s1M c) rfl
  rw [hm] at hsp
  obtain ⟨hM, ⟨s2, hr, -⟩, hat⟩ := hsp
  obtain ⟨e1, e2, e3⟩ := eff_pres hs hbad hE hEp
  obtain ⟨k, hk⟩ : ∃ k, k = (effL (pres s l)).length := ⟨_, rfl⟩
  rw [← hk] at e1 e2 e3
  have hin : ∀ i ∈ (effL l).take k, ∃ x, l[i]? = some x ∧ x.took ≤ s ∧ (pres s l)[i]? = some (pfx s x) := fun i hi => by
    rw [← e1] at hi
    obtain ⟨y, hy, h0⟩ := (hEp.2 i).1 hi
    obtain ⟨x, hx, hxs, rfl, -⟩ := pres_get hy
    refine ⟨x, hx, ?_, hy⟩
    rw [pfx_took] at h0
    split at h0
    · omega
    · omega
  have hout : ∀ i ∈ (effL l).drop k, s < tk l i := fun i hi => by
    obtain ⟨q, hq⟩ := List.mem_iff_getElem?.1 hi
    rw [List.getElem?_drop] at hq
    have hkl : k < (effL l).length := by have := (List.getElem?_eq_some_iff.1 hq).1; omega
    obtain ⟨x, hx, hsx⟩ := e3 _ (List.getElem?_eq_getElem hkl)
    have h1 : s < tk l ((effL l)[k]) := by rw [tk_of hx]; exact hsx
    by_cases hq0 : q = 0
    · subst hq0
      rw [Nat.add_zero, List.getElem?_eq_getElem hkl] at hq
      injection hq with hq; rw [← hq]; exact h1
    · have hq2 := (List.getElem?_eq_some_iff.1 hq)
      obtain ⟨hq3, hq4⟩ := hq2
      have := (List.pairwise_iff_getElem.1 hE.1) k (k + q) hkl hq3 (by omega)
      rw [hq4] at this
      omega
  obtain ⟨m3, h1, h2⟩ := runF_take l (pres s l) s hs (effL l) (s1M c) s2 hr k hin
  rw [← e1] at h1 h2
  have hsp2 := mapsX_spec hbp (s := s1M c) rfl
  cases hm2 : mapsX (s1M c) (pres s l) with
  | error i => rw [hm2] at hsp2; rw [h1] at hsp2; cases hsp2
  | ok o3 =>
    rw [hm2] at hsp2
    obtain ⟨hM3, ⟨s3, hr3, z3, hz3, hzs3⟩, hat3⟩ := hsp2
    rw [h1] at hr3; injection hr3 with hr3; subst hr3
    have hw : wX c cuts (pres s l) = .ok o3 := by unfold wX; rw [if_neg (by omega), hbp]; simp only; rw [hm2]; rfl
    have heq : ∀ st, -1 ≤ st → st ≤ s → atF [] o3 st = atF [] o2 st := fun st ha hb => by rw [hat3 st ha, hat st ha, h2 st hb hout]
    refine ⟨o3, hw, ?_, ?_⟩
    · rw [badR_none] at hb ⊢
      intro y hy hry
      obtain ⟨j, hj⟩ := List.mem_iff_getElem?.1 hy
      obtain ⟨x, hx, hxs, rfl, -⟩ := pres_get hj
      have hans : x.ans ≤ s ∧ 0 ≤ x.ans := by
        unfold readB at hry
        simp only [Bool.and_eq_true, decide_eq_true_eq] at hry
        have := hry.2.1
        rw [pfx_ans] at this
        split at this
        · omega
        · omega
      have hta := ans_ge hbad hx hans.2
      have e : pfx s x = x := by unfold pfx; rw [if_neg (by omega), if_neg (by omega)]
      rw [e] at hry ⊢
      have hinv := inv_nonneg hbad hx
      have hle := took_le hbad hx hta.1
      have hxp := hb x (List.mem_of_getElem? hx) hry
      rcases explM_spec hM hinv (by omega : x.inv ≤ x.ans) with ⟨a1, a2, a3, a4, a5, a6, -⟩ | ⟨a1, -⟩
      · rcases explM_spec hM3 hinv (by omega : x.inv ≤ x.ans) with ⟨b1, -⟩ | ⟨b1, b2⟩
        · exact b1
        · have := b2 a2 a3 (explM o2 x) a4 a5
          rw [heq _ (by omega) (by omega), a6] at this
          cases this
      · omega
    · have h4 : stAt (pres s l) (effL (pres s l)) (s1M c) s = m3 := stAt_all _ _ _ _ _ (fun i hi => by
        obtain ⟨y, hy, h0⟩ := (hEp.2 i).1 hi
        rw [tk_of hy]
        obtain ⟨x, hx, hxs, rfl, -⟩ := pres_get hy
        rw [pfx_took] at h0 ⊢
        split at h0
        · omega
        · rename_i hq; rw [if_neg hq]; omega) h1
      rw [← heq s hs (Int.le_refl _), hat3 s hs, h4]
      unfold finL; rw [hz3]; exact hzs3.symm
end Go.Proofs.YtkikdpdainmlcaaGreat
namespace Go.Proofs.YtkikdpdainmlcaaGreat
open Go.RowKit Go.Xt
/-! Passages, plain: no program in sight. -/
structure Lf where
  lo : Int
  hi : Int
  more : Bool
deriving DecidableEq
def begB (c : Cl) : Bool := decide (c.kd = 11) && (decide (0 ≤ c.ans) && decide (c.re = 0))
def fromL (x : Lf) (key : Int) (b : Bool) : Lf :=
  if x.more = false ∨ key < x.lo then x
  else if x.hi < key ∨ (b = true ∧ key = x.hi) then { x with more := false }
  else { x with lo := if b = true then key + 1 else key }
def nextL' (x : Lf) (c : Cl) : Lf := if c.re = 14 then { x with more := false } else if c.re = 0 then fromL x c.rk true else x
def seekL (x : Lf) (c : Cl) : Lf := if c.re = 0 then fromL x c.ka false else x
def aftL (x : Lf) (c : Cl) : Lf := if c.kd = 12 then nextL' x c else if c.kd = 13 then seekL x c else x
def insB (x : Lf) (k : Int) : Bool := x.more && (decide (x.lo ≤ k) && decide (k ≤ x.hi))
def ofG (th : Int) : Nat → List Cl → List Nat
  | _, [] => []
  | i, c :: r => if c.th ≠ th ∨ c.ans < 0 then ofG th (i + 1) r else if begB c = true then []
      else if c.kd = 12 ∨ c.kd = 13 ∨ c.kd = 14 then (if c.kd = 14 ∧ c.re = 0 then [i] else i :: ofG th (i + 1) r) else ofG th (i + 1) r
def ofP (l : List Cl) (op : Nat) : List Nat := match l[op]? with
  | some c => op :: ofG c.th (op + 1) (l.drop (op + 1))
  | none => [op]
def opens : Nat → List Cl → List Nat
  | _, [] => []
  | i, c :: r => if begB c = true then i :: opens (i + 1) r else opens (i + 1) r
def passL (l : List Cl) : List (List Nat) := (opens 0 l).map (ofP l)
theorem ofG_mem {th : Int} : ∀ (r : List Cl) (i j : Nat), j ∈ ofG th i r → i ≤ j ∧ ∃ c, r[j - i]? = some c ∧ c.th = th ∧ 0 ≤ c.ans ∧ (c.kd = 12 ∨ c.kd = 13 ∨ c.kd = 14)
  | [], i, j, h => by cases h
  | c :: r, i, j, h => by
    have rst : j ∈ ofG th (i + 1) r → i ≤ j ∧ ∃ d, (c :: r)[j - i]? = some d ∧ d.th = th ∧ 0 ≤ d.ans ∧ (d.kd = 12 ∨ d.kd = 13 ∨ d.kd = 14) := fun h => by
      obtain ⟨h1, d, h2, h3⟩ := ofG_mem r (i + 1) j h
      exact ⟨by omega, d, by rw [show j - i = (j - (i + 1)) + 1 by omega, List.getElem?_cons_succ]; exact h2, h3⟩
    rw [ofG] at h
    split at h
    · exact rst h
    · rename_i h0
      split at h
      · cases h
      · split at h
        · rename_i hk
          have h0' : c.th = th ∧ 0 ≤ c.ans := by
            by_cases e : c.th = th
            · exact ⟨e, by by_cases e2 : 0 ≤ c.ans; exact e2; exact absurd (.inr (by omega)) h0⟩
            · exact absurd (.inl e) h0
          split at h
          · simp only [List.mem_cons, List.not_mem_nil, or_false] at h
            subst h
            exact ⟨Nat.le_refl _, c, by simp, h0'.1, h0'.2, hk⟩
          · rcases List.mem_cons.1 h with rfl | h
            · exact ⟨Nat.le_refl _, c, by simp, h0'.1, h0'.2, hk⟩
            · exact rst h
        · exact rst h
theorem opens_mem : ∀ (l : List Cl) (i j : Nat), j ∈ opens i l ↔ i ≤ j ∧ ∃ c, l[j - i]? = some c ∧ begB c = true
  | [], i, j => by simp [opens]
  | c :: r, i, j => by
    have ih := opens_mem r (i + 1) j
    have st : (∃ d, (c :: r)[j - i]? = some d ∧ begB d = true) ∧ i < j ↔ (i + 1 ≤ j ∧ ∃ d, r[j - (i + 1)]? = some d ∧ begB d = true) := by
      constructor
      · rintro ⟨⟨d, h1, h2⟩, h3⟩
        rw [show j - i = (j - (i + 1)) + 1 by omega, List.getElem?_cons_succ] at h1
        exact ⟨by omega, d, h1, h2⟩
      · rintro ⟨h3, d, h1, h2⟩
        exact ⟨⟨d, by rw [show j - i = (j - (i + 1)) + 1 by omega, List.getElem?_cons_succ]; exact h1, h2⟩, by omega⟩
    rw [opens]
    split
    · rename_i hb
      rw [List.mem_cons, ih]
      constructor
      · rintro (rfl | h)
        · exact ⟨Nat.le_refl _, c, by simp, hb⟩
        · have := st.2 h; exact ⟨by omega, this.1⟩
      · rintro ⟨h1, h2⟩
        by_cases e : j = i
        · exact .inl e
        · exact .inr (st.1 ⟨h2, by omega⟩)
    · rename_i hb
      rw [ih]
      constructor
      · intro h; have := st.2 h; exact ⟨by omega, this.1⟩
      · rintro ⟨h1, d, h2, h3⟩
        by_cases e : j = i
        · subst e
          simp at h2
          subst h2
          exact absurd h3 hb
        · exact st.1 ⟨⟨d, h2, h3⟩, by omega⟩
theorem opens_iff {l : List Cl} {j : Nat} : j ∈ opens 0 l ↔ ∃ c, l[j]? = some c ∧ begB c = true := by
  rw [opens_mem]; simp
end Go.Proofs.YtkikdpdainmlcaaGreat
namespace Go.Proofs.YtkikdpdainmlcaaGreat
open Go.RowKit Go.Xt
/-! The maps during a passage; what Check, Told and Owed say; the plain law of PassageKeeps. -/
abbrev Mp : Type := List (Int × Int)
def putM (A : Int → Mp) (fr tz : Int) (out : List Mp) (t : Int) : List Mp := if t ≤ fr ∨ tz < t then out else if out.getLast? = some (A t) then out else out ++ [A t]
def durM (A : Int → Mp) (ts : List Int) (fr tz : Int) : List Mp := ts.foldl (putM A fr tz) [A fr]
def hasC (k : Int) (p : Mp) : Bool := p.any fun q => decide (q.1 = k)
def alwM : List Mp → List Int
  | [] => []
  | p :: r => (p.map (·.1)).filter fun k => r.all (hasC k)
theorem hasC_iff {k : Int} {p : Mp} : hasC k p = true ↔ k ∈ p.map (·.1) := by
  unfold hasC
  rw [List.any_eq_true, List.mem_map]
  constructor
  · rintro ⟨q, h1, h2⟩; exact ⟨q, h1, by simpa using h2⟩
  · rintro ⟨q, h1, h2⟩; exact ⟨q, h1, by simpa using h2⟩
theorem putM_mem {A : Int → Mp} {fr tz : Int} {out : List Mp} {t : Int} {q : Mp} : q ∈ putM A fr tz out t ↔ q ∈ out ∨ (fr < t ∧ t ≤ tz ∧ q = A t) := by
  unfold putM
  split
  · rename_i h
    constructor
    · exact .inl
    · rintro (h1 | ⟨h1, h2, -⟩)
      · exact h1
      · omega
  · rename_i h
    split
    · rename_i h2
      constructor
      · exact .inl
      · rintro (h1 | ⟨-, -, rfl⟩)
        · exact h1
        · exact List.mem_of_getLast? h2
    · rw [List.mem_append]
      simp only [List.mem_cons, List.not_mem_nil, or_false]
      constructor
      · rintro (h1 | rfl)
        · exact .inl h1
        · exact .inr ⟨by omega, by omega, rfl⟩
      · rintro (h1 | ⟨-, -, h1⟩)
        · exact .inl h1
        · exact .inr h1
theorem fold_mem {A : Int → Mp} {fr tz : Int} {q : Mp} : ∀ (ts : List Int) (out : List Mp), q ∈ ts.foldl (putM A fr tz) out ↔ q ∈ out ∨ ∃ t ∈ ts, fr < t ∧ t ≤ tz ∧ q = A t
  | [], out => by simp
  | t :: ts, out => by
    rw [List.foldl_cons, fold_mem ts, putM_mem]
    constructor
    · rintro ((h | h) | ⟨u, h1, h2⟩)
      · exact .inl h
      · exact .inr ⟨t, by simp, h⟩
      · exact .inr ⟨u, by simp [h1], h2⟩
    · rintro (h | ⟨u, h1, h2⟩)
      · exact .inl (.inl h)
      · rcases List.mem_cons.1 h1 with rfl | h1
        · exact .inl (.inr h2)
        · exact .inr ⟨u, h1, h2⟩
theorem durM_mem {A : Int → Mp} {ts : List Int} {fr tz : Int} {q : Mp} : q ∈ durM A ts fr tz ↔ q = A fr ∨ ∃ t ∈ ts, fr < t ∧ t ≤ tz ∧ q = A t := by
  unfold durM; rw [fold_mem]; simp
theorem putM_head {A : Int → Mp} {fr tz : Int} {p : Mp} {r : List Mp} {t : Int} : ∃ r', putM A fr tz (p :: r) t = p :: r' := by
  unfold putM
  split
  · exact ⟨r, rfl⟩
  · split
    · exact ⟨r, rfl⟩
    · exact ⟨r ++ [A t], rfl⟩
theorem durM_head (A : Int → Mp) (ts : List Int) (fr tz : Int) : ∃ r, durM A ts fr tz = A fr :: r := by
  unfold durM
  have : ∀ (ts : List Int) (p : Mp) (r : List Mp), ∃ r', ts.foldl (putM A fr tz) (p :: r) = p :: r' := by
    intro ts
    induction ts with
    | nil => intro p r; exact ⟨r, rfl⟩
    | cons t ts ih =>
      intro p r
      rw [List.foldl_cons]
      obtain ⟨r', e⟩ := putM_head (A := A) (fr := fr) (tz := tz) (p := p) (r := r) (t := t)
      rw [e]; exact ih p r'
  exact this ts (A fr) []
theorem alw_mem {A : Int → Mp} {ts : List Int} {fr tz : Int} {k : Int} : k ∈ alwM (durM A ts fr tz) ↔ ∀ q ∈ durM A ts fr tz, hasC k q = true := by
  obtain ⟨r, e⟩ := durM_head A ts fr tz
  rw [e, alwM, List.mem_filter, List.all_eq_true]
  constructor
  · rintro ⟨h1, h2⟩ q hq
    rcases List.mem_cons.1 hq with rfl | hq
    · exact hasC_iff.2 h1
    · exact h2 q hq
  · intro h
    exact ⟨hasC_iff.1 (h _ (by simp)), fun q hq => h q (by simp [hq])⟩
theorem alw_less {A : Int → Mp} {ts : List Int} {fr tz tz' : Int} (h : tz' ≤ tz) {k : Int} (hk : k ∈ alwM (durM A ts fr tz)) : k ∈ alwM (durM A ts fr tz') := by
  rw [alw_mem] at hk ⊢
  intro q hq
  refine hk q ?_
  rw [durM_mem] at hq ⊢
  rcases hq with h1 | ⟨t, h1, h2, h3, h4⟩
  · exact .inl h1
  · exact .inr ⟨t, h1, h2, by omega, h4⟩
def keepM (A : Int → Mp) (ts : List Int) (fr : Int) (c : Cl) (x : Lf) : Bool :=
  if c.re ≠ 0 ∧ c.re ≠ 14 then true
  else if ((alwM (durM A ts fr c.took)).any fun k => insB x k && (decide (c.re = 14) || decide (k < c.rk))) = true then false
  else if c.re = 14 then true
  else if c.rf = false ∨ insB x c.rk = false then false
  else (durM A ts fr c.took).any fun p => decide ((c.rk, c.rv) ∈ p)
def runP (A : Int → Mp) (ts : List Int) (l : List Cl) (fr : Int) : Lf → List Nat → Option Nat
  | _, [] => none
  | x, i :: r => match l[i]? with
    | none => runP A ts l fr x r
    | some c => if c.kd = 12 ∧ keepM A ts fr c x = false then some i else runP A ts l fr (aftL x c) r
def tldL (l : List Cl) : List Nat → Mp
  | [] => []
  | i :: r => match l[i]? with
    | none => tldL l r
    | some c => if c.kd = 12 ∧ c.re = 0 then (c.rk, c.rv) :: tldL l r else tldL l r
theorem insB_iff {x : Lf} {k : Int} : insB x k = true ↔ x.more = true ∧ x.lo ≤ k ∧ k ≤ x.hi := by
  unfold insB; simp [and_assoc]
theorem fromL_hi (x : Lf) (k : Int) (b : Bool) : (fromL x k b).hi = x.hi := by
  unfold fromL; (repeat' split) <;> rfl
theorem fromL_lo (x : Lf) (k : Int) (b : Bool) : x.lo ≤ (fromL x k b).lo := by
  unfold fromL
  split
  · exact Int.le_refl _
  · rename_i h
    have hlo : x.lo ≤ k := by
      by_cases e : x.lo ≤ k
      · exact e
      · exact absurd (.inr (by omega)) h
    split
    · exact Int.le_refl _
    · show x.lo ≤ if b = true then k + 1 else k
      split <;> omega
theorem fromL_more {x : Lf} {k : Int} {b : Bool} (h : (fromL x k b).more = true) : x.more = true := by
  unfold fromL at h
  split at h
  · exact h
  · rename_i h1
    cases hm : x.more with
    | true => rfl
    | false => exact absurd (.inl hm) h1
theorem aftL_hi (x : Lf) (c : Cl) : (aftL x c).hi = x.hi := by
  unfold aftL nextL' seekL
  (repeat' split) <;> first | rfl | exact fromL_hi _ _ _
theorem aftL_lo (x : Lf) (c : Cl) : x.lo ≤ (aftL x c).lo := by
  unfold aftL nextL' seekL
  (repeat' split) <;> first | exact Int.le_refl _ | exact fromL_lo _ _ _
theorem aftL_more {x : Lf} {c : Cl} (h : (aftL x c).more = true) : x.more = true := by
  unfold aftL nextL' seekL at h
  (repeat' split at h) <;> first | exact h | exact fromL_more h | (cases h)
theorem keep_found {A : Int → Mp} {ts : List Int} {fr : Int} {c : Cl} {x : Lf} (h : keepM A ts fr c x = true) (he : c.re = 0) :
    insB x c.rk = true ∧ (∃ p ∈ durM A ts fr c.took, (c.rk, c.rv) ∈ p) ∧ ∀ k ∈ alwM (durM A ts fr c.took), insB x k = true → c.rk ≤ k := by
  unfold keepM at h
  rw [if_neg (by omega)] at h
  split at h
  · cases h
  · rename_i h1
    rw [if_neg (by omega)] at h
    split at h
    · cases h
    · rename_i h2
      rw [List.any_eq_true] at h
      obtain ⟨p, h3, h4⟩ := h
      refine ⟨?_, ⟨p, h3, by simpa using h4⟩, fun k hk hi => ?_⟩
      · cases hb : insB x c.rk with
        | true => rfl
        | false => exact absurd (.inr hb) h2
      · by_cases e : c.rk ≤ k
        · exact e
        · exfalso
          apply h1
          rw [List.any_eq_true]
          exact ⟨k, hk, by rw [hi]; simp; right; omega⟩
theorem keep_end {A : Int → Mp} {ts : List Int} {fr : Int} {c : Cl} {x : Lf} (h : keepM A ts fr c x = true) (he : c.re = 14) :
    ∀ k ∈ alwM (durM A ts fr c.took), insB x k = false := by
  unfold keepM at h
  rw [if_neg (by omega)] at h
  split at h
  · cases h
  · rename_i h1
    intro k hk
    cases hb : insB x k with
    | false => rfl
    | true =>
      exfalso
      apply h1
      rw [List.any_eq_true]
      exact ⟨k, hk, by rw [hb, he]; rfl⟩
theorem aft_found {x : Lf} {c : Cl} (hk : c.kd = 12) (he : c.re = 0) (hi : insB x c.rk = true) : (aftL x c).hi = x.hi ∧ ((aftL x c).more = false ∧ x.hi = c.rk ∨ (aftL x c).more = true ∧ (aftL x c).lo = c.rk + 1) := by
  obtain ⟨h1, h2, h3⟩ := insB_iff.1 hi
  refine ⟨aftL_hi x c, ?_⟩
  unfold aftL nextL' fromL
  rw [if_pos hk, if_neg (by omega), if_pos he, if_neg (by rintro (h | h); rw [h1] at h; cases h; omega)]
  split
  · rename_i h; left; refine ⟨rfl, ?_⟩; rcases h with h | ⟨-, h⟩ <;> omega
  · right; exact ⟨h1, rfl⟩
theorem told_ok {A : Int → Mp} {ts : List Int} {l : List Cl} {fr : Int} : ∀ (r : List Nat) (x : Lf), runP A ts l fr x r = none →
    (x.more = false → tldL l r = []) ∧ (tldL l r).Pairwise (fun a b => a.1 < b.1) ∧
    ∀ q ∈ tldL l r, x.lo ≤ q.1 ∧ q.1 ≤ x.hi ∧ ∃ i ∈ r, ∃ c, l[i]? = some c ∧ ∃ p ∈ durM A ts fr c.took, q ∈ p
  | [], x, _ => ⟨fun _ => rfl, List.Pairwise.nil, fun q hq => by cases hq⟩
  | i :: r, x, h => by
    rw [runP] at h
    rw [tldL]
    cases hc : l[i]? with
    | none =>
      rw [hc] at h
      obtain ⟨h1, h2, h3⟩ := told_ok r x h
      exact ⟨h1, h2, fun q hq => by
        obtain ⟨a1, a2, j, hj, a3⟩ := h3 q hq
        exact ⟨a1, a2, j, by simp [hj], a3⟩⟩
    | some c =>
      rw [hc] at h
      simp only at h ⊢
      split at h
      · cases h
      · rename_i hn
        obtain ⟨h1, h2, h3⟩ := told_ok r (aftL x c) h
        by_cases hf : c.kd = 12 ∧ c.re = 0
        · rw [if_pos hf]
          have hkp : keepM A ts fr c x = true := by
            cases hk : keepM A ts fr c x with
            | true => rfl
            | false => exact absurd ⟨hf.1, hk⟩ hn
          obtain ⟨k1, k2, k3⟩ := keep_found hkp hf.2
          obtain ⟨f1, f2⟩ := aft_found hf.1 hf.2 k1
          have hin := insB_iff.1 k1
          refine ⟨fun hm => ?_, List.pairwise_cons.2 ⟨fun q hq => ?_, h2⟩, fun q hq => ?_⟩
          · rw [hin.1] at hm; cases hm
          · rcases f2 with ⟨f3, f4⟩ | ⟨f3, f4⟩
            · rw [h1 f3] at hq; cases hq
            · have := (h3 q hq).1; show c.rk < q.1; omega
          · rcases List.mem_cons.1 hq with rfl | hq
            · exact ⟨hin.2.1, hin.2.2, i, by simp, c, hc, k2⟩
            · obtain ⟨a1, a2, j, hj, a3⟩ := h3 q hq
              have := aftL_lo x c
              have := aftL_hi x c
              exact ⟨by omega, by omega, j, by simp [hj], a3⟩
        · rw [if_neg hf]
          have hlo := aftL_lo x c
          have hhi := aftL_hi x c
          refine ⟨fun hm => h1 ?_, h2, fun q hq => ?_⟩
          · cases hm2 : (aftL x c).more with
            | false => rfl
            | true => rw [aftL_more hm2] at hm; cases hm
          · obtain ⟨a1, a2, j, hj, a3⟩ := h3 q hq
            exact ⟨by omega, by omega, j, by simp [hj], a3⟩
def owR (l : List Cl) : Lf → List (Int × Int) → List Nat → Option (Nat × List (Int × Int))
  | _, _, [] => none
  | x, ps, i :: r => match l[i]? with
    | none => owR l x ps r
    | some c => if c.kd = 12 ∧ c.re = 14 then some (i, ps)
      else owR l (aftL x c) (if c.kd = 13 ∧ c.re = 0 ∧ x.more = true ∧ x.lo < c.ka then ps ++ [(x.lo, min x.hi (c.ka - 1))] else ps) r
def skipB (ps : List (Int × Int)) (k : Int) : Bool := ps.any fun s => decide (s.1 ≤ k) && decide (k ≤ s.2)
def owdL (A : Int → Mp) (ts : List Int) (fr tz : Int) (lo hi : Int) (ps : List (Int × Int)) : List Int := (alwM (durM A ts fr tz)).filter fun k => (decide (lo ≤ k) && decide (k ≤ hi)) && !skipB ps k
theorem owR_sub {l : List Cl} : ∀ (r : List Nat) (x : Lf) (ps : List (Int × Int)) (e : Nat) (ps' : List (Int × Int)), owR l x ps r = some (e, ps') → (∀ s ∈ ps, s ∈ ps') ∧ e ∈ r
  | [], x, ps, e, ps', h => by cases h
  | i :: r, x, ps, e, ps', h => by
    rw [owR] at h
    cases hc : l[i]? with
    | none => rw [hc] at h; obtain ⟨h1, h2⟩ := owR_sub r _ _ e ps' h; exact ⟨h1, by simp [h2]⟩
    | some c =>
      rw [hc] at h
      simp only at h
      split at h
      · injection h with h; injection h with h1 h2; subst h1 h2; exact ⟨fun s hs => hs, by simp⟩
      · obtain ⟨h1, h2⟩ := owR_sub r _ _ e ps' h
        refine ⟨fun s hs => h1 s ?_, by simp [h2]⟩
        split
        · exact List.mem_append_left _ hs
        · exact hs
theorem skipB_iff {ps : List (Int × Int)} {k : Int} : skipB ps k = true ↔ ∃ s ∈ ps, s.1 ≤ k ∧ k ≤ s.2 := by
  unfold skipB; rw [List.any_eq_true]; simp
end Go.Proofs.YtkikdpdainmlcaaGreat
namespace Go.Proofs.YtkikdpdainmlcaaGreat
open Go.RowKit Go.Xt
/-! The plain law of PassageStill. -/
def endS (l : List Cl) : List Nat → Option Nat
  | [] => none
  | i :: r => match l[i]? with
    | none => endS l r
    | some c => if c.kd = 13 ∧ c.re = 0 then none else if c.kd = 12 ∧ c.re = 14 then some i else endS l r
theorem endS_mem {l : List Cl} : ∀ (r : List Nat) (e : Nat), endS l r = some e → e ∈ r ∧ ∃ z, l[e]? = some z ∧ z.kd = 12 ∧ z.re = 14
  | [], e, h => by cases h
  | i :: r, e, h => by
    rw [endS] at h
    cases hc : l[i]? with
    | none => rw [hc] at h; obtain ⟨h1, h2⟩ := endS_mem r e h; exact ⟨by simp [h1], h2⟩
    | some c =>
      rw [hc] at h
      simp only at h
      split at h
      · cases h
      · split at h
        · rename_i h2; injection h with h; subst h; exact ⟨by simp, c, hc, h2⟩
        · obtain ⟨h1, h2⟩ := endS_mem r e h; exact ⟨by simp [h1], h2⟩
theorem filter_first : ∀ {P : Mp} (x y : Lf) (k v : Int), asc P → (k, v) ∈ P → insB x k = true → (∀ q ∈ P, insB x q.1 = true → k ≤ q.1) → (∀ j, insB y j = true ↔ insB x j = true ∧ k < j) →
    P.filter (fun q => insB x q.1) = (k, v) :: P.filter (fun q => insB y q.1)
  | [], x, y, k, v, _, h, _, _, _ => by cases h
  | p :: P, x, y, k, v, ha, hm, hi, hl, hy => by
    have ha2 := List.pairwise_cons.1 ha
    by_cases e : p = (k, v)
    · subst e
      have hny : ¬ insB y k = true := fun h => by
        have := ((hy k).1 h).2
        omega
      rw [List.filter_cons_of_pos (p := fun q : Int × Int => insB x q.1) (a := (k, v)) hi, List.filter_cons_of_neg (p := fun q : Int × Int => insB y q.1) (a := (k, v)) hny]
      congr 1
      refine List.filter_congr fun q hq => ?_
      have hkq : k < q.1 := ha2.1 q hq
      cases hx : insB x q.1 with
      | true => rw [(hy q.1).2 ⟨hx, hkq⟩]
      | false =>
        cases hyy : insB y q.1 with
        | false => rfl
        | true => rw [((hy q.1).1 hyy).1] at hx; cases hx
    · have hm2 : (k, v) ∈ P := by
        rcases List.mem_cons.1 hm with h | h
        · exact absurd h.symm e
        · exact h
      have hlt : p.1 < k := ha2.1 (k, v) hm2
      have hpx : insB x p.1 = false := by
        cases h : insB x p.1 with
        | false => rfl
        | true => have := hl p (by simp) h; omega
      have hpy : insB y p.1 = false := by
        cases h : insB y p.1 with
        | false => rfl
        | true => rw [((hy p.1).1 h).1] at hpx; cases hpx
      rw [List.filter_cons_of_neg (p := fun q : Int × Int => insB x q.1) (a := p) (by simp [hpx]), List.filter_cons_of_neg (p := fun q : Int × Int => insB y q.1) (a := p) (by simp [hpy])]
      exact filter_first x y k v ha2.2 hm2 hi (fun q hq => hl q (by simp [hq])) hy
end Go.Proofs.YtkikdpdainmlcaaGreat
