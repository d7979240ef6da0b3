import Derived.Test.YtkikdpdainmlcaaGreatGKa
import Derived.Test.YtkikdpdainmlcaaGreatGNg
set_option linter.unusedVariables false
set_option linter.unusedSimpArgs false
set_option linter.unnecessarySimpa false
namespace Go.Proofs.YtkikdpdainmlcaaGreat
open Go.RowKit Go.Xt
/-! WitnessChanges, plain. -/
def seqF (l : List Cl) : List Nat → Md → Nat → Md
  | _, s, 0 => s
  | [], s, _ + 1 => s
  | i :: t, s, k + 1 => match l[i]?.bind (fitsM s) with
    | some s' => seqF l t s' k
    | none => s
theorem stAt_early (l : List Cl) : ∀ (ord : List Nat) (s : Md) (st : Int), (∀ i ∈ ord, st < tk l i) → stAt l ord s st = s
  | [], _, _, _ => rfl
  | i :: t, s, st, h => by
    rw [stAt]
    cases hx : l[i]? with
    | none => rfl
    | some c =>
      simp only
      have := h i (by simp)
      rw [tk_of hx] at this
      rw [if_neg (by omega)]
def woL (k : Int) (l : List (Int × Int)) : List (Int × Int) := l.filter fun p => !decide (p.1 = k)
theorem wo_cons (k : Int) (y : Int × Int) (r : List (Int × Int)) : woL k (y :: r) = if y.1 = k then woL k r else y :: woL k r := by
  unfold woL
  by_cases h : y.1 = k
  · rw [if_pos h, List.filter_cons_of_neg (by simp [h])]
  · rw [if_neg h, List.filter_cons_of_pos (by simp [h])]
def finL (out : List Sta) : List (Int × Int) := match out.getLast? with | some z => z.2 | none => []
/-! WitnessPrefixes, plain. -/
theorem wChk_ok {c : Cf} {cuts : List Nat} {l : List Cl} : (wChk c cuts l).2 = 0 ↔ ∃ o2, wX c cuts l = .ok o2 ∧ badR o2 l 0 = none := by
  unfold wChk
  cases h : wX c cuts l with
  | error z =>
    constructor
    · intro h2; exact absurd h2 (wX_err h)
    · rintro ⟨o2, h2, -⟩; cases h2
  | ok o2 =>
    simp only
    cases hb : badR o2 l 0 with
    | none => exact ⟨fun _ => ⟨o2, rfl, hb⟩, fun _ => rfl⟩
    | some i =>
      constructor
      · intro h2; exact absurd (show (18 : Int) = 0 from h2) (by decide)
      · rintro ⟨o3, h2, h3⟩; injection h2 with h2; subst h2; rw [hb] at h3; cases h3
theorem wpfx_op (st : Int) (x : Cl) : opC (pfx st x) = opC x := by simp only [opC, pfx]; (repeat' split) <;> rfl
theorem fits_pfx {s : Int} (hs : -1 ≤ s) {m m' : Md} {x : Cl} (hw : x.took ≤ s) (h : fitsM m x = some m') : fitsM m (pfx s x) = some m' := by
  by_cases ha : s < x.ans
  · have h0 : ¬ x.ans < 0 ∨ x.ans < 0 := by omega
    have hl : lateB x = false := by
      cases hl : lateB x with
      | false => rfl
      | true => unfold fitsM at h; rw [if_pos hl] at h; cases h
    have hneg : ¬ x.ans < 0 := by omega
    · have hlt : x.took < x.ans := by omega
      have hk : writesB x.kd = true ∧ x.re = 0 := by
        unfold lateB at hl
        rw [decide_eq_true hlt, Bool.or_true, Bool.true_and] at hl
        simp only [Bool.or_eq_false_iff, Bool.not_eq_false', Bool.and_eq_false_iff, decide_eq_false_iff_not] at hl
        refine ⟨hl.1, ?_⟩
        rcases hl.2 with h2 | h2
        · omega
        · simpa using h2
      have hkk : 4 ≤ x.kd ∧ x.kd ≤ 9 := by have := hk.1; unfold writesB at this; simpa using this
      have hr : readB x = false := by unfold readB; simp; omega
      have hx : fitsM m x = if (acceptM m x.th (opC x) (rsC x)).1 = true then some (acceptM m x.th (opC x) (rsC x)).2 else none := by
        unfold fitsM; rw [if_neg (by simp [hl]), if_neg (by simp [hr])]; unfold nextM; rw [if_neg hneg]
      have hacc : (acceptM m x.th (opC x) (rsC x)).1 = true := by
        cases hq : (acceptM m x.th (opC x) (rsC x)).1 with
        | true => rfl
        | false => rw [hx, hq] at h; simp at h
      have hst := write_acc (s := m) (t := x.th) (o := opC x) (r := rsC x) hkk hk.2 hacc
      rw [hx, if_pos hacc, hst] at h
      have hp1 : (pfx s x).ans = -1 := by rw [pfx_ans, if_pos ha]
      have hp2 : (pfx s x).kd = x.kd := by unfold pfx; (repeat' split) <;> rfl
      have hl2 : lateB (pfx s x) = false := by unfold lateB; rw [hp1, hp2, hk.1]; simp
      have hr2 : readB (pfx s x) = false := by unfold readB; rw [hp1]; simp
      unfold fitsM; rw [if_neg (by simp [hl2]), if_neg (by simp [hr2])]; unfold nextM; rw [if_pos (by omega), pfx_th, wpfx_op]; exact h
  · have e : pfx s x = x := by
      unfold pfx
      rw [if_neg ha, if_neg (by omega)]
    rw [e]; exact h
end Go.Proofs.YtkikdpdainmlcaaGreat
namespace Go.Proofs.YtkikdpdainmlcaaGreat
open Go.RowKit Go.Xt
/-! Passages, plain: no program in sight. -/
structure Lf where
  lo : Int
  hi : Int
  more : Bool
deriving DecidableEq
def begB (c : Cl) : Bool := decide (c.kd = 11) && (decide (0 ≤ c.ans) && decide (c.re = 0))
def fromL (x : Lf) (key : Int) (b : Bool) : Lf :=
  if x.more = false ∨ key < x.lo then x
  else if x.hi < key ∨ (b = true ∧ key = x.hi) then { x with more := false }
  else { x with lo := if b = true then key + 1 else key }
def nextL' (x : Lf) (c : Cl) : Lf := if c.re = 14 then { x with more := false } else if c.re = 0 then fromL x c.rk true else x
def seekL (x : Lf) (c : Cl) : Lf := if c.re = 0 then fromL x c.ka false else x
def aftL (x : Lf) (c : Cl) : Lf := if c.kd = 12 then nextL' x c else if c.kd = 13 then seekL x c else x
def insB (x : Lf) (k : Int) : Bool := x.more && (decide (x.lo ≤ k) && decide (k ≤ x.hi))
def ofG (th : Int) : Nat → List Cl → List Nat
  | _, [] => []
  | i, c :: r => if c.th ≠ th ∨ c.ans < 0 then ofG th (i + 1) r else if begB c = true then []
      else if c.kd = 12 ∨ c.kd = 13 ∨ c.kd = 14 then (if c.kd = 14 ∧ c.re = 0 then [i] else i :: ofG th (i + 1) r) else ofG th (i + 1) r
def ofP (l : List Cl) (op : Nat) : List Nat := match l[op]? with
  | some c => op :: ofG c.th (op + 1) (l.drop (op + 1))
  | none => [op]
def opens : Nat → List Cl → List Nat
  | _, [] => []
  | i, c :: r => if begB c = true then i :: opens (i + 1) r else opens (i + 1) r
def passL (l : List Cl) : List (List Nat) := (opens 0 l).map (ofP l)
theorem ofG_mem {th : Int} : ∀ (r : List Cl) (i j : Nat), j ∈ ofG th i r → i ≤ j ∧ ∃ c, r[j - i]? = some c ∧ c.th = th ∧ 0 ≤ c.ans ∧ (c.kd = 12 ∨ c.kd = 13 ∨ c.kd = 14)
  | [], i, j, h => by cases h
  | c :: r, i, j, h => by
    have rst : j ∈ ofG th (i + 1) r → i ≤ j ∧ ∃ d, (c :: r)[j - i]? = some d ∧ d.th = th ∧ 0 ≤ d.ans ∧ (d.kd = 12 ∨ d.kd = 13 ∨ d.kd = 14) := fun h => by
      obtain ⟨h1, d, h2, h3⟩ := ofG_mem r (i + 1) j h
      exact ⟨by omega, d, by rw [show j - i = (j - (i + 1)) + 1 by omega, List.getElem?_cons_succ]; exact h2, h3⟩
    rw [ofG] at h
    split at h
    · exact rst h
    · rename_i h0
      split at h
      · cases h
      · split at h
        · rename_i hk
          have h0' : c.th = th ∧ 0 ≤ c.ans := by
            by_cases e : c.th = th
            · exact ⟨e, by by_cases e2 : 0 ≤ c.ans; exact e2; exact absurd (.inr (by omega)) h0⟩
            · exact absurd (.inl e) h0
          split at h
          · simp only [List.mem_cons, List.not_mem_nil, or_false] at h
            subst h
            exact ⟨Nat.le_refl _, c, by simp, h0'.1, h0'.2, hk⟩
          · rcases List.mem_cons.1 h with rfl | h
            · exact ⟨Nat.le_refl _, c, by simp, h0'.1, h0'.2, hk⟩
            · exact rst h
        · exact rst h
theorem ofG_asc {th : Int} : ∀ (r : List Cl) (i : Nat), (ofG th i r).Pairwise (· < ·)
  | [], i => List.Pairwise.nil
  | c :: r, i => by
    rw [ofG]
    split
    · exact ofG_asc r (i + 1)
    · split
      · exact List.Pairwise.nil
      · split
        · split
          · simp
          · exact List.pairwise_cons.2 ⟨fun j hj => by have := (ofG_mem r (i + 1) j hj).1; omega, ofG_asc r (i + 1)⟩
        · exact ofG_asc r (i + 1)
theorem opens_mem : ∀ (l : List Cl) (i j : Nat), j ∈ opens i l ↔ i ≤ j ∧ ∃ c, l[j - i]? = some c ∧ begB c = true
  | [], i, j => by simp [opens]
  | c :: r, i, j => by
    have ih := opens_mem r (i + 1) j
    have st : (∃ d, (c :: r)[j - i]? = some d ∧ begB d = true) ∧ i < j ↔ (i + 1 ≤ j ∧ ∃ d, r[j - (i + 1)]? = some d ∧ begB d = true) := by
      constructor
      · rintro ⟨⟨d, h1, h2⟩, h3⟩
        rw [show j - i = (j - (i + 1)) + 1 by omega, List.getElem?_cons_succ] at h1
        exact ⟨by omega, d, h1, h2⟩
      · rintro ⟨h3, d, h1, h2⟩
        exact ⟨⟨d, by rw [show j - i = (j - (i + 1)) + 1 by omega, List.getElem?_cons_succ]; exact h1, h2⟩, by omega⟩
    rw [opens]
    split
    · rename_i hb
      rw [List.mem_cons, ih]
      constructor
      · rintro (rfl | h)
        · exact ⟨Nat.le_refl _, c, by simp, hb⟩
        · have := st.2 h; exact ⟨by omega, this.1⟩
      · rintro ⟨h1, h2⟩
        by_cases e : j = i
        · exact .inl e
        · exact .inr (st.1 ⟨h2, by omega⟩)
    · rename_i hb
      rw [ih]
      constructor
      · intro h; have := st.2 h; exact ⟨by omega, this.1⟩
      · rintro ⟨h1, d, h2, h3⟩
        by_cases e : j = i
        · subst e
          simp at h2
          subst h2
          exact absurd h3 hb
        · exact st.1 ⟨⟨d, h2, h3⟩, by omega⟩
theorem opens_asc : ∀ (l : List Cl) (i : Nat), (opens i l).Pairwise (· < ·)
  | [], i => List.Pairwise.nil
  | c :: r, i => by
    rw [opens]
    split
    · exact List.pairwise_cons.2 ⟨fun j hj => by have := ((opens_mem r (i + 1) j).1 hj).1; omega, opens_asc r (i + 1)⟩
    · exact opens_asc r (i + 1)
theorem opens_iff {l : List Cl} {j : Nat} : j ∈ opens 0 l ↔ ∃ c, l[j]? = some c ∧ begB c = true := by
  rw [opens_mem]; simp
theorem opens_len : ∀ (l : List Cl) (i : Nat), (opens i l).length = (l.filter begB).length
  | [], i => rfl
  | c :: r, i => by
    rw [opens]
    split
    · rename_i h; rw [List.filter_cons_of_pos h, List.length_cons, List.length_cons, opens_len r (i + 1)]
    · rename_i h; rw [List.filter_cons_of_neg h, opens_len r (i + 1)]
theorem ofP_mem {l : List Cl} {op j : Nat} {c : Cl} (hc : l[op]? = some c) : j ∈ ofP l op → j = op ∨ (op < j ∧ ∃ d, l[j]? = some d ∧ d.th = c.th ∧ 0 ≤ d.ans ∧ (d.kd = 12 ∨ d.kd = 13 ∨ d.kd = 14)) := by
  unfold ofP
  rw [hc]
  simp only [List.mem_cons]
  rintro (h | h)
  · exact .inl h
  · obtain ⟨h1, d, h2, h3⟩ := ofG_mem _ _ _ h
    rw [List.getElem?_drop, show op + 1 + (j - (op + 1)) = j by omega] at h2
    exact .inr ⟨by omega, d, h2, h3⟩
theorem ofG_sep {th : Int} : ∀ (r : List Cl) (i j k : Nat), j ∈ ofG th i r → i ≤ k → k ≤ j → ∀ c, r[k - i]? = some c → begB c = true → c.th ≠ th
  | [], i, j, k, h, _, _, _, _, _ => by cases h
  | c :: r, i, j, k, h, h1, h2, d, hd, hb => by
    by_cases e : k = i
    · subst e
      simp at hd
      subst hd
      intro ht
      have hans : ¬ c.ans < 0 := by unfold begB at hb; simp at hb; omega
      rw [ofG, if_neg (by rintro (h | h); exact h ht; exact hans h), if_pos hb] at h
      cases h
    · have hd' : r[k - (i + 1)]? = some d := by rw [show k - i = (k - (i + 1)) + 1 by omega, List.getElem?_cons_succ] at hd; exact hd
      have rst : j ∈ ofG th (i + 1) r → d.th ≠ th := fun h => ofG_sep r (i + 1) j k h (by omega) h2 d hd' hb
      rw [ofG] at h
      split at h
      · exact rst h
      · split at h
        · cases h
        · split at h
          · split at h
            · simp only [List.mem_cons, List.not_mem_nil, or_false] at h; omega
            · rcases List.mem_cons.1 h with h | h
              · omega
              · exact rst h
          · exact rst h
theorem ofP_sep {l : List Cl} {a b j : Nat} {x y : Cl} (ha : l[a]? = some x) (hb : l[b]? = some y) (hbx : begB x = true) (hby : begB y = true) (hab : a < b) (hj : j ∈ ofP l a) (hj2 : j ∈ ofP l b) : False := by
  have hka : ∀ z : Cl, begB z = true → z.kd = 11 := fun z hz => by unfold begB at hz; simp at hz; exact hz.1
  rcases ofP_mem hb hj2 with rfl | ⟨h1, d, h2, h3, h4, h5⟩
  · rcases ofP_mem ha hj with rfl | ⟨-, d, h2, -, -, h5⟩
    · omega
    · rw [hb] at h2; injection h2 with h2; subst h2
      have := hka y hby; omega
  · rcases ofP_mem ha hj with rfl | ⟨h6, e, h7, h8, h9, h10⟩
    · omega
    · rw [h2] at h7; injection h7 with h7; subst h7
      have hm : j ∈ ofG x.th (a + 1) (l.drop (a + 1)) := by
        unfold ofP at hj
        rw [ha] at hj
        rcases List.mem_cons.1 hj with h | h
        · omega
        · exact h
      have := ofG_sep _ _ j b hm (by omega) (by omega) y (by rw [List.getElem?_drop, show a + 1 + (b - (a + 1)) = b by omega]; exact hb) hby
      exact this (h3.symm.trans h8)
end Go.Proofs.YtkikdpdainmlcaaGreat
namespace Go.Proofs.YtkikdpdainmlcaaGreat
open Go.RowKit Go.Xt
/-! The maps during a passage; what Check, Told and Owed say; the plain law of PassageKeeps. -/
abbrev Mp : Type := List (Int × Int)
def putM (A : Int → Mp) (fr tz : Int) (out : List Mp) (t : Int) : List Mp := if t ≤ fr ∨ tz < t then out else if out.getLast? = some (A t) then out else out ++ [A t]
def durM (A : Int → Mp) (ts : List Int) (fr tz : Int) : List Mp := ts.foldl (putM A fr tz) [A fr]
def hasC (k : Int) (p : Mp) : Bool := p.any fun q => decide (q.1 = k)
def alwM : List Mp → List Int
  | [] => []
  | p :: r => (p.map (·.1)).filter fun k => r.all (hasC k)
theorem hasC_iff {k : Int} {p : Mp} : hasC k p = true ↔ k ∈ p.map (·.1) := by
  unfold hasC
  rw [List.any_eq_true, List.mem_map]
  constructor
  · rintro ⟨q, h1, h2⟩; exact ⟨q, h1, by simpa using h2⟩
  · rintro ⟨q, h1, h2⟩; exact ⟨q, h1, by simpa using h2⟩
theorem putM_mem {A : Int → Mp} {fr tz : Int} {out : List Mp} {t : Int} {q : Mp} : q ∈ putM A fr tz out t ↔ q ∈ out ∨ (fr < t ∧ t ≤ tz ∧ q = A t) := by
  unfold putM
  split
  · rename_i h
    constructor
    · exact .inl
    · rintro (h1 | ⟨h1, h2, -⟩)
      · exact h1
      · omega
  · rename_i h
    split
    · rename_i h2
      constructor
      · exact .inl
      · rintro (h1 | ⟨-, -, rfl⟩)
        · exact h1
        · exact List.mem_of_getLast? h2
    · rw [List.mem_append]
      simp only [List.mem_cons, List.not_mem_nil, or_false]
      constructor
      · rintro (h1 | rfl)
        · exact .inl h1
        · exact .inr ⟨by omega, by omega, rfl⟩
      · rintro (h1 | ⟨-, -, h1⟩)
        · exact .inl h1
        · exact .inr h1
theorem fold_mem {A : Int → Mp} {fr tz : Int} {q : Mp} : ∀ (ts : List Int) (out : List Mp), q ∈ ts.foldl (putM A fr tz) out ↔ q ∈ out ∨ ∃ t ∈ ts, fr < t ∧ t ≤ tz ∧ q = A t
  | [], out => by simp
  | t :: ts, out => by
    rw [List.foldl_cons, fold_mem ts, putM_mem]
    constructor
    · rintro ((h | h) | ⟨u, h1, h2⟩)
      · exact .inl h
      · exact .inr ⟨t, by simp, h⟩
      · exact .inr ⟨u, by simp [h1], h2⟩
    · rintro (h | ⟨u, h1, h2⟩)
      · exact .inl (.inl h)
      · rcases List.mem_cons.1 h1 with rfl | h1
        · exact .inl (.inr h2)
        · exact .inr ⟨u, h1, h2⟩
theorem durM_mem {A : Int → Mp} {ts : List Int} {fr tz : Int} {q : Mp} : q ∈ durM A ts fr tz ↔ q = A fr ∨ ∃ t ∈ ts, fr < t ∧ t ≤ tz ∧ q = A t := by
  unfold durM; rw [fold_mem]; simp
theorem putM_head {A : Int → Mp} {fr tz : Int} {p : Mp} {r : List Mp} {t : Int} : ∃ r', putM A fr tz (p :: r) t = p :: r' := by
  unfold putM
  split
  · exact ⟨r, rfl⟩
  · split
    · exact ⟨r, rfl⟩
    · exact ⟨r ++ [A t], rfl⟩
theorem durM_head (A : Int → Mp) (ts : List Int) (fr tz : Int) : ∃ r, durM A ts fr tz = A fr :: r := by
  unfold durM
  have : ∀ (ts : List Int) (p : Mp) (r : List Mp), ∃ r', ts.foldl (putM A fr tz) (p :: r) = p :: r' := by
    intro ts
    induction ts with
    | nil => intro p r; exact ⟨r, rfl⟩
    | cons t ts ih =>
      intro p r
      rw [List.foldl_cons]
      obtain ⟨r', e⟩ := putM_head (A := A) (fr := fr) (tz := tz) (p := p) (r := r) (t := t)
      rw [e]; exact ih p r'
  exact this ts (A fr) []
theorem alw_mem {A : Int → Mp} {ts : List Int} {fr tz : Int} {k : Int} : k ∈ alwM (durM A ts fr tz) ↔ ∀ q ∈ durM A ts fr tz, hasC k q = true := by
  obtain ⟨r, e⟩ := durM_head A ts fr tz
  rw [e, alwM, List.mem_filter, List.all_eq_true]
  constructor
  · rintro ⟨h1, h2⟩ q hq
    rcases List.mem_cons.1 hq with rfl | hq
    · exact hasC_iff.2 h1
    · exact h2 q hq
  · intro h
    exact ⟨hasC_iff.1 (h _ (by simp)), fun q hq => h q (by simp [hq])⟩
theorem alw_less {A : Int → Mp} {ts : List Int} {fr tz tz' : Int} (h : tz' ≤ tz) {k : Int} (hk : k ∈ alwM (durM A ts fr tz)) : k ∈ alwM (durM A ts fr tz') := by
  rw [alw_mem] at hk ⊢
  intro q hq
  refine hk q ?_
  rw [durM_mem] at hq ⊢
  rcases hq with h1 | ⟨t, h1, h2, h3, h4⟩
  · exact .inl h1
  · exact .inr ⟨t, h1, h2, by omega, h4⟩
def keepM (A : Int → Mp) (ts : List Int) (fr : Int) (c : Cl) (x : Lf) : Bool :=
  if c.re ≠ 0 ∧ c.re ≠ 14 then true
  else if ((alwM (durM A ts fr c.took)).any fun k => insB x k && (decide (c.re = 14) || decide (k < c.rk))) = true then false
  else if c.re = 14 then true
  else if c.rf = false ∨ insB x c.rk = false then false
  else (durM A ts fr c.took).any fun p => decide ((c.rk, c.rv) ∈ p)
def runP (A : Int → Mp) (ts : List Int) (l : List Cl) (fr : Int) : Lf → List Nat → Option Nat
  | _, [] => none
  | x, i :: r => match l[i]? with
    | none => runP A ts l fr x r
    | some c => if c.kd = 12 ∧ keepM A ts fr c x = false then some i else runP A ts l fr (aftL x c) r
def tldL (l : List Cl) : List Nat → Mp
  | [] => []
  | i :: r => match l[i]? with
    | none => tldL l r
    | some c => if c.kd = 12 ∧ c.re = 0 then (c.rk, c.rv) :: tldL l r else tldL l r
theorem insB_iff {x : Lf} {k : Int} : insB x k = true ↔ x.more = true ∧ x.lo ≤ k ∧ k ≤ x.hi := by
  unfold insB; simp [and_assoc]
theorem fromL_hi (x : Lf) (k : Int) (b : Bool) : (fromL x k b).hi = x.hi := by
  unfold fromL; (repeat' split) <;> rfl
theorem fromL_lo (x : Lf) (k : Int) (b : Bool) : x.lo ≤ (fromL x k b).lo := by
  unfold fromL
  split
  · exact Int.le_refl _
  · rename_i h
    have hlo : x.lo ≤ k := by
      by_cases e : x.lo ≤ k
      · exact e
      · exact absurd (.inr (by omega)) h
    split
    · exact Int.le_refl _
    · show x.lo ≤ if b = true then k + 1 else k
      split <;> omega
theorem fromL_more {x : Lf} {k : Int} {b : Bool} (h : (fromL x k b).more = true) : x.more = true := by
  unfold fromL at h
  split at h
  · exact h
  · rename_i h1
    cases hm : x.more with
    | true => rfl
    | false => exact absurd (.inl hm) h1
theorem aftL_hi (x : Lf) (c : Cl) : (aftL x c).hi = x.hi := by
  unfold aftL nextL' seekL
  (repeat' split) <;> first | rfl | exact fromL_hi _ _ _
theorem aftL_lo (x : Lf) (c : Cl) : x.lo ≤ (aftL x c).lo := by
  unfold aftL nextL' seekL
  (repeat' split) <;> first | exact Int.le_refl _ | exact fromL_lo _ _ _
theorem aftL_more {x : Lf} {c : Cl} (h : (aftL x c).more = true) : x.more = true := by
  unfold aftL nextL' seekL at h
  (repeat' split at h) <;> first | exact h | exact fromL_more h | (cases h)
theorem keep_found {A : Int → Mp} {ts : List Int} {fr : Int} {c : Cl} {x : Lf} (h : keepM A ts fr c x = true) (he : c.re = 0) :
    insB x c.rk = true ∧ (∃ p ∈ durM A ts fr c.took, (c.rk, c.rv) ∈ p) ∧ ∀ k ∈ alwM (durM A ts fr c.took), insB x k = true → c.rk ≤ k := by
  unfold keepM at h
  rw [if_neg (by omega)] at h
  split at h
  · cases h
  · rename_i h1
    rw [if_neg (by omega)] at h
    split at h
    · cases h
    · rename_i h2
      rw [List.any_eq_true] at h
      obtain ⟨p, h3, h4⟩ := h
      refine ⟨?_, ⟨p, h3, by simpa using h4⟩, fun k hk hi => ?_⟩
      · cases hb : insB x c.rk with
        | true => rfl
        | false => exact absurd (.inr hb) h2
      · by_cases e : c.rk ≤ k
        · exact e
        · exfalso
          apply h1
          rw [List.any_eq_true]
          exact ⟨k, hk, by rw [hi]; simp; right; omega⟩
theorem keep_end {A : Int → Mp} {ts : List Int} {fr : Int} {c : Cl} {x : Lf} (h : keepM A ts fr c x = true) (he : c.re = 14) :
    ∀ k ∈ alwM (durM A ts fr c.took), insB x k = false := by
  unfold keepM at h
  rw [if_neg (by omega)] at h
  split at h
  · cases h
  · rename_i h1
    intro k hk
    cases hb : insB x k with
    | false => rfl
    | true =>
      exfalso
      apply h1
      rw [List.any_eq_true]
      exact ⟨k, hk, by rw [hb, he]; rfl⟩
theorem aft_found {x : Lf} {c : Cl} (hk : c.kd = 12) (he : c.re = 0) (hi : insB x c.rk = true) : (aftL x c).hi = x.hi ∧ ((aftL x c).more = false ∧ x.hi = c.rk ∨ (aftL x c).more = true ∧ (aftL x c).lo = c.rk + 1) := by
  obtain ⟨h1, h2, h3⟩ := insB_iff.1 hi
  refine ⟨aftL_hi x c, ?_⟩
  unfold aftL nextL' fromL
  rw [if_pos hk, if_neg (by omega), if_pos he, if_neg (by rintro (h | h); rw [h1] at h; cases h; omega)]
  split
  · rename_i h; left; refine ⟨rfl, ?_⟩; rcases h with h | ⟨-, h⟩ <;> omega
  · right; exact ⟨h1, rfl⟩
theorem told_ok {A : Int → Mp} {ts : List Int} {l : List Cl} {fr : Int} : ∀ (r : List Nat) (x : Lf), runP A ts l fr x r = none →
    (x.more = false → tldL l r = []) ∧ (tldL l r).Pairwise (fun a b => a.1 < b.1) ∧
    ∀ q ∈ tldL l r, x.lo ≤ q.1 ∧ q.1 ≤ x.hi ∧ ∃ i ∈ r, ∃ c, l[i]? = some c ∧ ∃ p ∈ durM A ts fr c.took, q ∈ p
  | [], x, _ => ⟨fun _ => rfl, List.Pairwise.nil, fun q hq => by cases hq⟩
  | i :: r, x, h => by
    rw [runP] at h
    rw [tldL]
    cases hc : l[i]? with
    | none =>
      rw [hc] at h
      obtain ⟨h1, h2, h3⟩ := told_ok r x h
      exact ⟨h1, h2, fun q hq => by
        obtain ⟨a1, a2, j, hj, a3⟩ := h3 q hq
        exact ⟨a1, a2, j, by simp [hj], a3⟩⟩
    | some c =>
      rw [hc] at h
      simp only at h ⊢
      split at h
      · cases h
      · rename_i hn
        obtain ⟨h1, h2, h3⟩ := told_ok r (aftL x c) h
        by_cases hf : c.kd = 12 ∧ c.re = 0
        · rw [if_pos hf]
          have hkp : keepM A ts fr c x = true := by
            cases hk : keepM A ts fr c x with
            | true => rfl
            | false => exact absurd ⟨hf.1, hk⟩ hn
          obtain ⟨k1, k2, k3⟩ := keep_found hkp hf.2
          obtain ⟨f1, f2⟩ := aft_found hf.1 hf.2 k1
          have hin := insB_iff.1 k1
          refine ⟨fun hm => ?_, List.pairwise_cons.2 ⟨fun q hq => ?_, h2⟩, fun q hq => ?_⟩
          · rw [hin.1] at hm; cases hm
          · rcases f2 with ⟨f3, f4⟩ | ⟨f3, f4⟩
            · rw [h1 f3] at hq; cases hq
            · have := (h3 q hq).1; show c.rk < q.1; omega
          · rcases List.mem_cons.1 hq with rfl | hq
            · exact ⟨hin.2.1, hin.2.2, i, by simp, c, hc, k2⟩
            · obtain ⟨a1, a2, j, hj, a3⟩ := h3 q hq
              have := aftL_lo x c
              have := aftL_hi x c
              exact ⟨by omega, by omega, j, by simp [hj], a3⟩
        · rw [if_neg hf]
          have hlo := aftL_lo x c
          have hhi := aftL_hi x c
          refine ⟨fun hm => h1 ?_, h2, fun q hq => ?_⟩
          · cases hm2 : (aftL x c).more with
            | false => rfl
            | true => rw [aftL_more hm2] at hm; cases hm
          · obtain ⟨a1, a2, j, hj, a3⟩ := h3 q hq
            exact ⟨by omega, by omega, j, by simp [hj], a3⟩
def owR (l : List Cl) : Lf → List (Int × Int) → List Nat → Option (Nat × List (Int × Int))
  | _, _, [] => none
  | x, ps, i :: r => match l[i]? with
    | none => owR l x ps r
    | some c => if c.kd = 12 ∧ c.re = 14 then some (i, ps)
      else owR l (aftL x c) (if c.kd = 13 ∧ c.re = 0 ∧ x.more = true ∧ x.lo < c.ka then ps ++ [(x.lo, min x.hi (c.ka - 1))] else ps) r
def skipB (ps : List (Int × Int)) (k : Int) : Bool := ps.any fun s => decide (s.1 ≤ k) && decide (k ≤ s.2)
def owdL (A : Int → Mp) (ts : List Int) (fr tz : Int) (lo hi : Int) (ps : List (Int × Int)) : List Int := (alwM (durM A ts fr tz)).filter fun k => (decide (lo ≤ k) && decide (k ≤ hi)) && !skipB ps k
theorem owR_sub {l : List Cl} : ∀ (r : List Nat) (x : Lf) (ps : List (Int × Int)) (e : Nat) (ps' : List (Int × Int)), owR l x ps r = some (e, ps') → (∀ s ∈ ps, s ∈ ps') ∧ e ∈ r
  | [], x, ps, e, ps', h => by cases h
  | i :: r, x, ps, e, ps', h => by
    rw [owR] at h
    cases hc : l[i]? with
    | none => rw [hc] at h; obtain ⟨h1, h2⟩ := owR_sub r _ _ e ps' h; exact ⟨h1, by simp [h2]⟩
    | some c =>
      rw [hc] at h
      simp only at h
      split at h
      · injection h with h; injection h with h1 h2; subst h1 h2; exact ⟨fun s hs => hs, by simp⟩
      · obtain ⟨h1, h2⟩ := owR_sub r _ _ e ps' h
        refine ⟨fun s hs => h1 s ?_, by simp [h2]⟩
        split
        · exact List.mem_append_left _ hs
        · exact hs
theorem skipB_iff {ps : List (Int × Int)} {k : Int} : skipB ps k = true ↔ ∃ s ∈ ps, s.1 ≤ k ∧ k ≤ s.2 := by
  unfold skipB; rw [List.any_eq_true]; simp
theorem owed_told {A : Int → Mp} {ts : List Int} {l : List Cl} {fr : Int} : ∀ (r : List Nat) (x : Lf) (ps : List (Int × Int)) (e : Nat) (ps' : List (Int × Int)) (z : Cl), runP A ts l fr x r = none → owR l x ps r = some (e, ps') → l[e]? = some z →
    (r.Pairwise fun i j => ∀ a b, l[i]? = some a → l[j]? = some b → a.took ≤ b.took) → ∀ k ∈ alwM (durM A ts fr z.took), insB x k = true → skipB ps' k = false → k ∈ (tldL l r).map (·.1)
  | [], x, ps, e, ps', z, _, h, _, _, _, _, _, _ => by cases h
  | i :: r, x, ps, e, ps', z, hr, h, hz, ht, k, hk, hi, hs => by
    rw [List.pairwise_cons] at ht
    rw [runP] at hr
    rw [owR] at h
    rw [tldL]
    cases hc : l[i]? with
    | none =>
      rw [hc] at hr h
      exact owed_told r x ps e ps' z hr h hz ht.2 k hk hi hs
    | some c =>
      rw [hc] at hr h
      simp only at hr h ⊢
      split at hr
      · cases hr
      · rename_i hn
        have hin := insB_iff.1 hi
        split at h
        · rename_i he
          injection h with h; injection h with h1 h2
          subst h1 h2
          rw [hc] at hz; injection hz with hz; subst hz
          have hkp : keepM A ts fr c x = true := by
            cases hkk : keepM A ts fr c x with
            | true => rfl
            | false => exact absurd ⟨he.1, hkk⟩ hn
          have := keep_end hkp he.2 k hk
          rw [hi] at this; cases this
        · rename_i he
          obtain ⟨hsub, hmem⟩ := owR_sub r _ _ e ps' h
          have hle : c.took ≤ z.took := ht.1 e hmem c z hc hz
          by_cases hf : c.kd = 12 ∧ c.re = 0
          · rw [if_pos hf]
            have hkp : keepM A ts fr c x = true := by
              cases hkk : keepM A ts fr c x with
              | true => rfl
              | false => exact absurd ⟨hf.1, hkk⟩ hn
            obtain ⟨k1, -, k3⟩ := keep_found hkp hf.2
            have hge := k3 k (alw_less hle hk) hi
            obtain ⟨f1, f2⟩ := aft_found hf.1 hf.2 k1
            rw [List.map_cons]
            by_cases e2 : k = c.rk
            · rw [e2]; simp
            · refine List.mem_cons_of_mem _ (owed_told r (aftL x c) _ e ps' z hr h hz ht.2 k hk ?_ hs)
              rcases f2 with ⟨f3, f4⟩ | ⟨f3, f4⟩
              · omega
              · exact insB_iff.2 ⟨f3, by omega, by omega⟩
          · rw [if_neg hf]
            by_cases hsk : c.kd = 13 ∧ c.re = 0
            · have hx : aftL x c = fromL x c.ka false := by unfold aftL seekL; rw [if_neg (by omega), if_pos hsk.1, if_pos hsk.2]
              have hnot : ¬ (x.lo < c.ka ∧ k ≤ c.ka - 1) := by
                rintro ⟨q1, q2⟩
                have h9 : skipB ps' k = true := skipB_iff.2 ⟨(x.lo, min x.hi (c.ka - 1)), hsub _ (by rw [if_pos ⟨hsk.1, hsk.2, hin.1, q1⟩]; simp), hin.2.1, by show k ≤ min x.hi (c.ka - 1); omega⟩
                rw [hs] at h9; cases h9
              refine owed_told r (aftL x c) _ e ps' z hr h hz ht.2 k hk ?_ hs
              rw [hx]
              unfold fromL
              split
              · exact hi
              · rename_i h5
                have h6 : x.lo ≤ c.ka := by
                  by_cases e3 : x.lo ≤ c.ka
                  · exact e3
                  · exact absurd (.inr (by omega)) h5
                split
                · rename_i h7
                  exfalso
                  rcases h7 with h7 | ⟨h7, -⟩
                  · exact hnot ⟨by omega, by omega⟩
                  · cases h7
                · refine insB_iff.2 ⟨hin.1, ?_, hin.2.2⟩
                  show (if false = true then c.ka + 1 else c.ka) ≤ k
                  rw [if_neg (by simp)]
                  by_cases e4 : c.ka ≤ k
                  · exact e4
                  · exact absurd ⟨by omega, by omega⟩ hnot
            · have hx : aftL x c = x := by
                unfold aftL nextL' seekL
                split
                · rename_i h5
                  rw [if_neg (fun h6 => he ⟨h5, h6⟩), if_neg (fun h6 => hf ⟨h5, h6⟩)]
                · split
                  · rename_i h5; rw [if_neg (fun h6 => hsk ⟨h5, h6⟩)]
                  · rfl
              rw [hx] at hr h
              exact owed_told r x _ e ps' z hr h hz ht.2 k hk hi hs
end Go.Proofs.YtkikdpdainmlcaaGreat
namespace Go.Proofs.YtkikdpdainmlcaaGreat
open Go.RowKit Go.Xt
/-! The plain law of PassageStill. -/
def endS (l : List Cl) : List Nat → Option Nat
  | [] => none
  | i :: r => match l[i]? with
    | none => endS l r
    | some c => if c.kd = 13 ∧ c.re = 0 then none else if c.kd = 12 ∧ c.re = 14 then some i else endS l r
theorem endS_mem {l : List Cl} : ∀ (r : List Nat) (e : Nat), endS l r = some e → e ∈ r ∧ ∃ z, l[e]? = some z ∧ z.kd = 12 ∧ z.re = 14
  | [], e, h => by cases h
  | i :: r, e, h => by
    rw [endS] at h
    cases hc : l[i]? with
    | none => rw [hc] at h; obtain ⟨h1, h2⟩ := endS_mem r e h; exact ⟨by simp [h1], h2⟩
    | some c =>
      rw [hc] at h
      simp only at h
      split at h
      · cases h
      · split at h
        · rename_i h2; injection h with h; subst h; exact ⟨by simp, c, hc, h2⟩
        · obtain ⟨h1, h2⟩ := endS_mem r e h; exact ⟨by simp [h1], h2⟩
theorem filter_first : ∀ {P : Mp} (x y : Lf) (k v : Int), asc P → (k, v) ∈ P → insB x k = true → (∀ q ∈ P, insB x q.1 = true → k ≤ q.1) → (∀ j, insB y j = true ↔ insB x j = true ∧ k < j) →
    P.filter (fun q => insB x q.1) = (k, v) :: P.filter (fun q => insB y q.1)
  | [], x, y, k, v, _, h, _, _, _ => by cases h
  | p :: P, x, y, k, v, ha, hm, hi, hl, hy => by
    have ha2 := List.pairwise_cons.1 ha
    by_cases e : p = (k, v)
    · subst e
      have hny : ¬ insB y k = true := fun h => by
        have := ((hy k).1 h).2
        omega
      rw [List.filter_cons_of_pos (p := fun q : Int × Int => insB x q.1) (a := (k, v)) hi, List.filter_cons_of_neg (p := fun q : Int × Int => insB y q.1) (a := (k, v)) hny]
      congr 1
      refine List.filter_congr fun q hq => ?_
      have hkq : k < q.1 := ha2.1 q hq
      cases hx : insB x q.1 with
      | true => rw [(hy q.1).2 ⟨hx, hkq⟩]
      | false =>
        cases hyy : insB y q.1 with
        | false => rfl
        | true => rw [((hy q.1).1 hyy).1] at hx; cases hx
    · have hm2 : (k, v) ∈ P := by
        rcases List.mem_cons.1 hm with h | h
        · exact absurd h.symm e
        · exact h
      have hlt : p.1 < k := ha2.1 (k, v) hm2
      have hpx : insB x p.1 = false := by
        cases h : insB x p.1 with
        | false => rfl
        | true => have := hl p (by simp) h; omega
      have hpy : insB y p.1 = false := by
        cases h : insB y p.1 with
        | false => rfl
        | true => rw [((hy p.1).1 h).1] at hpx; cases hpx
      rw [List.filter_cons_of_neg (p := fun q : Int × Int => insB x q.1) (a := p) (by simp [hpx]), List.filter_cons_of_neg (p := fun q : Int × Int => insB y q.1) (a := p) (by simp [hpy])]
      exact filter_first x y k v ha2.2 hm2 hi (fun q hq => hl q (by simp [hq])) hy
theorem still_told {A : Int → Mp} {ts : List Int} {l : List Cl} {fr : Int} (ha : asc (A fr)) : ∀ (r : List Nat) (x : Lf) (e : Nat) (z : Cl), runP A ts l fr x r = none → endS l r = some e → l[e]? = some z →
    (r.Pairwise fun i j => ∀ a b, l[i]? = some a → l[j]? = some b → a.took ≤ b.took) → (∀ t ∈ ts, fr < t → t ≤ z.took → A t = A fr) → tldL l r = (A fr).filter (fun q => insB x q.1)
  | [], x, e, z, _, h, _, _, _ => by cases h
  | i :: r, x, e, z, hr, h, hz, ht, hsm => by
    rw [List.pairwise_cons] at ht
    have hmem := endS_mem (i :: r) e h
    rw [runP] at hr
    rw [endS] at h
    rw [tldL]
    cases hc : l[i]? with
    | none =>
      rw [hc] at hr h
      exact still_told ha r x e z hr h hz ht.2 hsm
    | some c =>
      rw [hc] at hr h
      simp only at hr h ⊢
      have hle : c.took ≤ z.took := by
        rcases List.mem_cons.1 hmem.1 with rfl | hm
        · rw [hc] at hz; injection hz with hz; rw [hz]; exact Int.le_refl _
        · exact ht.1 e hm c z hc hz
      have hdur : ∀ p ∈ durM A ts fr c.took, p = A fr := fun p hp => by
        rcases durM_mem.1 hp with h1 | ⟨t, h1, h2, h3, h4⟩
        · exact h1
        · rw [h4]; exact hsm t h1 h2 (by omega)
      have halw : ∀ q ∈ A fr, q.1 ∈ alwM (durM A ts fr c.took) := fun q hq => alw_mem.2 fun p hp => by
        rw [hdur p hp]; exact hasC_iff.2 (List.mem_map.2 ⟨q, hq, rfl⟩)
      split at hr
      · cases hr
      · rename_i hn
        split at h
        · cases h
        · rename_i hns
          split at h
          · rename_i he
            rw [if_neg (by omega)]
            have hkp : keepM A ts fr c x = true := by
              cases hkk : keepM A ts fr c x with
              | true => rfl
              | false => exact absurd ⟨he.1, hkk⟩ hn
            have h1 := keep_end hkp he.2
            have hmo : (aftL x c).more = false := by unfold aftL nextL'; rw [if_pos he.1, if_pos he.2]
            rw [(told_ok r (aftL x c) hr).1 hmo]
            symm
            rw [List.filter_eq_nil_iff]
            intro q hq
            rw [h1 q.1 (halw q hq)]; simp
          · rename_i he
            by_cases hf : c.kd = 12 ∧ c.re = 0
            · rw [if_pos hf]
              have hkp : keepM A ts fr c x = true := by
                cases hkk : keepM A ts fr c x with
                | true => rfl
                | false => exact absurd ⟨hf.1, hkk⟩ hn
              obtain ⟨k1, ⟨p, hp, hpm⟩, k3⟩ := keep_found hkp hf.2
              rw [hdur p hp] at hpm
              rw [still_told ha r (aftL x c) e z hr h hz ht.2 hsm]
              obtain ⟨f1, f2⟩ := aft_found hf.1 hf.2 k1
              have hin := insB_iff.1 k1
              refine (filter_first x (aftL x c) c.rk c.rv ha hpm k1 (fun q hq hi => k3 q.1 (halw q hq) hi) fun j => ?_).symm
              rw [insB_iff, insB_iff]
              rcases f2 with ⟨f3, f4⟩ | ⟨f3, f4⟩
              · constructor
                · rintro ⟨h1, -⟩; rw [f3] at h1; cases h1
                · rintro ⟨⟨-, -, h2⟩, h3⟩; omega
              · constructor
                · rintro ⟨-, h2, h3⟩; exact ⟨⟨hin.1, by omega, by omega⟩, by omega⟩
                · rintro ⟨⟨-, h2, h3⟩, h4⟩; exact ⟨f3, by omega, by omega⟩
            · rw [if_neg hf]
              have hx : aftL x c = x := by
                unfold aftL nextL' seekL
                split
                · rename_i h5
                  rw [if_neg (fun h6 => he ⟨h5, h6⟩), if_neg (fun h6 => hf ⟨h5, h6⟩)]
                · split
                  · rename_i h5; rw [if_neg (fun h6 => hns ⟨h5, h6⟩)]
                  · rfl
              rw [hx] at hr
              exact still_told ha r x e z hr h hz ht.2 hsm
end Go.Proofs.YtkikdpdainmlcaaGreat
