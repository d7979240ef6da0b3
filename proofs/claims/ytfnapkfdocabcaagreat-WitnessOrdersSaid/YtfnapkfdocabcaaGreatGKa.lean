import Derived.Test.YtfnapkfdocabcaaGreatGRh
import Derived.Test.YtfnapkfdocabcaaGreatGFl0
set_option linter.unusedVariables false
set_option linter.unusedSimpArgs false
set_option linter.unnecessarySimpa false
namespace Go.Proofs.YtfnapkfdocabcaaGreat
open Go.RowKit Go.Xt
/-! Linearizations, plain: no program in sight. -/
def opC (c : Cl) : Ox := ⟨c.kd, c.ka, c.kb, c.kc, c.kx, c.ky, c.kz⟩
def rsC (c : Cl) : Rs := ⟨c.re, c.rf, c.rk, c.rv, c.rc⟩
/-- A call performed on a model; none: it is not accepted. -/
def nextM (s : Md) (c : Cl) : Option Md :=
  if c.ans < 0 then some (doM s c.th (opC c)).2
  else if (acceptM s c.th (opC c) (rsC c)).1 = true then some (acceptM s c.th (opC c) (rsC c)).2 else none
/-- Whether call i may be performed when those of o have been. -/
def mayB (l : List Cl) (o : List Nat) (i : Nat) : Bool :=
  decide (i ∉ o) && (List.range l.length).all fun k => match l[k]?, l[i]? with
    | some a, some b => !bf a b || decide (k ∈ o)
    | _, _ => true
/-- Whether all answered calls have been performed. -/
def fullB (l : List Cl) (o : List Nat) : Bool :=
  (List.range l.length).all fun i => match l[i]? with
    | some c => decide (c.ans < 0) || decide (i ∈ o)
    | none => true
theorem mayB_iff {l : List Cl} {o : List Nat} {i : Nat} {b : Cl} (hb : l[i]? = some b) : mayB l o i = true ↔ i ∉ o ∧ ∀ k a, l[k]? = some a → bf a b = true → k ∈ o := by
  simp only [mayB, Bool.and_eq_true, decide_eq_true_eq, List.all_eq_true, List.mem_range]
  constructor
  · rintro ⟨h1, h2⟩
    refine ⟨h1, fun k a ha hab => ?_⟩
    have := h2 k (List.getElem?_eq_some_iff.1 ha).1
    rw [ha, hb] at this
    simpa [hab] using this
  · rintro ⟨h1, h2⟩
    refine ⟨h1, fun k hk => ?_⟩
    rw [List.getElem?_eq_getElem hk, hb]
    simp only
    cases hab : bf l[k] b with
    | false => rfl
    | true => simpa using h2 k _ (List.getElem?_eq_getElem hk) hab
/-- The linearizations that begin with o, in the order of the search; s: the model behind o. -/
def exts (l : List Cl) : Nat → List Nat → Md → List (List Nat)
  | 0, o, _ => if fullB l o then [o] else []
  | f + 1, o, s => (if fullB l o then [o] else []) ++ (List.range l.length).flatMap fun i =>
      if mayB l o i then match l[i]?.bind (nextM s) with
        | some s' => exts l f (o ++ [i]) s'
        | none => []
      else []
/-- The model behind an order. -/
def runM (l : List Cl) : Md → List Nat → Option Md
  | s, [] => some s
  | s, i :: o => match l[i]?.bind (nextM s) with
    | some s' => runM l s' o
    | none => none
theorem runM_app (l : List Cl) : ∀ (o : List Nat) (s : Md) (t : List Nat), runM l s (o ++ t) = (runM l s o).bind fun s' => runM l s' t
  | [], s, t => rfl
  | i :: o, s, t => by
    rw [List.cons_append, runM, runM]
    cases h : l[i]?.bind (nextM s) with
    | none => rfl
    | some s' => exact runM_app l o s' t
/-- What may follow o: each call may be performed when those before it have been. -/
def Goes (l : List Cl) : List Nat → List Nat → Prop
  | _, [] => True
  | o, i :: t => i < l.length ∧ mayB l o i = true ∧ Goes l (o ++ [i]) t
/-- A linearization. -/
def Lin (l : List Cl) (s : Md) (z : List Nat) : Prop := Ord l.length z ∧ ordOk l z ∧ (runM l s z).isSome = true ∧ fullB l z = true
end Go.Proofs.YtfnapkfdocabcaaGreat
namespace Go.Proofs.YtfnapkfdocabcaaGreat
open Go.RowKit Go.Xt
/-! Witness, plain: no program in sight. -/
/-- A map from a step on. -/
abbrev Sta := Int × List (Int × Int)
/-- Whether a call is a read; whether operations of a kind may take effect before they end. -/
def readB (c : Cl) : Bool := decide (c.kd = 3) && (decide (0 ≤ c.ans) && decide (c.re = 0))
def writesB (k : Int) : Bool := decide (4 ≤ k) && decide (k ≤ 9)
/-- A call that took effect before it ended must be one that may. -/
def lateB (c : Cl) : Bool := (decide (c.ans < 0) || decide (c.took < c.ans)) && (!writesB c.kd || (decide (0 ≤ c.ans) && !decide (c.re = 0)))
/-- A call performed on a model, with the conditions; none: it violates one. -/
def fitsM (s : Md) (c : Cl) : Option Md :=
  if lateB c = true then none
  else if readB c = true then if (doM s c.th (opC c)).1.err = 0 then some (doM s c.th (opC c)).2 else none
  else nextM s c
/-- The maps of a history: a state is put to the list only if its pairs are others. -/
def putS (out : List Sta) (step : Int) (p : List (Int × Int)) : List Sta :=
  match out.getLast? with
  | some z => if z.2 = p then out else out ++ [(step, p)]
  | none => out ++ [(step, p)]
/-- The calls of an order performed: the maps, or the first call that does not fit. -/
def statesM (l : List Cl) : List Nat → Md → List Sta → Except Nat (List Sta)
  | [], _, out => .ok out
  | i :: t, s, out => match l[i]? with
    | none => .error i
    | some c => match fitsM s c with
      | none => .error i
      | some s' => statesM l t s' (putS out c.took s'.l)
/-- Calls in ascending order of the steps at which they took effect. -/
def insE (l : List Cl) (i : Nat) : List Nat → List Nat
  | [] => [i]
  | j :: r => if tk l i ≤ tk l j then i :: j :: r else j :: insE l i r
def srtE (l : List Cl) : List Nat → List Nat
  | [] => []
  | i :: r => insE l i (srtE l r)
def effL (l : List Cl) : List Nat := srtE l (idxK l l.length)
theorem insE_perm (l : List Cl) (i : Nat) : ∀ r, (insE l i r).Perm (i :: r)
  | [] => List.Perm.refl _
  | j :: r => by
    rw [insE]; split
    · exact List.Perm.refl _
    · exact ((insE_perm l i r).cons j).trans (List.Perm.swap i j r)
theorem srtE_perm (l : List Cl) : ∀ r, (srtE l r).Perm r
  | [] => List.Perm.refl _
  | i :: r => by rw [srtE]; exact (insE_perm l i _).trans ((srtE_perm l r).cons i)
theorem insE_sorted (l : List Cl) (i : Nat) : ∀ r : List Nat, (r.Pairwise fun i j => tk l i ≤ tk l j) → (insE l i r).Pairwise fun i j => tk l i ≤ tk l j
  | [], _ => by simp [insE]
  | j :: r, h => by
    rw [List.pairwise_cons] at h
    rw [insE]; split
    · rename_i hij
      rw [List.pairwise_cons]
      refine ⟨fun k hk => ?_, List.pairwise_cons.2 h⟩
      rcases List.mem_cons.1 hk with rfl | hk
      · exact hij
      · exact Int.le_trans hij (h.1 k hk)
    · rename_i hij
      rw [List.pairwise_cons]
      refine ⟨fun k hk => ?_, insE_sorted l i r h.2⟩
      rcases List.mem_cons.1 ((insE_perm l i r).mem_iff.1 hk) with rfl | hk
      · omega
      · exact h.1 k hk
theorem srtE_sorted (l : List Cl) : ∀ r : List Nat, (srtE l r).Pairwise fun i j => tk l i ≤ tk l j
  | [] => List.Pairwise.nil
  | i :: r => by rw [srtE]; exact insE_sorted l i _ (srtE_sorted l r)
theorem effL_is {l : List Cl} (hb : bad l = none) : IsEff l (effL l) := eff_of hb (srtE_perm l _) (srtE_sorted l _)
/-- The maps at the start: none has a pair. -/
def out0 : List Sta := [(-1, [])]
/-- The maps of a history; the error and the index that all functions return. -/
def mapsX (s0 : Md) (l : List Cl) : Except Nat (List Sta) := statesM l (effL l) s0 out0
/-- The maps from one step to another one: each with its first step. -/
def durL {β : Type} (fr hi : Int) : List (Int × β) → List (Int × β)
  | [] => []
  | [s] => if hi < s.1 then [] else [(max s.1 fr, s.2)]
  | s :: z :: r => if hi < s.1 then [] else if z.1 ≤ fr then durL fr hi (z :: r) else (max s.1 fr, s.2) :: durL fr hi (z :: r)
theorem durL_stop {β : Type} {fr hi : Int} {s : Int × β} {r : List (Int × β)} (h : hi < s.1) : durL fr hi (s :: r) = [] := by cases r <;> rw [durL, if_pos h]
theorem durL_last {β : Type} {fr hi : Int} {s : Int × β} (h : ¬ hi < s.1) : durL fr hi [s] = [(max s.1 fr, s.2)] := by rw [durL, if_neg h]
theorem durL_skip {β : Type} {fr hi : Int} {s z : Int × β} {r : List (Int × β)} (h : ¬ hi < s.1) (h2 : z.1 ≤ fr) : durL fr hi (s :: z :: r) = durL fr hi (z :: r) := by rw [durL, if_neg h, if_pos h2]
theorem durL_go {β : Type} {fr hi : Int} {s z : Int × β} {r : List (Int × β)} (h : ¬ hi < s.1) (h2 : ¬ z.1 ≤ fr) : durL fr hi (s :: z :: r) = (max s.1 fr, s.2) :: durL fr hi (z :: r) := by rw [durL, if_neg h, if_neg h2]
theorem durL_map {β γ : Type} (fr hi : Int) (f : β → γ) : ∀ l : List (Int × β), durL fr hi (l.map fun x => (x.1, f x.2)) = (durL fr hi l).map fun x => (x.1, f x.2)
  | [] => rfl
  | [s] => by
    by_cases h : hi < s.1
    · rw [durL_stop h, List.map_cons, durL_stop (s := (s.1, f s.2)) h]; rfl
    · rw [durL_last h, List.map_cons, List.map_nil, durL_last (s := (s.1, f s.2)) h]; rfl
  | s :: z :: r => by
    have ih := durL_map fr hi f (z :: r)
    rw [List.map_cons] at ih ⊢
    rw [List.map_cons]
    by_cases h : hi < s.1
    · rw [durL_stop h, durL_stop (s := (s.1, f s.2)) h]; rfl
    · by_cases h2 : z.1 ≤ fr
      · rw [durL_skip h h2, durL_skip (s := (s.1, f s.2)) (z := (z.1, f z.2)) h h2]; exact ih
      · rw [durL_go h h2, durL_go (s := (s.1, f s.2)) (z := (z.1, f z.2)) h h2, List.map_cons]; exact congrArg _ ih
theorem durL_len {β : Type} (fr hi : Int) : ∀ l : List (Int × β), (durL fr hi l).length ≤ l.length
  | [] => Nat.le_refl _
  | [s] => by
    by_cases h : hi < s.1
    · rw [durL_stop h]; simp
    · rw [durL_last h]; simp
  | s :: z :: r => by
    have ih := durL_len fr hi (z :: r)
    by_cases h : hi < s.1
    · rw [durL_stop h]; simp
    · by_cases h2 : z.1 ≤ fr
      · rw [durL_skip h h2]; simp at ih ⊢; omega
      · rw [durL_go h h2]; simp at ih ⊢; omega
theorem durL_mem {β : Type} {fr hi : Int} : ∀ {l : List (Int × β)} {x : Int × β}, x ∈ durL fr hi l → ∃ s ∈ l, x.1 = max s.1 fr ∧ x.2 = s.2
  | [], x, h => by cases h
  | [s], x, h => by
    by_cases h1 : hi < s.1
    · rw [durL_stop h1] at h; cases h
    · rw [durL_last h1] at h; simp at h; exact ⟨s, by simp, by rw [h], by rw [h]⟩
  | s :: z :: r, x, h => by
    by_cases h1 : hi < s.1
    · rw [durL_stop h1] at h; cases h
    · by_cases h2 : z.1 ≤ fr
      · rw [durL_skip h1 h2] at h
        obtain ⟨t, ht, e⟩ := durL_mem h
        exact ⟨t, List.mem_cons_of_mem _ ht, e⟩
      · rw [durL_go h1 h2] at h
        rcases List.mem_cons.1 h with h | h
        · exact ⟨s, by simp, by rw [h], by rw [h]⟩
        · obtain ⟨t, ht, e⟩ := durL_mem h
          exact ⟨t, List.mem_cons_of_mem _ ht, e⟩
/-- Whether pairs explain a read. -/
def agrB1 (c : Cl) (p : List (Int × Int)) : Bool := decide (hasK c.ka p = c.rf) && decide (valL c.ka p = c.rv)
/-- The least step that explains a read, or -1. -/
def explM (maps : List Sta) (c : Cl) : Int :=
  if c.rk ≠ 0 ∨ c.rc ≠ 0 then -1 else match (durL c.inv c.ans maps).find? fun z => agrB1 c z.2 with
    | some z => z.1
    | none => -1
theorem wacceptM_len (s : Md) (t : Int) (o : Ox) (r : Rs) : (acceptM s t o r).2.th.length = s.th.length := by
  by_cases hr : refM s t o = 0
  · obtain ⟨t, x, rfl, hx, hc, hre, hd⟩ := refM_zero hr
    have hl := (doM_len s (t : Int) o).1
    rw [hd] at hl
    unfold acceptM
    rw [if_neg (by simpa using hr), Int.toNat_natCast, hx]
    simp only
    split
    · rfl
    · split
      · split
        · simp
        · split
          · simp
          · rfl
      · split
        · rfl
        · split
          · exact hl
          · rfl
  · unfold acceptM; rw [if_pos hr]
end Go.Proofs.YtfnapkfdocabcaaGreat
