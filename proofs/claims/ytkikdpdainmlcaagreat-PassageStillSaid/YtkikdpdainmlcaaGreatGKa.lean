import Derived.Test.YtkikdpdainmlcaaGreatGRg
import Derived.Test.YtkikdpdainmlcaaGreatGFl0
set_option linter.unusedVariables false
set_option linter.unusedSimpArgs false
set_option linter.unnecessarySimpa false
namespace Go.Proofs.YtkikdpdainmlcaaGreat
open Go.RowKit Go.Xt
/-! Linearizations, plain: no program in sight. -/
def opC (c : Cl) : Ox := ⟨c.kd, c.ka, c.kb, c.kc, c.kx, c.ky, c.kz⟩
def rsC (c : Cl) : Rs := ⟨c.re, c.rf, c.rk, c.rv, c.rc⟩
def nextM (s : Md) (c : Cl) : Option Md :=
  if c.ans < 0 then some (doM s c.th (opC c)).2
  else if (acceptM s c.th (opC c) (rsC c)).1 = true then some (acceptM s c.th (opC c) (rsC c)).2 else none
def mayB (l : List Cl) (o : List Nat) (i : Nat) : Bool :=
  decide (i ∉ o) && (List.range l.length).all fun k => match l[k]?, l[i]? with
    | some a, some b => !bf a b || decide (k ∈ o)
    | _, _ => true
def fullB (l : List Cl) (o : List Nat) : Bool :=
  (List.range l.length).all fun i => match l[i]? with
    | some c => decide (c.ans < 0) || decide (i ∈ o)
    | none => true
theorem mayB_iff {l : List Cl} {o : List Nat} {i : Nat} {b : Cl} (hb : l[i]? = some b) : mayB l o i = true ↔ i ∉ o ∧ ∀ k a, l[k]? = some a → bf a b = true → k ∈ o := by
  simp only [mayB, Bool.and_eq_true, decide_eq_true_eq, List.all_eq_true, List.mem_range]
  constructor
  · rintro ⟨h1, h2⟩
    refine ⟨h1, fun k a ha hab => ?_⟩
    have := h2 k (List.getElem?_eq_some_iff.1 ha).1
    rw [ha, hb] at this
    simpa [hab] using this
  · rintro ⟨h1, h2⟩
    refine ⟨h1, fun k hk => ?_⟩
    rw [List.getElem?_eq_getElem hk, hb]
    simp only
    cases hab : bf l[k] b with
    | false => rfl
    | true => simpa using h2 k _ (List.getElem?_eq_getElem hk) hab
def exts (l : List Cl) : Nat → List Nat → Md → List (List Nat)
  | 0, o, _ => if fullB l o then [o] else []
  | f + 1, o, s => (if fullB l o then [o] else []) ++ (List.range l.length).flatMap fun i =>
      if mayB l o i then match l[i]?.bind (nextM s) with
        | some s' => exts l f (o ++ [i]) s'
        | none => []
      else []
def runM (l : List Cl) : Md → List Nat → Option Md
  | s, [] => some s
  | s, i :: o => match l[i]?.bind (nextM s) with
    | some s' => runM l s' o
    | none => none
def Goes (l : List Cl) : List Nat → List Nat → Prop
  | _, [] => True
  | o, i :: t => i < l.length ∧ mayB l o i = true ∧ Goes l (o ++ [i]) t
def Lin (l : List Cl) (s : Md) (z : List Nat) : Prop := Ord l.length z ∧ ordOk l z ∧ (runM l s z).isSome = true ∧ fullB l z = true
end Go.Proofs.YtkikdpdainmlcaaGreat
namespace Go.Proofs.YtkikdpdainmlcaaGreat
open Go.RowKit Go.Xt
/-! Witness, plain: no program in sight. -/
abbrev Sta := Int × List (Int × Int)
def readB (c : Cl) : Bool := decide (c.kd = 3) && (decide (0 ≤ c.ans) && decide (c.re = 0))
def writesB (k : Int) : Bool := decide (4 ≤ k) && decide (k ≤ 9)
def lateB (c : Cl) : Bool := (decide (c.ans < 0) || decide (c.took < c.ans)) && (!writesB c.kd || (decide (0 ≤ c.ans) && !decide (c.re = 0)))
def fitsM (s : Md) (c : Cl) : Option Md :=
  if lateB c = true then none
  else if readB c = true then if (doM s c.th (opC c)).1.err = 0 then some (doM s c.th (opC c)).2 else none
  else nextM s c
def putS (out : List Sta) (step : Int) (p : List (Int × Int)) : List Sta :=
  match out.getLast? with
  | some z => if z.2 = p then out else out ++ [(step, p)]
  | none => out ++ [(step, p)]
def statesM (l : List Cl) : List Nat → Md → List Sta → Except Nat (List Sta)
  | [], _, out => .ok out
  | i :: t, s, out => match l[i]? with
    | none => .error i
    | some c => match fitsM s c with
      | none => .error i
      | some s' => statesM l t s' (putS out c.took s'.l)
def insE (l : List Cl) (i : Nat) : List Nat → List Nat
  | [] => [i]
  | j :: r => if tk l i ≤ tk l j then i :: j :: r else j :: insE l i r
def srtE (l : List Cl) : List Nat → List Nat
  | [] => []
  | i :: r => insE l i (srtE l r)
def effL (l : List Cl) : List Nat := srtE l (idxK l l.length)
theorem insE_perm (l : List Cl) (i : Nat) : ∀ r, (insE l i r).Perm (i :: r)
  | [] => List.Perm.refl _
  | j :: r => by
    rw [insE]; split
    · exact List.Perm.refl _
    · exact ((insE_perm l i r).cons j).trans (List.Perm.swap i j r)
theorem srtE_perm (l : List Cl) : ∀ r, (srtE l r).Perm r
  | [] => List.Perm.refl _
  | i :: r => by rw [srtE]; exact (insE_perm l i _).trans ((srtE_perm l r).cons i)
theorem insE_sorted (l : List Cl) (i : Nat) : ∀ r : List Nat, (r.Pairwise fun i j => tk l i ≤ tk l j) → (insE l i r).Pairwise fun i j => tk l i ≤ tk l j
  | [], _ => by simp [insE]
  | j :: r, h => by
    rw [List.pairwise_cons] at h
    rw [insE]; split
    · rename_i hij
      rw [List.pairwise_cons]
      refine ⟨fun k hk => ?_, List.pairwise_cons.2 h⟩
      rcases List.mem_cons.1 hk with rfl | hk
      · exact hij
      · exact Int.le_trans hij (h.1 k hk)
    · rename_i hij
      rw [List.pairwise_cons]
      refine ⟨fun k hk => ?_, insE_sorted l i r h.2⟩
      rcases List.mem_cons.1 ((insE_perm l i r).mem_iff.1 hk) with rfl | hk
      · omega
      · exact h.1 k hk
theorem srtE_sorted (l : List Cl) : ∀ r : List Nat, (srtE l r).Pairwise fun i j => tk l i ≤ tk l j
  | [] => List.Pairwise.nil
  | i :: r => by rw [srtE]; exact insE_sorted l i _ (srtE_sorted l r)
theorem effL_is {l : List Cl} (hb : bad l = none) : IsEff l (effL l) := eff_of hb (srtE_perm l _) (srtE_sorted l _)
def out0 : List Sta := [(-1, [])]
def mapsX (s0 : Md) (l : List Cl) : Except Nat (List Sta) := statesM l (effL l) s0 out0
def durL {β : Type} (fr hi : Int) : List (Int × β) → List (Int × β)
  | [] => []
  | [s] => if hi < s.1 then [] else [(max s.1 fr, s.2)]
  | s :: z :: r => if hi < s.1 then [] else if z.1 ≤ fr then durL fr hi (z :: r) else (max s.1 fr, s.2) :: durL fr hi (z :: r)
theorem durL_stop {β : Type} {fr hi : Int} {s : Int × β} {r : List (Int × β)} (h : hi < s.1) : durL fr hi (s :: r) = [] := by cases r <;> rw [durL, if_pos h]
theorem durL_last {β : Type} {fr hi : Int} {s : Int × β} (h : ¬ hi < s.1) : durL fr hi [s] = [(max s.1 fr, s.2)] := by rw [durL, if_neg h]
theorem durL_skip {β : Type} {fr hi : Int} {s z : Int × β} {r : List (Int × β)} (h : ¬ hi < s.1) (h2 : z.1 ≤ fr) : durL fr hi (s :: z :: r) = durL fr hi (z :: r) := by rw [durL, if_neg h, if_pos h2]
theorem durL_go {β : Type} {fr hi : Int} {s z : Int × β} {r : List (Int × β)} (h : ¬ hi < s.1) (h2 : ¬ z.1 ≤ fr) : durL fr hi (s :: z :: r) = (max s.1 fr, s.2) :: durL fr hi (z :: r) := by rw [durL, if_neg h, if_neg h2]
theorem durL_map {β γ : Type} (fr hi : Int) (f : β → γ) : ∀ l : List (Int × β), durL fr hi (l.map fun x => (x.1, f x.2)) = (durL fr hi l).map fun x => (x.1, f x.2)
  | [] => rfl
  | [s] => by
    by_cases h : hi < s.1
    · rw [durL_stop h, List.map_cons, durL_stop (s := (s.1, f s.2)) h]; rfl
    · rw [durL_last h, List.map_cons, List.map_nil, durL_last (s := (s.1, f s.2)) h]; rfl
  | s :: z :: r => by
    have ih := durL_map fr hi f (z :: r)
    rw [List.map_cons] at ih ⊢
    rw [List.map_cons]
    by_cases h : hi < s.1
    · rw [durL_stop h, durL_stop (s := (s.1, f s.2)) h]; rfl
    · by_cases h2 : z.1 ≤ fr
      · rw [durL_skip h h2, durL_skip (s := (s.1, f s.2)) (z := (z.1, f z.2)) h h2]; exact ih
      · rw [durL_go h h2, durL_go (s := (s.1, f s.2)) (z := (z.1, f z.2)) h h2, List.map_cons]; exact congrArg _ ih
def agrB1 (c : Cl) (p : List (Int × Int)) : Bool := decide (hasK c.ka p = c.rf) && decide (valL c.ka p = c.rv)
def explM (maps : List Sta) (c : Cl) : Int :=
  if c.rk ≠ 0 ∨ c.rc ≠ 0 then -1 else match (durL c.inv c.ans maps).find? fun z => agrB1 c z.2 with
    | some z => z.1
    | none => -1
theorem wacceptM_len (s : Md) (t : Int) (o : Ox) (r : Rs) : (acceptM s t o r).2.th.length = s.th.length := by
  by_cases hr : refM s t o = 0
  · obtain ⟨t, x, rfl, hx, hc, hre, hd⟩ := refM_zero hr
    have hl := (doM_len s (t : Int) o).1
    rw [hd] at hl
    unfold acceptM
    rw [if_neg (by simpa using hr), Int.toNat_natCast, hx]
    simp only
    split
    · rfl
    · split
      · split
        · simp
        · split
          · simp
          · rfl
      · split
        · rfl
        · split
          · exact hl
          · rfl
  · unfold acceptM; rw [if_pos hr]
end Go.Proofs.YtkikdpdainmlcaaGreat
namespace Go.Proofs.YtkikdpdainmlcaaGreat
open Go.RowKit Go.Xt
/-! Witness, plain: the map after a step; the least step that explains a read. -/
def atF (cur : List (Int × Int)) (maps : List Sta) (st : Int) : List (Int × Int) := maps.foldl (fun c s => if s.1 ≤ st then s.2 else c) cur
theorem atF_app (cur : List (Int × Int)) (a b : List Sta) (st : Int) : atF cur (a ++ b) st = atF (atF cur a st) b st := by unfold atF; rw [List.foldl_append]
theorem atF_cons (cur : List (Int × Int)) (s : Sta) (r : List Sta) (st : Int) : atF cur (s :: r) st = atF (if s.1 ≤ st then s.2 else cur) r st := rfl
theorem atF_late (cur : List (Int × Int)) : ∀ (maps : List Sta) (st : Int), (∀ s ∈ maps, st < s.1) → atF cur maps st = cur
  | [], _, _ => rfl
  | s :: r, st, h => by
    rw [atF_cons, if_neg (by have := h s (by simp); omega)]
    exact atF_late cur r st (fun t ht => h t (by simp [ht]))
def ascS (maps : List Sta) : Prop := maps.Pairwise fun a b => a.1 < b.1
structure Maps (maps : List Sta) : Prop where
  asc_ : ascS maps
  head : ∃ p r, maps = (-1, p) :: r
def stAt (l : List Cl) : List Nat → Md → Int → Md
  | [], s, _ => s
  | i :: t, s, st => match l[i]? with
    | none => s
    | some c => if c.took ≤ st then match fitsM s c with
      | some s' => stAt l t s' st
      | none => s
      else s
structure InvS (out : List Sta) (s : Md) (T : Int) : Prop where
  asc_ : ascS out
  head : ∃ p r, out = (-1, p) :: r
  le : ∀ z ∈ out, z.1 ≤ T
  last : ∃ z, out.getLast? = some z ∧ z.2 = s.l
theorem InvS.at {out : List Sta} {s : Md} {T : Int} (h : InvS out s T) (cur : List (Int × Int)) {st : Int} (hst : T ≤ st) : atF cur out st = s.l := by
  obtain ⟨z, hz, hzs⟩ := h.last
  obtain ⟨o, rfl⟩ : ∃ o, out = o ++ [z] := by
    rw [List.getLast?_eq_some_iff] at hz; exact hz
  rw [atF_app, atF_cons, if_pos (by have := h.le z (by simp); omega), ← hzs]; rfl
theorem InvS.put {out : List Sta} {s s' : Md} {T f : Int} (h : InvS out s T) (hf : T < f) : InvS (putS out f s'.l) s' f ∧ ∀ cur st, st < f → atF cur (putS out f s'.l) st = atF cur out st := by
  obtain ⟨z, hz, hzs⟩ := h.last
  by_cases he : z.2 = s'.l
  · have e : putS out f s'.l = out := by unfold putS; rw [hz]; simp [he]
    rw [e]
    exact ⟨⟨h.asc_, h.head, fun y hy => by have := h.le y hy; omega, z, hz, he⟩, fun _ _ _ => rfl⟩
  · have e : putS out f s'.l = out ++ [(f, s'.l)] := by unfold putS; rw [hz]; simp [he]
    rw [e]
    refine ⟨⟨?_, ?_, fun y hy => ?_, (f, s'.l), by simp, rfl⟩, fun cur st hst => ?_⟩
    · unfold ascS
      rw [List.pairwise_append]
      exact ⟨h.asc_, by simp, fun a ha b hb => by simp at hb; subst hb; have := h.le a ha; show a.1 < f; omega⟩
    · obtain ⟨p, r, e⟩ := h.head
      exact ⟨p, r ++ [(f, s'.l)], by rw [e]; rfl⟩
    · rcases List.mem_append.1 hy with hy | hy
      · have := h.le y hy; omega
      · simp at hy; subst hy; exact Int.le_refl _
    · rw [atF_app, atF_cons, if_neg (by show ¬ f ≤ st; omega)]; rfl
def runF (l : List Cl) : List Nat → Md → Option Md
  | [], s => some s
  | i :: t, s => match l[i]? with
    | none => none
    | some c => match fitsM s c with
      | none => none
      | some s' => runF l t s'
/-! What fits changes. -/
theorem write_acc {s : Md} {t : Int} {o : Ox} {r : Rs} (hk : 4 ≤ o.k ∧ o.k ≤ 9) (he : r.err = 0) (h : (acceptM s t o r).1 = true) : (acceptM s t o r).2 = (doM s t o).2 := by
  by_cases hr : refM s t o = 0
  · obtain ⟨n, x, rfl, hx, hc, hre, hd⟩ := refM_zero hr
    rw [hd]
    unfold acceptM at h ⊢
    rw [if_neg (fun h => h hr), Int.toNat_natCast, hx] at h ⊢
    simp only at h ⊢
    rw [if_neg (by rw [he, gives_zero]; simp), if_neg (by omega), if_neg (by omega)] at h ⊢
    by_cases h4 : (perfM s n x o).1 = r
    · rw [if_pos h4]
    · rw [if_neg h4] at h; cases h
  · unfold acceptM at h
    rw [if_pos hr, he] at h
    simp at h
    exact absurd h.2.symm hr
end Go.Proofs.YtkikdpdainmlcaaGreat
