/- Plain facts on ranges of whole numbers: normal forms, their uniqueness, and two ways to compute them. No program here. -/
namespace Go.Proofs.Ytdhinclpmmpkhaa.Nm
abbrev S := Int × Int
def key (k : Int) (l : List S) : Prop := ∃ s ∈ l, s.1 ≤ k ∧ k ≤ s.2
def Nf : List S → Prop
  | [] => True
  | s :: l => s.1 ≤ s.2 ∧ (∀ t ∈ l, s.2 + 1 < t.1) ∧ Nf l
theorem key_nil (k : Int) : ¬ key k [] := by rintro ⟨s, hs, _⟩; cases hs
theorem key_cons (k : Int) (s : S) (l : List S) : key k (s :: l) ↔ (s.1 ≤ k ∧ k ≤ s.2) ∨ key k l := by
  simp [key, List.mem_cons]
theorem key_append (k : Int) (a b : List S) : key k (a ++ b) ↔ key k a ∨ key k b := by
  simp only [key, List.mem_append]
  constructor
  · rintro ⟨s, h | h, r⟩
    · exact .inl ⟨s, h, r⟩
    · exact .inr ⟨s, h, r⟩
  · rintro (⟨s, h, r⟩ | ⟨s, h, r⟩)
    · exact ⟨s, .inl h, r⟩
    · exact ⟨s, .inr h, r⟩
theorem Nf.valid {l : List S} : Nf l → ∀ s ∈ l, s.1 ≤ s.2 := by
  induction l with
  | nil => intro _ s hs; cases hs
  | cons t l ih =>
    rintro ⟨h1, _, h3⟩ s hs
    rcases List.mem_cons.1 hs with rfl | hs
    · exact h1
    · exact ih h3 s hs
theorem Nf.unique : ∀ {a b : List S}, Nf a → Nf b → (∀ k, key k a ↔ key k b) → a = b
  | [], [], _, _, _ => rfl
  | [], t :: b, _, hb, h => by
    have := (h t.1).2 ((key_cons _ _ _).2 (.inl ⟨Int.le_refl _, hb.1⟩))
    exact absurd this (key_nil _)
  | s :: a, [], ha, _, h => by
    have := (h s.1).1 ((key_cons _ _ _).2 (.inl ⟨Int.le_refl _, ha.1⟩))
    exact absurd this (key_nil _)
  | s :: a, t :: b, ha, hb, h => by
    have lo : ∀ {s t : S} {a b : List S}, Nf (s :: a) → Nf (t :: b) → (∀ k, key k (s :: a) ↔ key k (t :: b)) → t.1 ≤ s.1 := by
      intro s t a b ha hb h
      rcases (key_cons _ _ _).1 ((h s.1).1 ((key_cons _ _ _).2 (.inl ⟨Int.le_refl _, ha.1⟩))) with h1 | ⟨u, hu, h1, h2⟩
      · exact h1.1
      · have := hb.2.1 u hu; have := hb.1; omega
    have e1 : s.1 = t.1 := by have h1 := lo ha hb h; have h2 := lo hb ha (fun k => (h k).symm); omega
    have hi : ∀ {s t : S} {a b : List S}, s.1 = t.1 → Nf (s :: a) → Nf (t :: b) → (∀ k, key k (s :: a) ↔ key k (t :: b)) → t.2 ≤ s.2 := by
      intro s t a b e ha hb h
      rcases Int.lt_or_le s.2 t.2 with hlt | hle
      · have h0 := ha.1
        rcases (key_cons _ _ _).1 ((h (s.2 + 1)).2 ((key_cons _ _ _).2 (.inl ⟨by omega, by omega⟩))) with h1 | ⟨u, hu, h1, h2⟩
        · omega
        · have := ha.2.1 u hu; omega
      · exact hle
    have e2 : s.2 = t.2 := by have h1 := hi e1 ha hb h; have h2 := hi e1.symm hb ha (fun k => (h k).symm); omega
    have e : s = t := Prod.ext e1 e2
    subst e
    have ht : a = b := by
      refine Nf.unique ha.2.2 hb.2.2 fun k => ?_
      have one : ∀ {a b : List S}, Nf (s :: a) → (∀ k, key k (s :: a) ↔ key k (s :: b)) → key k a → key k b := by
        intro a b ha h hk
        rcases (key_cons _ _ _).1 ((h k).1 ((key_cons _ _ _).2 (.inr hk))) with h1 | h1
        · obtain ⟨u, hu, h2, _⟩ := hk
          have := ha.2.1 u hu; omega
        · exact h1
      exact ⟨one ha h, one hb fun k => (h k).symm⟩
    rw [ht]
/-! ### the reference's way -/
def touch (a b : S) : Bool := decide (a.1 ≤ b.2 ∧ b.1 ≤ a.2) || decide (a.2 + 1 = b.1) || decide (b.2 + 1 = a.1)
def mx (a b : Int) : Int := if a < b then b else a
def mn (a b : Int) : Int := if b < a then b else a
def hull (a b : S) : S := (mn a.1 b.1, mx a.2 b.2)
def join : List S → S → S × List S
  | [], s => (s, [])
  | o :: os, s => if touch o s then join os (hull o s) else ((join os s).1, o :: (join os s).2)
def put : List S → S → List S
  | [], s => [s]
  | o :: os, s => if s.1 < o.1 then s :: o :: os else o :: put os s
def add (out : List S) (s : S) : List S := put (join out s).2 (join out s).1
def norm (l : List S) : List S := l.foldl add []
theorem touch_iff (a b : S) (ha : a.1 ≤ a.2) (hb : b.1 ≤ b.2) : touch a b = true ↔ a.1 ≤ b.2 + 1 ∧ b.1 ≤ a.2 + 1 := by
  simp only [touch, Bool.or_eq_true, decide_eq_true_eq]; omega
theorem hull_spec (a b : S) (ha : a.1 ≤ a.2) (hb : b.1 ≤ b.2) (k : Int) (ht : touch a b = true) : ((hull a b).1 ≤ k ∧ k ≤ (hull a b).2) ↔ (a.1 ≤ k ∧ k ≤ a.2) ∨ (b.1 ≤ k ∧ k ≤ b.2) := by
  rw [touch_iff a b ha hb] at ht
  simp only [hull, mn, mx]
  (repeat' split) <;> omega
theorem hull_valid (a b : S) (ha : a.1 ≤ a.2) (hb : b.1 ≤ b.2) : (hull a b).1 ≤ (hull a b).2 ∧ (hull a b).1 ≤ a.1 ∧ (hull a b).1 ≤ b.1 ∧ a.2 ≤ (hull a b).2 ∧ b.2 ≤ (hull a b).2 ∧ ((hull a b).1 = a.1 ∨ (hull a b).1 = b.1) ∧ ((hull a b).2 = a.2 ∨ (hull a b).2 = b.2) := by
  simp only [hull, mn, mx]
  (repeat' split) <;> omega
/-- All of l lie behind x. -/
theorem join_spec : ∀ (os : List S) (s : S), Nf os → s.1 ≤ s.2 →
    (join os s).1.1 ≤ (join os s).1.2 ∧ (join os s).1.1 ≤ s.1 ∧ s.2 ≤ (join os s).1.2 ∧ Nf (join os s).2 ∧ (∀ o ∈ (join os s).2, o ∈ os) ∧
    (∀ o ∈ (join os s).2, o.2 + 1 < (join os s).1.1 ∨ (join os s).1.2 + 1 < o.1) ∧
    (∀ k, key k ((join os s).1 :: (join os s).2) ↔ key k (s :: os)) ∧
    (∀ x : Int, x < s.1 → (∀ o ∈ os, x < o.1) → x < (join os s).1.1) ∧
    ((∀ o ∈ os, s.2 + 1 < o.1) → (join os s).1 = s)
  | [], s, _, hs => by
    refine ⟨hs, Int.le_refl _, Int.le_refl _, trivial, fun _ h => h, (fun o h => by cases h), fun _ => Iff.rfl, fun x h _ => h, fun _ => rfl⟩
  | o :: os, s, hn, hs => by
    unfold join
    by_cases ht : touch o s = true
    · rw [if_pos ht]
      obtain ⟨hv, h1, h2, h3, h4, h5, h6⟩ := hull_valid o s hn.1 hs
      obtain ⟨a1, a2, a3, a4, a5, a6, a7, a8, a9⟩ := join_spec os (hull o s) hn.2.2 hv
      refine ⟨a1, by omega, by omega, a4, fun u hu => List.mem_cons_of_mem _ (a5 u hu), a6, fun k => ?_, fun x hx hxo => a8 x ?_ fun u hu => hxo u (List.mem_cons_of_mem _ hu), fun hall => ?_⟩
      · rw [a7 k, key_cons, key_cons, key_cons, hull_spec o s hn.1 hs k ht]
        constructor
        · rintro ((h | h) | h)
          · exact .inr (.inl h)
          · exact .inl h
          · exact .inr (.inr h)
        · rintro (h | h | h)
          · exact .inl (.inr h)
          · exact .inl (.inl h)
          · exact .inr h
      · have := hxo o (by simp); omega
      · have := hall o (by simp)
        rw [touch_iff o s hn.1 hs] at ht
        omega
    · have htf : touch o s = false := by simpa using ht
      rw [if_neg ht]
      obtain ⟨a1, a2, a3, a4, a5, a6, a7, a8, a9⟩ := join_spec os s hn.2.2 hs
      have hno : o.2 + 1 < s.1 ∨ s.2 + 1 < o.1 := by
        have := mt (touch_iff o s hn.1 hs).2 ht
        omega
      refine ⟨a1, a2, a3, ⟨hn.1, fun t ht' => hn.2.1 t (a5 t ht'), a4⟩, ?_, ?_, fun k => ?_, fun x hx hxo => a8 x hx fun u hu => hxo u (List.mem_cons_of_mem _ hu), fun hall => a9 fun u hu => hall u (List.mem_cons_of_mem _ hu)⟩
      · intro u hu
        rcases List.mem_cons.1 hu with rfl | hu
        · simp
        · exact List.mem_cons_of_mem _ (a5 u hu)
      · intro u hu
        rcases List.mem_cons.1 hu with rfl | hu
        · rcases hno with h | h
          · exact .inl (a8 _ h hn.2.1)
          · refine .inr ?_
            show (join os s).1.2 + 1 < _
            rw [a9 (fun t ht => by have := hn.2.1 t ht; have := hn.1; omega)]
            exact h
        · exact a6 u hu
      · have := a7 k
        rw [key_cons, key_cons] at this
        rw [key_cons, key_cons, key_cons, key_cons]
        constructor
        · rintro (h | h | h)
          · rcases this.1 (.inl h) with h' | h'
            · exact .inl h'
            · exact .inr (.inr h')
          · exact .inr (.inl h)
          · rcases this.1 (.inr h) with h' | h'
            · exact .inl h'
            · exact .inr (.inr h')
        · rintro (h | h | h)
          · rcases this.2 (.inl h) with h' | h'
            · exact .inl h'
            · exact .inr (.inr h')
          · exact .inr (.inl h)
          · rcases this.2 (.inr h) with h' | h'
            · exact .inl h'
            · exact .inr (.inr h')
theorem put_spec : ∀ (r : List S) (s : S), Nf r → s.1 ≤ s.2 → (∀ o ∈ r, o.2 + 1 < s.1 ∨ s.2 + 1 < o.1) → Nf (put r s) ∧ (∀ k, key k (put r s) ↔ key k (s :: r)) ∧ (∀ u ∈ put r s, u = s ∨ u ∈ r)
  | [], s, _, hs, _ => ⟨⟨hs, (fun _ h => by cases h), trivial⟩, fun _ => Iff.rfl, fun u hu => .inl (by simpa [put] using hu)⟩
  | o :: os, s, hn, hs, ha => by
    unfold put
    split
    · rename_i hlt
      refine ⟨⟨hs, fun t ht => ?_, hn⟩, fun _ => Iff.rfl, fun u hu => by simpa using hu⟩
      have h0 := hn.1
      have ho := ha o (by simp)
      rcases List.mem_cons.1 ht with rfl | ht
      · omega
      · have := hn.2.1 t ht; omega
    · rename_i hge
      obtain ⟨b1, b2, b3⟩ := put_spec os s hn.2.2 hs fun u hu => ha u (List.mem_cons_of_mem _ hu)
      have ho := ha o (by simp)
      have h0 := hn.1
      refine ⟨⟨hn.1, fun t ht => ?_, b1⟩, fun k => ?_, fun u hu => ?_⟩
      · rcases b3 t ht with rfl | ht
        · omega
        · exact hn.2.1 t ht
      · rw [key_cons, b2 k, key_cons, key_cons, key_cons]
        constructor
        · rintro (h | h | h)
          · exact .inr (.inl h)
          · exact .inl h
          · exact .inr (.inr h)
        · rintro (h | h | h)
          · exact .inr (.inl h)
          · exact .inl h
          · exact .inr (.inr h)
      · rcases List.mem_cons.1 hu with rfl | hu
        · exact .inr (by simp)
        · rcases b3 u hu with rfl | hu
          · exact .inl rfl
          · exact .inr (List.mem_cons_of_mem _ hu)
theorem add_spec (out : List S) (s : S) (hn : Nf out) (hs : s.1 ≤ s.2) : Nf (add out s) ∧ ∀ k, key k (add out s) ↔ key k out ∨ (s.1 ≤ k ∧ k ≤ s.2) := by
  obtain ⟨a1, a2, a3, a4, a5, a6, a7, a8, a9⟩ := join_spec out s hn hs
  obtain ⟨b1, b2, b3⟩ := put_spec _ _ a4 a1 a6
  refine ⟨b1, fun k => ?_⟩
  unfold add
  rw [b2 k, a7 k, key_cons]
  exact or_comm
theorem norm_go : ∀ (l : List S) (out : List S), Nf out → (∀ s ∈ l, s.1 ≤ s.2) → Nf (l.foldl add out) ∧ ∀ k, key k (l.foldl add out) ↔ key k out ∨ key k l
  | [], out, hn, _ => ⟨hn, fun k => ⟨fun h => .inl h, fun h => h.elim id fun h => absurd h (key_nil k)⟩⟩
  | s :: l, out, hn, hv => by
    obtain ⟨c1, c2⟩ := add_spec out s hn (hv s (by simp))
    obtain ⟨d1, d2⟩ := norm_go l (add out s) c1 fun u hu => hv u (List.mem_cons_of_mem _ hu)
    refine ⟨d1, fun k => ?_⟩
    show key k (l.foldl add (add out s)) ↔ _
    rw [d2 k, c2 k, key_cons, or_assoc]
theorem norm_spec (l : List S) (hv : ∀ s ∈ l, s.1 ≤ s.2) : Nf (norm l) ∧ ∀ k, key k (norm l) ↔ key k l := by
  obtain ⟨h1, h2⟩ := norm_go l [] trivial hv
  exact ⟨h1, fun k => (h2 k).trans ⟨fun h => h.elim (fun h => absurd h (key_nil k)) id, .inr⟩⟩
theorem norm_eq (l r : List S) (hv : ∀ s ∈ l, s.1 ≤ s.2) (hr : Nf r) (hk : ∀ k, key k r ↔ key k l) : r = norm l :=
  Nf.unique hr (norm_spec l hv).1 fun k => (hk k).trans ((norm_spec l hv).2 k).symm
/-! ### the program's way: over a sorted list -/
def mstep (acc : List S) (s : S) : List S :=
  match acc.getLast? with
  | none => [s]
  | some t => if s.1 ≤ t.2 + 1 then acc.dropLast ++ [(t.1, mx t.2 s.2)] else acc ++ [s]
theorem Nf_snoc : ∀ (a : List S) (t : S), Nf (a ++ [t]) ↔ Nf a ∧ t.1 ≤ t.2 ∧ ∀ u ∈ a, u.2 + 1 < t.1
  | [], t => by simp [Nf]
  | s :: a, t => by
    simp only [List.cons_append, Nf, Nf_snoc a t, List.mem_append, List.mem_cons, List.not_mem_nil, or_false]
    constructor
    · rintro ⟨h1, h2, h3, h4, h5⟩
      refine ⟨⟨h1, fun u hu => h2 u (.inl hu), h3⟩, h4, ?_⟩
      rintro u (rfl | hu)
      · exact h2 t (.inr rfl)
      · exact h5 u hu
    · rintro ⟨⟨h1, h2, h3⟩, h4, h5⟩
      refine ⟨h1, ?_, h3, h4, fun u hu => h5 u (.inr hu)⟩
      rintro u (hu | rfl)
      · exact h2 u hu
      · exact h5 s (.inl rfl)
theorem snoc_of {l : List S} (h : l ≠ []) : ∃ a t, l = a ++ [t] ∧ l.getLast? = some t ∧ l.dropLast = a :=
  ⟨l.dropLast, l.getLast h, (List.dropLast_concat_getLast h).symm, List.getLast?_eq_some_getLast h, rfl⟩
theorem mstep_spec (acc : List S) (s : S) (hn : Nf acc) (hs : s.1 ≤ s.2) (hle : ∀ u ∈ acc, u.1 ≤ s.1) :
    Nf (mstep acc s) ∧ (∀ k, key k (mstep acc s) ↔ key k acc ∨ (s.1 ≤ k ∧ k ≤ s.2)) ∧ (∀ u ∈ mstep acc s, u.1 ≤ s.1) ∧ (mstep acc s).length ≤ acc.length + 1 := by
  unfold mstep
  by_cases h0 : acc = []
  · subst h0
    simp only [List.getLast?_nil]
    exact ⟨⟨hs, (fun _ h => by cases h), trivial⟩, fun k => by rw [key_cons]; exact ⟨fun h => h.elim .inr .inl, fun h => h.elim .inr .inl⟩, fun u hu => by simp at hu; subst hu; exact Int.le_refl _, by simp⟩
  · obtain ⟨a, t, rfl, hl, hd⟩ := snoc_of h0
    simp only [hl, hd]
    obtain ⟨n1, n2, n3⟩ := (Nf_snoc a t).1 hn
    have hts := hle t (by simp)
    split
    · rename_i hm
      refine ⟨(Nf_snoc _ _).2 ⟨n1, ?_, n3⟩, fun k => ?_, fun u hu => ?_, by simp⟩
      · simp only [mx]; split <;> omega
      · rw [key_append, key_append, key_cons, key_cons]
        have : (t.1 ≤ k ∧ k ≤ mx t.2 s.2) ↔ (t.1 ≤ k ∧ k ≤ t.2) ∨ (s.1 ≤ k ∧ k ≤ s.2) := by simp only [mx]; split <;> omega
        simp only [this]
        constructor
        · rintro (h | (h | h) | h)
          · exact .inl (.inl h)
          · exact .inl (.inr (.inl h))
          · exact .inr h
          · exact absurd h (key_nil k)
        · rintro ((h | h | h) | h)
          · exact .inl h
          · exact .inr (.inl (.inl h))
          · exact absurd h (key_nil k)
          · exact .inr (.inl (.inr h))
      · rcases List.mem_append.1 hu with hu | hu
        · exact hle u (by simp [hu])
        · simp at hu; subst hu; exact hts
    · rename_i hm
      refine ⟨(Nf_snoc _ _).2 ⟨hn, hs, fun u hu => ?_⟩, fun k => ?_, fun u hu => ?_, by simp⟩
      · rcases List.mem_append.1 hu with hu | hu
        · have := n3 u hu; omega
        · simp at hu; subst hu; omega
      · rw [key_append, key_cons]
        exact ⟨fun h => h.elim .inl fun h => h.elim .inr fun h => absurd h (key_nil k), fun h => h.elim .inl fun h => .inr (.inl h)⟩
      · rcases List.mem_append.1 hu with hu | hu
        · exact hle u hu
        · simp at hu; subst hu; exact Int.le_refl _
theorem fold_spec : ∀ (l acc : List S), Nf acc → (∀ s ∈ l, s.1 ≤ s.2) → l.Pairwise (fun x y => x.1 ≤ y.1) → (∀ u ∈ acc, ∀ s ∈ l, u.1 ≤ s.1) →
    Nf (l.foldl mstep acc) ∧ ∀ k, key k (l.foldl mstep acc) ↔ key k acc ∨ key k l
  | [], acc, hn, _, _, _ => ⟨hn, fun k => ⟨fun h => .inl h, fun h => h.elim id fun h => absurd h (key_nil k)⟩⟩
  | s :: l, acc, hn, hv, hp, hle => by
    obtain ⟨m1, m2, m3, _⟩ := mstep_spec acc s hn (hv s (by simp)) fun u hu => hle u hu s (by simp)
    obtain ⟨p1, p2⟩ := List.pairwise_cons.1 hp
    obtain ⟨d1, d2⟩ := fold_spec l (mstep acc s) m1 (fun u hu => hv u (List.mem_cons_of_mem _ hu)) p2 fun u hu v hv' => Int.le_trans (m3 u hu) (p1 v hv')
    refine ⟨d1, fun k => ?_⟩
    show key k (l.foldl mstep (mstep acc s)) ↔ _
    rw [d2 k, m2 k, key_cons, or_assoc]
theorem fold_norm (l d : List S) (hv : ∀ s ∈ l, s.1 ≤ s.2) (hperm : d.Perm l) (hsort : d.Pairwise fun x y => x.1 ≤ y.1) : d.foldl mstep [] = norm l := by
  obtain ⟨h1, h2⟩ := fold_spec d [] trivial (fun s hs => hv s (hperm.mem_iff.1 hs)) hsort (fun u hu => by cases hu)
  refine norm_eq l _ hv h1 fun k => ?_
  rw [h2 k]
  constructor
  · rintro (h | ⟨s, hs, h⟩)
    · exact absurd h (key_nil k)
    · exact ⟨s, hperm.mem_iff.1 hs, h⟩
  · rintro ⟨s, hs, h⟩
    exact .inr ⟨s, hperm.mem_iff.2 hs, h⟩
end Go.Proofs.Ytdhinclpmmpkhaa.Nm
