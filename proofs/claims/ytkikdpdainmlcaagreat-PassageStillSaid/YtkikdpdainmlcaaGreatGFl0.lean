import Derived.Test.YtkikdpdainmlcaaGreatGY
import Derived.Test.YtkikdpdainmlcaaGreatGP
set_option linter.unusedVariables false
set_option linter.unusedSimpArgs false
set_option linter.unnecessarySimpa false
namespace Go.Proofs.YtkikdpdainmlcaaGreat
open Go.RowKit Go.Xt
/-! Prefixes, plain. -/
theorem pfx_th (s : Int) (x : Cl) : (pfx s x).th = x.th := by simp only [pfx]; (repeat' split) <;> rfl
theorem pfx_took (s : Int) (x : Cl) : (pfx s x).took = if s < x.took then -1 else x.took := by simp only [pfx]; (repeat' split) <;> rfl
theorem pfx_ans (s : Int) (x : Cl) : (pfx s x).ans = if s < x.ans then -1 else x.ans := by simp only [pfx]; (repeat' split) <;> rfl
theorem tw_get {s : Int} : ∀ {l : List Cl} {j : Nat} {x : Cl}, (l.takeWhile fun x => decide (x.inv ≤ s))[j]? = some x → l[j]? = some x ∧ x.inv ≤ s ∧ (l.takeWhile fun x => decide (x.inv ≤ s)).take j = l.take j
  | [], j, x, h => by simp at h
  | y :: l, j, x, h => by
    rw [List.takeWhile_cons] at h ⊢
    by_cases hy : y.inv ≤ s
    · rw [if_pos (by simpa using hy)] at h ⊢
      cases j with
      | zero =>
        simp at h; subst h
        exact ⟨rfl, hy, rfl⟩
      | succ j =>
        have := tw_get (l := l) (j := j) (x := x) (by simpa using h)
        exact ⟨by simpa using this.1, this.2.1, by simpa using this.2.2⟩
    · rw [if_neg (by simpa using hy)] at h; simp at h
theorem nodup_len : ∀ (n : Nat) (l : List Nat), l.Nodup → (∀ i ∈ l, i < n) → l.length ≤ n
  | 0, [], _, _ => Nat.le_refl _
  | 0, x :: l, _, h => absurd (h x (by simp)) (by omega)
  | n + 1, l, hd, h => by
    by_cases hm : n ∈ l
    · have h1 := nodup_len n (l.erase n) (hd.erase n) (fun i hi => by
        have h2 := (hd.mem_erase_iff).1 hi
        have := h i h2.2
        omega)
      rw [List.length_erase_of_mem hm] at h1
      omega
    · have := nodup_len n l hd (fun i hi => by
        have := h i hi
        have : i ≠ n := fun e => hm (e ▸ hi)
        omega)
      omega
theorem IsEff.len {l : List Cl} {ys : List Nat} (h : IsEff l ys) : ys.length ≤ l.length :=
  nodup_len _ _ (h.1.imp fun h => fun e => by subst e; omega) fun i hi => by
    obtain ⟨x, hx, _⟩ := (h.2 i).1 hi
    exact (List.getElem?_eq_some_iff.1 hx).1
theorem OwnI.newc {W : World} {base n : Nat} {v : Value} {l : List Int} (h : OwnI W base v l) (hn : l.length = n) : ∃ A c, v = .slice A n c ∧ Is W A n l ∧ n ≤ c ∧ c ≤ 9223372036854775807 ∧ ∀ b o, A = some ⟨b, o, none⟩ → base ≤ b ∧ o = 0 := by
  subst hn
  rcases h.2 with ⟨rfl, h0⟩ | ⟨g, cap, cur, rfl, hb, hg, hn, hm, hcs, ht⟩
  · exact ⟨none, 0, by rw [h0], ⟨rfl, fun hp => absurd hp (by omega)⟩, by omega, by omega, fun b o e => by cases e⟩
  · refine ⟨_, cap, rfl, ⟨rfl, fun _ => ⟨g, 0, rfl, (Array.getElem?_eq_some_iff.1 hg).1, fun i x hx => ?_⟩⟩, hn, hm, fun b o e => by injection e with e; injection e with e1 e2; exact ⟨by omega, by omega⟩⟩
    have hi : i < l.length := (List.getElem?_eq_some_iff.1 hx).1
    have k0 := World.ownsRow.cellAt h i (by omega)
    simpa [ints, hx] using k0
theorem natI_len (l : List Nat) : (natI l).length = l.length := by simp [natI]
theorem natI_get {l : List Nat} {k : Nat} {z : Int} (h : (natI l)[k]? = some z) : ∃ q, z = ((q : Nat) : Int) ∧ l[k]? = some q := by
  rw [natI, List.getElem?_map] at h
  obtain ⟨q, hq, rfl⟩ := Option.map_eq_some_iff.1 h
  exact ⟨q, rfl, hq⟩
end Go.Proofs.YtkikdpdainmlcaaGreat
namespace Go.Proofs.YtkikdpdainmlcaaGreat
open Go.RowKit Go.Xt
/-! What Agrees says of an order. -/
def scE (o : List Int) (n : Nat) : Nat → Nat → Int
  | _, 0 => 0
  | k, f + 1 => match o[k]? with
    | none => 0
    | some x => if x < 0 ∨ (n : Int) ≤ x then 3 else if x ∈ o.take k then 9 else scE o n (k + 1) f
theorem plF_ge (l : List Int) (i : Int) : ∀ k, (i ∉ l ∧ plF l i k = -1) ∨ ∃ j : Nat, plF l i k = ((k + j : Nat) : Int) ∧ l[j]? = some i ∧ i ∉ l.take j := by
  induction l with
  | nil => intro k; exact .inl ⟨by simp, rfl⟩
  | cons y l ih =>
    intro k
    rw [plF]
    by_cases h : y = i
    · rw [if_pos h]; exact .inr ⟨0, by simp, by simp [h], by simp⟩
    · rw [if_neg h]
      rcases ih (k + 1) with ⟨h1, h2⟩ | ⟨j, h1, h2, h3⟩
      · exact .inl ⟨by simp [h1]; exact fun e => h e.symm, h2⟩
      · exact .inr ⟨j + 1, by rw [h1]; congr 1; omega, by simpa using h2, by simp [h3]; exact fun e => h e.symm⟩
theorem plF_cases (l : List Int) (i : Int) : (i ∉ l ∧ plF l i 0 = -1) ∨ ∃ j : Nat, plF l i 0 = (j : Int) ∧ l[j]? = some i ∧ i ∉ l.take j := by
  rcases plF_ge l i 0 with h | ⟨j, h1, h2⟩
  · exact .inl h
  · exact .inr ⟨j, by rw [h1]; simp, h2⟩
theorem mem_take {α : Type} {l : List α} {x : α} {j k : Nat} (h : l[j]? = some x) (hjk : j < k) : x ∈ l.take k :=
  List.mem_of_getElem? (i := j) (by rw [List.getElem?_take, if_pos hjk]; exact h)
theorem plF_lt {l : List Int} {k : Nat} {x : Int} (hx : l[k]? = some x) : (plF l x 0 < (k : Int) ↔ x ∈ l.take k) ∧ 0 ≤ plF l x 0 ∧ plF l x 0 ≤ k := by
  rcases plF_cases l x with ⟨h1, _⟩ | ⟨j, h1, h2, h3⟩
  · exact absurd (List.mem_of_getElem? hx) h1
  · have hjk : j ≤ k := by
      rcases Nat.lt_or_ge k j with h | h
      · exact absurd (mem_take hx h) h3
      · exact h
    rw [h1]
    refine ⟨⟨fun h => mem_take h2 (by omega), fun h => ?_⟩, by omega, by omega⟩
    rcases Nat.eq_or_lt_of_le hjk with rfl | h'
    · exact absurd h h3
    · omega
theorem plF_first {l : List Int} {k : Nat} {x : Int} (hx : l[k]? = some x) (hn : x ∉ l.take k) : plF l x 0 = k := by
  have := plF_lt hx
  have h2 : ¬ plF l x 0 < (k : Int) := fun h => hn (this.1.1 h)
  omega
def okIK (o : List Int) (x y : Cl) (i k : Nat) : Bool := !(bf x y && (decide (0 ≤ plF o k 0) && (decide (plF o i 0 < 0) || decide (plF o k 0 < plF o i 0))))
def OkAll (o : List Int) (l : List Cl) : Prop := ∀ (i k : Nat) (x y : Cl), l[i]? = some x → l[k]? = some y → okIK o x y i k = true
def agrE (o : List Int) (l : List Cl) : Int := if bad l = none then scE o l.length 0 o.length else 15
open Classical in
noncomputable def agrB (o : List Int) (l : List Cl) : Bool := decide (agrE o l = 0 ∧ OkAll o l)
end Go.Proofs.YtkikdpdainmlcaaGreat
namespace Go.Proofs.YtkikdpdainmlcaaGreat
open Go.RowKit Go.Xt
/-! The map of the places, plain. -/
def pm (o : List Int) (k : Nat) : Int → Option Int := fun z => if z ∈ o.take k then some (plF o z 0) else none
theorem plF_mem {o : List Int} {z : Int} : 0 ≤ plF o z 0 ↔ z ∈ o := by
  rcases plF_cases o z with ⟨h1, h2⟩ | ⟨j, h1, h2, _⟩
  · rw [h2]; simp [h1]
  · rw [h1]; simp only [Int.natCast_nonneg, true_iff]; exact List.mem_of_getElem? h2
theorem plF_neg {o : List Int} {z : Int} (h : z ∉ o) : plF o z 0 = -1 := by
  rcases plF_cases o z with ⟨_, h2⟩ | ⟨j, _, h2, _⟩
  · exact h2
  · exact absurd (List.mem_of_getElem? h2) h
theorem okAll_of {o : List Int} {l : List Cl} (h : ∀ (i k : Nat) (x y : Cl), (k : Int) ∈ o → l[i]? = some x → l[k]? = some y → okIK o x y i k = true) : OkAll o l := by
  intro i k x y hx hy
  by_cases hk : (k : Int) ∈ o
  · exact h i k x y hk hx hy
  · unfold okIK; rw [plF_neg hk]; simp
end Go.Proofs.YtkikdpdainmlcaaGreat
namespace Go.Proofs.YtkikdpdainmlcaaGreat
open Go.RowKit Go.Xt
/-! Threads, effects and orders, plain. -/
def sumT (f : Nat → Nat) : Nat → Nat
  | 0 => 0
  | T + 1 => sumT f T + f T
theorem sumT_add (f g : Nat → Nat) : ∀ T, sumT (fun t => f t + g t) T = sumT f T + sumT g T
  | 0 => rfl
  | T + 1 => by simp only [sumT]; rw [sumT_add f g T]; omega
theorem sumT_one {x : Int} : ∀ T : Nat, sumT (fun t => if x = (t : Int) then 1 else 0) T = if 0 ≤ x ∧ x < (T : Int) then 1 else 0
  | 0 => by
    rw [if_neg (by omega)]; rfl
  | T + 1 => by
    rw [sumT, sumT_one T]
    by_cases h : x = (T : Int)
    · rw [if_pos h, if_neg (by omega), if_pos (by omega)]
    · rw [if_neg h]
      by_cases h2 : 0 ≤ x ∧ x < (T : Int)
      · rw [if_pos h2, if_pos (by omega)]
      · rw [if_neg h2, if_neg (by omega)]
/-! Orders without repetition. -/
theorem scE_ok (o : List Int) (n : Nat) (h : ∀ (j : Nat) (x : Int), o[j]? = some x → 0 ≤ x ∧ x < n ∧ x ∉ o.take j) : ∀ f k, scE o n k f = 0
  | 0, _ => rfl
  | f + 1, k => by
    rw [scE]
    rcases hx : o[k]? with _ | x
    · rfl
    · have := h k x hx
      simp only
      rw [if_neg (by omega), if_neg this.2.2]; exact scE_ok o n h f (k + 1)
def Ord (n : Nat) (o : List Nat) : Prop := o.Nodup ∧ ∀ i ∈ o, i < n
theorem Ord.sc {n : Nat} {o : List Nat} (h : Ord n o) : ∀ (j : Nat) (x : Int), (natI o)[j]? = some x → 0 ≤ x ∧ x < n ∧ x ∉ (natI o).take j := by
  intro j x hx
  rw [natI, List.getElem?_map] at hx
  obtain ⟨q, hq, rfl⟩ := Option.map_eq_some_iff.1 hx
  have h1 := h.2 q (List.mem_of_getElem? hq)
  refine ⟨by omega, by omega, fun hm => ?_⟩
  rw [natI, ← List.map_take, List.mem_map] at hm
  obtain ⟨q', hq', e⟩ := hm
  obtain rfl : q' = q := by omega
  obtain ⟨k, hk⟩ := List.mem_iff_getElem?.1 hq'
  rw [List.getElem?_take] at hk
  split at hk
  · rename_i hlt
    obtain ⟨p1, e1⟩ := List.getElem?_eq_some_iff.1 hk
    obtain ⟨p2, e2⟩ := List.getElem?_eq_some_iff.1 hq
    exact List.pairwise_iff_getElem.1 h.1 k j p1 p2 hlt (by rw [e1, e2])
  · cases hk
theorem Ord.agrE {l : List Cl} (hb : bad l = none) {o : List Nat} (h : Ord l.length o) : agrE (natI o) l = 0 := by
  rw [Proofs.YtkikdpdainmlcaaGreat.agrE, if_pos hb]; exact scE_ok _ _ h.sc _ _
theorem Ord.pl {n : Nat} {o : List Nat} (h : Ord n o) {k q : Nat} (hq : o[k]? = some q) : plF (natI o) (q : Int) 0 = k := by
  have hz : (natI o)[k]? = some (q : Int) := by rw [natI, List.getElem?_map, hq]; rfl
  exact plF_first hz (h.sc k _ hz).2.2
theorem natI_mem {o : List Nat} {q : Nat} : (q : Int) ∈ natI o ↔ q ∈ o := by
  rw [natI, List.mem_map]
  constructor
  · rintro ⟨a, h, e⟩; obtain rfl : a = q := by omega
    exact h
  · intro h; exact ⟨q, h, rfl⟩
theorem bf_self {l : List Cl} (hb : bad l = none) {i : Nat} {x : Cl} (hx : l[i]? = some x) : bf x x = false := by
  cases h : bf x x with
  | false => rfl
  | true =>
    simp only [bf, Bool.and_eq_true, decide_eq_true_eq] at h
    have h1 := ans_ge hb hx h.1
    have h2 := took_le hb hx h1.1
    omega
def ordOk (l : List Cl) (o : List Nat) : Prop := ∀ (k q i : Nat) (x y : Cl), o[k]? = some q → l[q]? = some y → l[i]? = some x → i ∈ o.take k ∨ bf x y = false
open Classical in
theorem Ord.agrB {l : List Cl} (hb : bad l = none) {o : List Nat} (h : Ord l.length o) : agrB (natI o) l = true ↔ ordOk l o := by
  rw [Proofs.YtkikdpdainmlcaaGreat.agrB, decide_eq_true_eq]
  constructor
  · rintro ⟨_, h2⟩ k q i x y hq hy hx
    have h3 := h2 i q x y hx hy
    rw [okIK, h.pl hq] at h3
    cases hbf : bf x y with
    | false => exact .inr rfl
    | true =>
      left
      rw [hbf] at h3
      simp at h3
      have hp : 0 ≤ plF (natI o) (i : Int) 0 := h3.1
      have hm : i ∈ o := natI_mem.1 (plF_mem.1 hp)
      obtain ⟨j, hj⟩ := List.mem_iff_getElem?.1 hm
      rw [h.pl hj] at h3
      have hjk : j ≤ k := by omega
      rcases Nat.lt_or_eq_of_le hjk with hlt | rfl
      · exact mem_take hj hlt
      · rw [hj] at hq; injection hq with hq; subst hq
        rw [hx] at hy; injection hy with hy; subst hy
        rw [bf_self hb hx] at hbf; cases hbf
  · intro h2
    refine ⟨h.agrE hb, okAll_of fun i q x y hq hx hy => ?_⟩
    have hm : q ∈ o := natI_mem.1 hq
    obtain ⟨k, hk⟩ := List.mem_iff_getElem?.1 hm
    rw [okIK, h.pl hk]
    rcases h2 k q i x y hk hy hx with h3 | h3
    · obtain ⟨j, hj⟩ := List.mem_iff_getElem?.1 h3
      rw [List.getElem?_take] at hj
      split at hj
      · rename_i hlt
        rw [h.pl hj]; simp; omega
      · cases hj
    · rw [h3]; rfl
theorem IsEff.ord {l : List Cl} {ys : List Nat} (h : IsEff l ys) : Ord l.length ys :=
  ⟨h.1.imp fun h => fun e => by subst e; omega, fun i hi => by
    obtain ⟨x, hx, _⟩ := (h.2 i).1 hi
    exact (List.getElem?_eq_some_iff.1 hx).1⟩
theorem IsEff.ok {l : List Cl} (hb : bad l = none) {ys : List Nat} (h : IsEff l ys) : ordOk l ys := by
  intro k q i x y hq hy hx
  cases hbf : bf x y with
  | false => exact .inr rfl
  | true =>
    left
    simp only [bf, Bool.and_eq_true, decide_eq_true_eq] at hbf
    have h1 := ans_ge hb hx hbf.1
    obtain ⟨y', hy', h3⟩ := (h.2 q).1 (List.mem_of_getElem? hq)
    obtain rfl : y = y' := by rw [hy] at hy'; injection hy'
    have h4 := took_le hb hy h3
    have hm : i ∈ ys := (h.2 i).2 ⟨x, hx, h1.1⟩
    obtain ⟨j, hj⟩ := List.mem_iff_getElem?.1 hm
    have ti : tk l i = x.took := by rw [tk, hx]
    have tq : tk l q = y.took := by rw [tk, hy]
    rcases Nat.lt_or_ge j k with hlt | hge
    · exact mem_take hj hlt
    · exfalso
      obtain ⟨p1, e1⟩ := List.getElem?_eq_some_iff.1 hj
      obtain ⟨p2, e2⟩ := List.getElem?_eq_some_iff.1 hq
      rcases Nat.lt_or_eq_of_le hge with hlt | he
      · have := List.pairwise_iff_getElem.1 h.1 k j p2 p1 hlt
        rw [e1, e2, ti, tq] at this
        omega
      · subst he
        have : i = q := by rw [← e1, ← e2]
        subst this
        rw [hx] at hy; injection hy with hy; subst hy
        omega
end Go.Proofs.YtkikdpdainmlcaaGreat
