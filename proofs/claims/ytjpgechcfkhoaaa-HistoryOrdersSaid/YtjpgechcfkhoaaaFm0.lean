import Derived.Test.YtjpgechcfkhoaaaFl0
import Derived.Test.YtjpgechcfkhoaaaS
import Derived.Test.YtjpgechcfkhoaaaFd
import Derived.Test.YtjpgechcfkhoaaaEa
namespace Go.Proofs.Ytjpgechcfkhoaaa
open Go.RowKit Go.Xt
/-! Threads, effects and orders, plain. -/
theorem filter_at {α : Type} (p : α → Bool) : ∀ {l : List α} {i : Nat} {y : α}, (l.filter p)[i]? = some y → ∃ j, l[j]? = some y ∧ p y = true ∧ (l.take j).filter p = (l.filter p).take i
  | [], i, y, h => by simp at h
  | x :: l, i, y, h => by
    by_cases hx : p x = true
    · rw [List.filter_cons_of_pos hx] at h ⊢
      cases i with
      | zero => simp at h; subst h; exact ⟨0, rfl, hx, by simp⟩
      | succ i =>
        obtain ⟨j, h1, h2, h3⟩ := filter_at p (l := l) (i := i) (y := y) (by simpa using h)
        exact ⟨j + 1, by simpa using h1, h2, by rw [List.take_succ_cons, List.filter_cons_of_pos hx, h3, List.take_succ_cons]⟩
    · rw [List.filter_cons_of_neg hx] at h ⊢
      obtain ⟨j, h1, h2, h3⟩ := filter_at p (l := l) (i := i) (y := y) h
      exact ⟨j + 1, by simpa using h1, h2, by rw [List.take_succ_cons, List.filter_cons_of_neg hx, h3]⟩
theorem ofT_at {t : Int} {l : List Cl} {i : Nat} {y : Cl} (h : (ofT t l)[i]? = some y) : ∃ j, l[j]? = some y ∧ y.th = t ∧ (ofT t (l.take j)).length = i := by
  obtain ⟨j, h1, h2, h3⟩ := filter_at _ h
  refine ⟨j, h1, by simpa using h2, ?_⟩
  rw [ofT, h3, List.length_take]
  have := (List.getElem?_eq_some_iff.1 h).1
  rw [ofT] at this
  omega
theorem ofT_mono (t : Int) (l : List Cl) {j k : Nat} (h : j ≤ k) : (ofT t (l.take j)).length ≤ (ofT t (l.take k)).length := by
  have : l.take j = (l.take k).take j := by rw [List.take_take, Nat.min_eq_left h]
  rw [this]
  exact ((List.take_sublist j (l.take k)).filter _).length_le
theorem thr_at {t : Int} {l : List Cl} (hb : bad l = none) {i : Nat} {y : Cl} (h : (ofT t l)[i]? = some y) : y.th = t ∧ y.ix = (i : Nat) := by
  obtain ⟨j, h1, h2, h3⟩ := ofT_at h
  refine ⟨h2, ?_⟩
  rw [ix_at hb h1, h2, h3]
theorem thr_prec {t : Int} {l : List Cl} (hb : bad l = none) {i : Nat} {x y : Cl} (hx : (ofT t l)[i]? = some x) (hy : (ofT t l)[i + 1]? = some y) : bf x y = true := by
  obtain ⟨j, h1, h2, h3⟩ := ofT_at hx
  obtain ⟨k, h4, h5, h6⟩ := ofT_at hy
  have hjk : j < k := by
    rcases Nat.lt_or_ge j k with h | h
    · exact h
    · have := ofT_mono t l h; omega
  exact prec hb k j x y hjk h1 h4 (by rw [h2, h5])
theorem pendK_cnt (l : List Cl) : ∀ k, (pendK l k).length = ((l.take k).filter fun x => decide (x.ans < 0)).length
  | 0 => by simp [pendK]
  | k + 1 => by
    rw [pendK]
    rcases hx : l[k]? with _ | x
    · have hk : l.length ≤ k := List.getElem?_eq_none_iff.1 hx
      simp only
      rw [pendK_cnt l k, List.take_of_length_le hk, List.take_of_length_le (by omega)]
    · simp only
      rw [ftake _ hx, List.length_append]
      by_cases h : x.ans < 0
      · rw [if_pos h, List.length_append, pendK_cnt l k]; simp [h]
      · rw [if_neg h, pendK_cnt l k]; simp [h]
/-- At most the last call of a thread is pending. -/
theorem pend_last {t : Int} {l : List Cl} (hb : bad l = none) : pendK (ofT t l) (ofT t l).length = [] ∨ pendK (ofT t l) (ofT t l).length = [((ofT t l).length : Int) - 1] := by
  have h0 : ∀ k, k + 1 ≤ (ofT t l).length → pendK (ofT t l) k = [] := by
    intro k
    induction k with
    | zero => intro _; rfl
    | succ k ih =>
      intro hk
      have hx := List.getElem?_eq_getElem (l := ofT t l) (i := k) (by omega)
      have hy := List.getElem?_eq_getElem (l := ofT t l) (i := k + 1) (by omega)
      have hp := thr_prec hb hx hy
      simp only [bf, Bool.and_eq_true, decide_eq_true_eq] at hp
      rw [pendK, hx]
      simp only
      rw [if_neg (by omega), ih (by omega)]
  rcases Nat.eq_zero_or_pos (ofT t l).length with h | h
  · left; rw [h]; rfl
  · obtain ⟨k, hk⟩ : ∃ k, (ofT t l).length = k + 1 := ⟨(ofT t l).length - 1, by omega⟩
    have hx := List.getElem?_eq_getElem (l := ofT t l) (i := k) (by omega)
    rw [hk, pendK, hx]
    simp only
    rw [h0 k (by omega)]
    by_cases ha : ((ofT t l)[k]'(by omega)).ans < 0
    · rw [if_pos ha]; right; simp
    · rw [if_neg ha]; left; rfl
def sumT (f : Nat → Nat) : Nat → Nat
  | 0 => 0
  | T + 1 => sumT f T + f T
theorem sumT_add (f g : Nat → Nat) : ∀ T, sumT (fun t => f t + g t) T = sumT f T + sumT g T
  | 0 => rfl
  | T + 1 => by simp only [sumT]; rw [sumT_add f g T]; omega
theorem sumT_one {x : Int} : ∀ T : Nat, sumT (fun t => if x = (t : Int) then 1 else 0) T = if 0 ≤ x ∧ x < (T : Int) then 1 else 0
  | 0 => by
    rw [if_neg (by omega)]; rfl
  | T + 1 => by
    rw [sumT, sumT_one T]
    by_cases h : x = (T : Int)
    · rw [if_pos h, if_neg (by omega), if_pos (by omega)]
    · rw [if_neg h]
      by_cases h2 : 0 ≤ x ∧ x < (T : Int)
      · rw [if_pos h2, if_pos (by omega)]
      · rw [if_neg h2, if_neg (by omega)]
theorem sum_ofT (T : Nat) : ∀ (l : List Cl), (∀ x ∈ l, 0 ≤ x.th ∧ x.th < (T : Int)) → sumT (fun t => (ofT (t : Int) l).length) T = l.length
  | [], _ => by
    have : ∀ T, sumT (fun _ => 0) T = 0 := fun T => by induction T with | zero => rfl | succ n ih => simp [sumT, ih]
    exact this T
  | x :: l, h => by
    have h1 := sum_ofT T l (fun y hy => h y (by simp [hy]))
    have h2 := sumT_one (x := x.th) T
    rw [if_pos (h x (by simp))] at h2
    have h3 : (fun t : Nat => (ofT (t : Int) (x :: l)).length) = fun t : Nat => (ofT (t : Int) l).length + if x.th = (t : Int) then 1 else 0 := by
      funext t
      simp only [ofT, List.filter_cons]
      by_cases hx : x.th = (t : Int)
      · simp [hx]
      · simp [hx]
    rw [h3, sumT_add, h1, h2]; rfl
theorem th_all {l : List Cl} (hb : bad l = none) : ∀ x ∈ l, 0 ≤ x.th ∧ x.th < ((64 : Nat) : Int) := fun x hx => by
  obtain ⟨j, hj⟩ := List.mem_iff_getElem?.1 hx
  exact th_range hb hj
theorem sum_all {l : List Cl} (hb : bad l = none) : sumT (fun t => (ofT (t : Int) l).length) 64 = l.length := sum_ofT 64 l (th_all hb)
theorem sum_pend {l : List Cl} (hb : bad l = none) : sumT (fun t => (pendK (ofT (t : Int) l) (ofT (t : Int) l).length).length) 64 = (pendK l l.length).length := by
  have h := sum_ofT 64 (l.filter fun x => decide (x.ans < 0)) (fun x hx => th_all hb x (List.mem_filter.1 hx).1)
  rw [pendK_cnt, List.take_length, ← h]
  refine congrArg (fun f => sumT f 64) ?_
  funext t
  rw [pendK_cnt, List.take_length]
  simp only [ofT, List.filter_filter]
  refine congrArg (fun f => (List.filter f l).length) ?_
  funext x
  exact Bool.and_comm _ _
/-! Orders without repetition. -/
theorem scE_ok (o : List Int) (n : Nat) (h : ∀ (j : Nat) (x : Int), o[j]? = some x → 0 ≤ x ∧ x < n ∧ x ∉ o.take j) : ∀ f k, scE o n k f = 0
  | 0, _ => rfl
  | f + 1, k => by
    rw [scE]
    rcases hx : o[k]? with _ | x
    · rfl
    · have := h k x hx
      simp only
      rw [if_neg (by omega), if_neg this.2.2]; exact scE_ok o n h f (k + 1)
/-- An order of indices: valid, none twice. -/
def Ord (n : Nat) (o : List Nat) : Prop := o.Nodup ∧ ∀ i ∈ o, i < n
theorem Ord.sc {n : Nat} {o : List Nat} (h : Ord n o) : ∀ (j : Nat) (x : Int), (natI o)[j]? = some x → 0 ≤ x ∧ x < n ∧ x ∉ (natI o).take j := by
  intro j x hx
  rw [natI, List.getElem?_map] at hx
  obtain ⟨q, hq, rfl⟩ := Option.map_eq_some_iff.1 hx
  have h1 := h.2 q (List.mem_of_getElem? hq)
  refine ⟨by omega, by omega, fun hm => ?_⟩
  rw [natI, ← List.map_take, List.mem_map] at hm
  obtain ⟨q', hq', e⟩ := hm
  obtain rfl : q' = q := by omega
  obtain ⟨k, hk⟩ := List.mem_iff_getElem?.1 hq'
  rw [List.getElem?_take] at hk
  split at hk
  · rename_i hlt
    obtain ⟨p1, e1⟩ := List.getElem?_eq_some_iff.1 hk
    obtain ⟨p2, e2⟩ := List.getElem?_eq_some_iff.1 hq
    exact List.pairwise_iff_getElem.1 h.1 k j p1 p2 hlt (by rw [e1, e2])
  · cases hk
theorem Ord.agrE {l : List Cl} (hb : bad l = none) {o : List Nat} (h : Ord l.length o) : agrE (natI o) l = 0 := by
  rw [Proofs.Ytjpgechcfkhoaaa.agrE, if_pos hb]; exact scE_ok _ _ h.sc _ _
theorem Ord.pl {n : Nat} {o : List Nat} (h : Ord n o) {k q : Nat} (hq : o[k]? = some q) : plF (natI o) (q : Int) 0 = k := by
  have hz : (natI o)[k]? = some (q : Int) := by rw [natI, List.getElem?_map, hq]; rfl
  exact plF_first hz (h.sc k _ hz).2.2
theorem natI_mem {o : List Nat} {q : Nat} : (q : Int) ∈ natI o ↔ q ∈ o := by
  rw [natI, List.mem_map]
  constructor
  · rintro ⟨a, h, e⟩; obtain rfl : a = q := by omega
    exact h
  · intro h; exact ⟨q, h, rfl⟩
theorem bf_self {l : List Cl} (hb : bad l = none) {i : Nat} {x : Cl} (hx : l[i]? = some x) : bf x x = false := by
  cases h : bf x x with
  | false => rfl
  | true =>
    simp only [bf, Bool.and_eq_true, decide_eq_true_eq] at h
    have h1 := ans_ge hb hx h.1
    have h2 := took_le hb hx h1.1
    omega
/-- What an order must do for each of its calls. -/
def ordOk (l : List Cl) (o : List Nat) : Prop := ∀ (k q i : Nat) (x y : Cl), o[k]? = some q → l[q]? = some y → l[i]? = some x → i ∈ o.take k ∨ bf x y = false
open Classical in
theorem Ord.agrB {l : List Cl} (hb : bad l = none) {o : List Nat} (h : Ord l.length o) : agrB (natI o) l = true ↔ ordOk l o := by
  rw [Proofs.Ytjpgechcfkhoaaa.agrB, decide_eq_true_eq]
  constructor
  · rintro ⟨_, h2⟩ k q i x y hq hy hx
    have h3 := h2 i q x y hx hy
    rw [okIK, h.pl hq] at h3
    cases hbf : bf x y with
    | false => exact .inr rfl
    | true =>
      left
      rw [hbf] at h3
      simp at h3
      have hp : 0 ≤ plF (natI o) (i : Int) 0 := h3.1
      have hm : i ∈ o := natI_mem.1 (plF_mem.1 hp)
      obtain ⟨j, hj⟩ := List.mem_iff_getElem?.1 hm
      rw [h.pl hj] at h3
      have hjk : j ≤ k := by omega
      rcases Nat.lt_or_eq_of_le hjk with hlt | rfl
      · exact mem_take hj hlt
      · rw [hj] at hq; injection hq with hq; subst hq
        rw [hx] at hy; injection hy with hy; subst hy
        rw [bf_self hb hx] at hbf; cases hbf
  · intro h2
    refine ⟨h.agrE hb, okAll_of fun i q x y hq hx hy => ?_⟩
    have hm : q ∈ o := natI_mem.1 hq
    obtain ⟨k, hk⟩ := List.mem_iff_getElem?.1 hm
    rw [okIK, h.pl hk]
    rcases h2 k q i x y hk hy hx with h3 | h3
    · obtain ⟨j, hj⟩ := List.mem_iff_getElem?.1 h3
      rw [List.getElem?_take] at hj
      split at hj
      · rename_i hlt
        rw [h.pl hj]; simp; omega
      · cases hj
    · rw [h3]; rfl
theorem IsEff.ord {l : List Cl} {ys : List Nat} (h : IsEff l ys) : Ord l.length ys :=
  ⟨h.1.imp fun h => fun e => by subst e; omega, fun i hi => by
    obtain ⟨x, hx, _⟩ := (h.2 i).1 hi
    exact (List.getElem?_eq_some_iff.1 hx).1⟩
/-- The order of the effects agrees with precedence. -/
theorem IsEff.ok {l : List Cl} (hb : bad l = none) {ys : List Nat} (h : IsEff l ys) : ordOk l ys := by
  intro k q i x y hq hy hx
  cases hbf : bf x y with
  | false => exact .inr rfl
  | true =>
    left
    simp only [bf, Bool.and_eq_true, decide_eq_true_eq] at hbf
    have h1 := ans_ge hb hx hbf.1
    obtain ⟨y', hy', h3⟩ := (h.2 q).1 (List.mem_of_getElem? hq)
    obtain rfl : y = y' := by rw [hy] at hy'; injection hy'
    have h4 := took_le hb hy h3
    have hm : i ∈ ys := (h.2 i).2 ⟨x, hx, h1.1⟩
    obtain ⟨j, hj⟩ := List.mem_iff_getElem?.1 hm
    have ti : tk l i = x.took := by rw [tk, hx]
    have tq : tk l q = y.took := by rw [tk, hy]
    rcases Nat.lt_or_ge j k with hlt | hge
    · exact mem_take hj hlt
    · exfalso
      obtain ⟨p1, e1⟩ := List.getElem?_eq_some_iff.1 hj
      obtain ⟨p2, e2⟩ := List.getElem?_eq_some_iff.1 hq
      rcases Nat.lt_or_eq_of_le hge with hlt | he
      · have := List.pairwise_iff_getElem.1 h.1 k j p2 p1 hlt
        rw [e1, e2, ti, tq] at this
        omega
      · subst he
        have : i = q := by rw [← e1, ← e2]
        subst this
        rw [hx] at hy; injection hy with hy; subst hy
        omega
end Go.Proofs.Ytjpgechcfkhoaaa
