import Derived.Test.YtkikdpdainmlcaaGreatGY
import Derived.Test.YtkikdpdainmlcaaGreatGP
set_option linter.unusedVariables false
set_option linter.unusedSimpArgs false
set_option linter.unnecessarySimpa false
namespace Go.Proofs.YtkikdpdainmlcaaGreat
open Go.RowKit Go.Xt
/-! Prefixes, plain. -/
theorem pfx_th (s : Int) (x : Cl) : (pfx s x).th = x.th := by simp only [pfx]; (repeat' split) <;> rfl
theorem pfx_ix (s : Int) (x : Cl) : (pfx s x).ix = x.ix := by simp only [pfx]; (repeat' split) <;> rfl
theorem pfx_inv (s : Int) (x : Cl) : (pfx s x).inv = x.inv := by simp only [pfx]; (repeat' split) <;> rfl
theorem pfx_took (s : Int) (x : Cl) : (pfx s x).took = if s < x.took then -1 else x.took := by simp only [pfx]; (repeat' split) <;> rfl
theorem pfx_ans (s : Int) (x : Cl) : (pfx s x).ans = if s < x.ans then -1 else x.ans := by simp only [pfx]; (repeat' split) <;> rfl
theorem pfx_st (s : Int) (x : Cl) : (pfx s x).st = if s < x.ans then 0 else x.st := by simp only [pfx]; (repeat' split) <;> rfl
theorem pfx_rz (s : Int) (x : Cl) : rz (pfx s x) = if s < x.ans then true else rz x := by
  by_cases h : s < x.ans
  · rw [if_pos h]; simp only [pfx, if_pos h]; split <;> rfl
  · rw [if_neg h]; simp only [pfx, if_neg h]; split <;> rfl
theorem pfx_wf {s : Int} {x : Cl} (h : WfC x) : WfC (pfx s x) := by
  refine ⟨by rw [pfx_th]; exact h.th, by rw [pfx_ix]; exact h.ix, by rw [pfx_inv]; exact h.inv, ?_, ?_, ?_⟩
  · rw [pfx_took]; split
    · omega
    · exact h.took
  · rw [pfx_ans]; split
    · omega
    · exact h.ans
  · rw [pfx_st]; split
    · omega
    · exact h.st
theorem ofT_map (t s : Int) (p : List Cl) : ofT t (p.map (pfx s)) = (ofT t p).map (pfx s) := by
  rw [ofT, ofT, List.filter_map]
  congr 1
  refine congrArg (fun f => List.filter f p) ?_
  funext x
  simp [pfx_th]
theorem steps_sub {s z : Int} {x : Cl} (h : z ∈ stepsL (pfx s x)) : z ∈ stepsL x := by
  simp only [stepsL, List.mem_filter, List.mem_cons, List.not_mem_nil, or_false, decide_eq_true_eq, pfx_inv, pfx_took, pfx_ans] at h ⊢
  obtain ⟨h1 | h1 | h1, h2⟩ := h
  · exact ⟨.inl h1, h2⟩
  · split at h1
    · omega
    · exact ⟨.inr (.inl h1), h2⟩
  · split at h1
    · omega
    · exact ⟨.inr (.inr h1), h2⟩
theorem meet_sub {s : Int} {x y : Cl} (h : meetF (pfx s y) (pfx s x) = true) : meetF y x = true := by
  unfold meetF at h ⊢
  rw [List.any_eq_true] at h ⊢
  obtain ⟨a, ha, h⟩ := h
  rw [List.any_eq_true] at h
  obtain ⟨b, hb, h⟩ := h
  refine ⟨a, steps_sub ha, ?_⟩
  rw [List.any_eq_true]
  exact ⟨b, steps_sub hb, h⟩
theorem good_pfx {s : Int} (hs : -1 ≤ s) {p : List Cl} {x : Cl} (hx : x.inv ≤ s) (h : goodP p x = true) : goodP (p.map (pfx s)) (pfx s x) = true := by
  simp only [goodP, Bool.and_eq_true] at h ⊢
  obtain ⟨h1, h2, h3, h4, h5⟩ := h
  refine ⟨?_, ?_, ?_, ?_, ?_⟩
  · simp only [ordF, pfx_th, pfx_ix, pfx_inv, ofT_map, List.length_map, List.getLast?_map] at h1 ⊢
    cases hl : p.getLast? with
    | none => rw [hl] at h1; exact h1
    | some z => rw [hl] at h1; simpa [pfx_inv] using h1
  · simp only [effF, pfx_took, pfx_inv, Bool.or_eq_true, beq_iff_eq, decide_eq_true_eq] at h2 ⊢
    split <;> omega
  · by_cases ha : s < x.ans
    · have e1 : (pfx s x).ans = -1 := by rw [pfx_ans, if_pos ha]
      have e2 : (pfx s x).st = 0 := by rw [pfx_st, if_pos ha]
      have e3 : rz (pfx s x) = true := by rw [pfx_rz, if_pos ha]
      simp [endF, e1, e2, e3]
    · have e1 : (pfx s x).ans = x.ans := by rw [pfx_ans, if_neg ha]
      have e2 : (pfx s x).st = x.st := by rw [pfx_st, if_neg ha]
      have e3 : rz (pfx s x) = rz x := by rw [pfx_rz, if_neg ha]
      by_cases h0 : x.ans < 0
      · rw [endF, e1, if_pos h0, e2, e3]
        rw [endF, if_pos h0] at h3
        exact h3
      · have h3' := h3
        rw [endF, if_neg h0] at h3'
        have ht : ¬ s < x.took := by
          by_cases q : x.took < 0 ∨ x.ans < x.took ∨ x.st < 1 ∨ x.ans - x.inv < x.st - 1
          · rw [if_pos q] at h3'; cases h3'
          · omega
        have e4 : (pfx s x).took = x.took := by rw [pfx_took, if_neg ht]
        rw [endF, e1, if_neg h0, e2, e4, pfx_inv]
        exact h3'
  · simp only [aftF, pfx_th, ofT_map, List.getLast?_map] at h4 ⊢
    cases hl : (ofT x.th p).getLast? with
    | none => rfl
    | some z =>
      rw [hl] at h4
      simp only [Option.map_some, bf, pfx_inv, pfx_ans, Bool.and_eq_true, decide_eq_true_eq] at h4 ⊢
      rw [if_neg (by omega)]; exact h4
  · simp only [apaF, List.all_eq_true, List.mem_map] at h5 ⊢
    rintro _ ⟨y, hy, rfl⟩
    have h6 := h5 y hy
    simp only [pfx_th]
    by_cases ht : y.th = x.th
    · simp [ht]
    · simp only [Bool.or_eq_true, beq_iff_eq, ht, false_or, Bool.not_eq_true'] at h6 ⊢
      cases hm : meetF (pfx s y) (pfx s x) with
      | false => rfl
      | true => rw [meet_sub hm] at h6; cases h6
theorem tw_get {s : Int} : ∀ {l : List Cl} {j : Nat} {x : Cl}, (l.takeWhile fun x => decide (x.inv ≤ s))[j]? = some x → l[j]? = some x ∧ x.inv ≤ s ∧ (l.takeWhile fun x => decide (x.inv ≤ s)).take j = l.take j
  | [], j, x, h => by simp at h
  | y :: l, j, x, h => by
    rw [List.takeWhile_cons] at h ⊢
    by_cases hy : y.inv ≤ s
    · rw [if_pos (by simpa using hy)] at h ⊢
      cases j with
      | zero =>
        simp at h; subst h
        exact ⟨rfl, hy, rfl⟩
      | succ j =>
        have := tw_get (l := l) (j := j) (x := x) (by simpa using h)
        exact ⟨by simpa using this.1, this.2.1, by simpa using this.2.2⟩
    · rw [if_neg (by simpa using hy)] at h; simp at h
theorem pres_get {s : Int} {l : List Cl} {j : Nat} {y : Cl} (h : (pres s l)[j]? = some y) : ∃ x, l[j]? = some x ∧ x.inv ≤ s ∧ y = pfx s x ∧ (pres s l).take j = (l.take j).map (pfx s) := by
  rw [pres, List.getElem?_map] at h
  obtain ⟨x, hx, rfl⟩ := Option.map_eq_some_iff.1 h
  obtain ⟨h1, h2, h3⟩ := tw_get hx
  exact ⟨x, h1, h2, rfl, by rw [pres, ← List.map_take, h3]⟩
theorem bad_pres {s : Int} (hs : -1 ≤ s) {l : List Cl} (hb : bad l = none) : bad (pres s l) = none := by
  refine (badFrom_none _ _ 0 (by omega)).2 fun j y _ hy => ?_
  obtain ⟨x, h1, h2, rfl, h4⟩ := pres_get hy
  rw [h4]
  exact good_pfx hs h2 (good_at hb h1)
theorem tw_all {s : Int} : ∀ {l : List Cl} {j : Nat} {x : Cl}, l[j]? = some x → (∀ i y, i ≤ j → l[i]? = some y → y.inv ≤ s) → (l.takeWhile fun x => decide (x.inv ≤ s))[j]? = some x
  | [], j, x, h, _ => by simp at h
  | y :: l, j, x, h, hall => by
    have hy : y.inv ≤ s := hall 0 y (Nat.zero_le _) rfl
    rw [List.takeWhile_cons, if_pos (by simpa using hy)]
    cases j with
    | zero => simpa using h
    | succ j =>
      rw [List.getElem?_cons_succ] at h ⊢
      exact tw_all h fun i z hi hz => hall (i + 1) z (by omega) (by simpa using hz)
theorem tw_in {s : Int} {l : List Cl} (hb : bad l = none) {j : Nat} {x : Cl} (hx : l[j]? = some x) (hs : x.inv ≤ s) : (l.takeWhile fun x => decide (x.inv ≤ s))[j]? = some x :=
  tw_all hx fun i y hi hy => by
    rcases Nat.lt_or_eq_of_le hi with h | rfl
    · have := inv_lt hb h hy hx; omega
    · rw [hx] at hy; injection hy with hy; rw [← hy]; exact hs
theorem pres_in {s : Int} {l : List Cl} (hb : bad l = none) {j : Nat} {x : Cl} (hx : l[j]? = some x) (hs : x.inv ≤ s) : (pres s l)[j]? = some (pfx s x) := by
  rw [pres, List.getElem?_map, tw_in hb hx hs]; rfl
theorem pfx_pfx {s t : Int} (hs : -1 ≤ s) (ht : -1 ≤ t) (x : Cl) : pfx t (pfx s x) = pfx (min s t) x := by
  rw [cl_eq]
  refine ⟨by simp only [pfx_th], by simp only [pfx_ix], ?_⟩
  simp only [pfx]
  by_cases h1 : s < x.took <;> by_cases h2 : s < x.ans <;> by_cases h3 : t < x.took <;> by_cases h4 : t < x.ans <;>
    simp [h1, h2, h3, h4, show ¬ t < -1 by omega, show (min s t < x.took) = (s < x.took ∨ t < x.took) by simp only [eq_iff_iff]; omega, show (min s t < x.ans) = (s < x.ans ∨ t < x.ans) by simp only [eq_iff_iff]; omega]
theorem pres_pres {s t : Int} (hs : -1 ≤ s) (ht : -1 ≤ t) (l : List Cl) : pres t (pres s l) = pres (min s t) l := by
  induction l with
  | nil => rfl
  | cons x l ih =>
    simp only [pres] at ih ⊢
    rw [List.takeWhile_cons, List.takeWhile_cons]
    by_cases h1 : x.inv ≤ s
    · rw [if_pos (by simpa using h1), List.map_cons, List.takeWhile_cons]
      by_cases h2 : x.inv ≤ t
      · rw [if_pos (by simpa [pfx_inv] using h2), if_pos (by simp; omega), List.map_cons, List.map_cons, ih, pfx_pfx hs ht]
      · rw [if_neg (by simpa [pfx_inv] using h2), if_neg (by simp; omega)]; rfl
    · rw [if_neg (by simpa using h1), if_neg (by simp; omega)]; rfl
theorem hfilter_take {f : Nat → Int} {s : Int} : ∀ {a : List Nat}, a.Pairwise (fun i j => f i < f j) → (a.filter fun i => decide (f i ≤ s)) = a.take (a.filter fun i => decide (f i ≤ s)).length ∧ ∀ n, a[(a.filter fun i => decide (f i ≤ s)).length]? = some n → s < f n
  | [], _ => by simp
  | i :: a, h => by
    rw [List.pairwise_cons] at h
    obtain ⟨ih1, ih2⟩ := hfilter_take (f := f) (s := s) h.2
    by_cases hi : f i ≤ s
    · rw [List.filter_cons_of_pos (by simpa using hi)]
      refine ⟨by rw [List.length_cons, List.take_succ_cons, ← ih1], fun n hn => ih2 n (by simpa using hn)⟩
    · rw [List.filter_cons_of_neg (by simpa using hi)]
      have hnil : (a.filter fun i => decide (f i ≤ s)) = [] := by
        rw [List.filter_eq_nil_iff]
        intro j hj
        have := h.1 j hj
        simp; omega
      rw [hnil]
      exact ⟨rfl, fun n hn => by simp at hn; subst hn; omega⟩
theorem eff_pres {s : Int} (hs : -1 ≤ s) {l : List Cl} (hb : bad l = none) {a b : List Nat} (ha : IsEff l a) (hbb : IsEff (pres s l) b) :
    b = a.take b.length ∧ b.length ≤ a.length ∧ ∀ n, a[b.length]? = some n → ∃ x, l[n]? = some x ∧ s < x.took := by
  have hfe : IsEff (pres s l) (a.filter fun i => decide (tk l i ≤ s)) := by
    have htk : ∀ i, i ∈ (a.filter fun i => decide (tk l i ≤ s)) → ∃ x, l[i]? = some x ∧ 0 ≤ x.took ∧ x.took ≤ s ∧ (pres s l)[i]? = some (pfx s x) := fun i hi => by
      rw [List.mem_filter] at hi
      obtain ⟨x, hx, h0⟩ := (ha.2 i).1 hi.1
      have hle : x.took ≤ s := by have := hi.2; simp [tk, hx] at this; exact this
      exact ⟨x, hx, h0, hle, pres_in hb hx (by have := took_le hb hx h0; omega)⟩
    refine ⟨?_, fun i => ⟨fun hi => ?_, fun ⟨y, hy, h0⟩ => ?_⟩⟩
    · refine (ha.1.sublist List.filter_sublist).imp_of_mem fun hi hj hij => ?_
      obtain ⟨x, hx, _, h1, h2⟩ := htk _ hi
      obtain ⟨y, hy, _, h3, h4⟩ := htk _ hj
      simp only [tk, hx, hy] at hij
      simp only [tk, h2, h4, pfx_took]
      rw [if_neg (by omega), if_neg (by omega)]; exact hij
    · obtain ⟨x, hx, h0, h1, h2⟩ := htk i hi
      exact ⟨_, h2, by rw [pfx_took, if_neg (by omega)]; exact h0⟩
    · obtain ⟨x, hx, h1, rfl, _⟩ := pres_get hy
      rw [pfx_took] at h0
      split at h0
      · omega
      · rw [List.mem_filter]
        refine ⟨(ha.2 i).2 ⟨x, hx, h0⟩, ?_⟩
        simp [tk, hx]; omega
  have he := hbb.unique hfe
  obtain ⟨h1, h2⟩ := hfilter_take (f := tk l) (s := s) ha.1
  rw [← he] at h1 h2
  refine ⟨h1, ?_, fun n hn => ?_⟩
  · rw [he]; exact List.length_filter_le _ _
  · have hs' := h2 n hn
    obtain ⟨x, hx, _⟩ := (ha.2 n).1 (List.mem_of_getElem? hn)
    exact ⟨x, hx, by simpa [tk, hx] using hs'⟩
theorem nodup_len : ∀ (n : Nat) (l : List Nat), l.Nodup → (∀ i ∈ l, i < n) → l.length ≤ n
  | 0, [], _, _ => Nat.le_refl _
  | 0, x :: l, _, h => absurd (h x (by simp)) (by omega)
  | n + 1, l, hd, h => by
    by_cases hm : n ∈ l
    · have h1 := nodup_len n (l.erase n) (hd.erase n) (fun i hi => by
        have h2 := (hd.mem_erase_iff).1 hi
        have := h i h2.2
        omega)
      rw [List.length_erase_of_mem hm] at h1
      omega
    · have := nodup_len n l hd (fun i hi => by
        have := h i hi
        have : i ≠ n := fun e => hm (e ▸ hi)
        omega)
      omega
theorem IsEff.len {l : List Cl} {ys : List Nat} (h : IsEff l ys) : ys.length ≤ l.length :=
  nodup_len _ _ (h.1.imp fun h => fun e => by subst e; omega) fun i hi => by
    obtain ⟨x, hx, _⟩ := (h.2 i).1 hi
    exact (List.getElem?_eq_some_iff.1 hx).1
theorem OwnI.newc {W : World} {base n : Nat} {v : Value} {l : List Int} (h : OwnI W base v l) (hn : l.length = n) : ∃ A c, v = .slice A n c ∧ Is W A n l ∧ n ≤ c ∧ c ≤ 9223372036854775807 ∧ ∀ b o, A = some ⟨b, o, none⟩ → base ≤ b ∧ o = 0 := by
  subst hn
  rcases h.2 with ⟨rfl, h0⟩ | ⟨g, cap, cur, rfl, hb, hg, hn, hm, hcs, ht⟩
  · exact ⟨none, 0, by rw [h0], ⟨rfl, fun hp => absurd hp (by omega)⟩, by omega, by omega, fun b o e => by cases e⟩
  · refine ⟨_, cap, rfl, ⟨rfl, fun _ => ⟨g, 0, rfl, (Array.getElem?_eq_some_iff.1 hg).1, fun i x hx => ?_⟩⟩, hn, hm, fun b o e => by injection e with e; injection e with e1 e2; exact ⟨by omega, by omega⟩⟩
    have hi : i < l.length := (List.getElem?_eq_some_iff.1 hx).1
    have k0 := World.ownsRow.cellAt h i (by omega)
    simpa [ints, hx] using k0
theorem natI_len (l : List Nat) : (natI l).length = l.length := by simp [natI]
theorem natI_get {l : List Nat} {k : Nat} {z : Int} (h : (natI l)[k]? = some z) : ∃ q, z = ((q : Nat) : Int) ∧ l[k]? = some q := by
  rw [natI, List.getElem?_map] at h
  obtain ⟨q, hq, rfl⟩ := Option.map_eq_some_iff.1 h
  exact ⟨q, rfl, hq⟩
end Go.Proofs.YtkikdpdainmlcaaGreat
namespace Go.Proofs.YtkikdpdainmlcaaGreat
open Go.RowKit Go.Xt
/-! What Agrees says of an order. -/
def scE (o : List Int) (n : Nat) : Nat → Nat → Int
  | _, 0 => 0
  | k, f + 1 => match o[k]? with
    | none => 0
    | some x => if x < 0 ∨ (n : Int) ≤ x then 3 else if x ∈ o.take k then 9 else scE o n (k + 1) f
theorem plF_ge (l : List Int) (i : Int) : ∀ k, (i ∉ l ∧ plF l i k = -1) ∨ ∃ j : Nat, plF l i k = ((k + j : Nat) : Int) ∧ l[j]? = some i ∧ i ∉ l.take j := by
  induction l with
  | nil => intro k; exact .inl ⟨by simp, rfl⟩
  | cons y l ih =>
    intro k
    rw [plF]
    by_cases h : y = i
    · rw [if_pos h]; exact .inr ⟨0, by simp, by simp [h], by simp⟩
    · rw [if_neg h]
      rcases ih (k + 1) with ⟨h1, h2⟩ | ⟨j, h1, h2, h3⟩
      · exact .inl ⟨by simp [h1]; exact fun e => h e.symm, h2⟩
      · exact .inr ⟨j + 1, by rw [h1]; congr 1; omega, by simpa using h2, by simp [h3]; exact fun e => h e.symm⟩
theorem plF_cases (l : List Int) (i : Int) : (i ∉ l ∧ plF l i 0 = -1) ∨ ∃ j : Nat, plF l i 0 = (j : Int) ∧ l[j]? = some i ∧ i ∉ l.take j := by
  rcases plF_ge l i 0 with h | ⟨j, h1, h2⟩
  · exact .inl h
  · exact .inr ⟨j, by rw [h1]; simp, h2⟩
theorem mem_take {α : Type} {l : List α} {x : α} {j k : Nat} (h : l[j]? = some x) (hjk : j < k) : x ∈ l.take k :=
  List.mem_of_getElem? (i := j) (by rw [List.getElem?_take, if_pos hjk]; exact h)
theorem plF_lt {l : List Int} {k : Nat} {x : Int} (hx : l[k]? = some x) : (plF l x 0 < (k : Int) ↔ x ∈ l.take k) ∧ 0 ≤ plF l x 0 ∧ plF l x 0 ≤ k := by
  rcases plF_cases l x with ⟨h1, _⟩ | ⟨j, h1, h2, h3⟩
  · exact absurd (List.mem_of_getElem? hx) h1
  · have hjk : j ≤ k := by
      rcases Nat.lt_or_ge k j with h | h
      · exact absurd (mem_take hx h) h3
      · exact h
    rw [h1]
    refine ⟨⟨fun h => mem_take h2 (by omega), fun h => ?_⟩, by omega, by omega⟩
    rcases Nat.eq_or_lt_of_le hjk with rfl | h'
    · exact absurd h h3
    · omega
theorem plF_first {l : List Int} {k : Nat} {x : Int} (hx : l[k]? = some x) (hn : x ∉ l.take k) : plF l x 0 = k := by
  have := plF_lt hx
  have h2 : ¬ plF l x 0 < (k : Int) := fun h => hn (this.1.1 h)
  omega
def okIK (o : List Int) (x y : Cl) (i k : Nat) : Bool := !(bf x y && (decide (0 ≤ plF o k 0) && (decide (plF o i 0 < 0) || decide (plF o k 0 < plF o i 0))))
def OkAll (o : List Int) (l : List Cl) : Prop := ∀ (i k : Nat) (x y : Cl), l[i]? = some x → l[k]? = some y → okIK o x y i k = true
def agrE (o : List Int) (l : List Cl) : Int := if bad l = none then scE o l.length 0 o.length else 15
open Classical in
noncomputable def agrB (o : List Int) (l : List Cl) : Bool := decide (agrE o l = 0 ∧ OkAll o l)
end Go.Proofs.YtkikdpdainmlcaaGreat
namespace Go.Proofs.YtkikdpdainmlcaaGreat
open Go.RowKit Go.Xt
/-! The map of the places, plain. -/
def pm (o : List Int) (k : Nat) : Int → Option Int := fun z => if z ∈ o.take k then some (plF o z 0) else none
theorem plF_mem {o : List Int} {z : Int} : 0 ≤ plF o z 0 ↔ z ∈ o := by
  rcases plF_cases o z with ⟨h1, h2⟩ | ⟨j, h1, h2, _⟩
  · rw [h2]; simp [h1]
  · rw [h1]; simp only [Int.natCast_nonneg, true_iff]; exact List.mem_of_getElem? h2
theorem plF_neg {o : List Int} {z : Int} (h : z ∉ o) : plF o z 0 = -1 := by
  rcases plF_cases o z with ⟨_, h2⟩ | ⟨j, _, h2, _⟩
  · exact h2
  · exact absurd (List.mem_of_getElem? h2) h
theorem okAll_of {o : List Int} {l : List Cl} (h : ∀ (i k : Nat) (x y : Cl), (k : Int) ∈ o → l[i]? = some x → l[k]? = some y → okIK o x y i k = true) : OkAll o l := by
  intro i k x y hx hy
  by_cases hk : (k : Int) ∈ o
  · exact h i k x y hk hx hy
  · unfold okIK; rw [plF_neg hk]; simp
end Go.Proofs.YtkikdpdainmlcaaGreat
namespace Go.Proofs.YtkikdpdainmlcaaGreat
open Go.RowKit Go.Xt
/-! Threads, effects and orders, plain. -/
def sumT (f : Nat → Nat) : Nat → Nat
  | 0 => 0
  | T + 1 => sumT f T + f T
theorem sumT_add (f g : Nat → Nat) : ∀ T, sumT (fun t => f t + g t) T = sumT f T + sumT g T
  | 0 => rfl
  | T + 1 => by simp only [sumT]; rw [sumT_add f g T]; omega
theorem sumT_one {x : Int} : ∀ T : Nat, sumT (fun t => if x = (t : Int) then 1 else 0) T = if 0 ≤ x ∧ x < (T : Int) then 1 else 0
  | 0 => by
    rw [if_neg (by omega)]; rfl
  | T + 1 => by
    rw [sumT, sumT_one T]
    by_cases h : x = (T : Int)
    · rw [if_pos h, if_neg (by omega), if_pos (by omega)]
    · rw [if_neg h]
      by_cases h2 : 0 ≤ x ∧ x < (T : Int)
      · rw [if_pos h2, if_pos (by omega)]
      · rw [if_neg h2, if_neg (by omega)]
/-! Orders without repetition. -/
theorem scE_ok (o : List Int) (n : Nat) (h : ∀ (j : Nat) (x : Int), o[j]? = some x → 0 ≤ x ∧ x < n ∧ x ∉ o.take j) : ∀ f k, scE o n k f = 0
  | 0, _ => rfl
  | f + 1, k => by
    rw [scE]
    rcases hx : o[k]? with _ | x
    · rfl
    · have := h k x hx
      simp only
      rw [if_neg (by omega), if_neg this.2.2]; exact scE_ok o n h f (k + 1)
def Ord (n : Nat) (o : List Nat) : Prop := o.Nodup ∧ ∀ i ∈ o, i < n
theorem Ord.sc {n : Nat} {o : List Nat} (h : Ord n o) : ∀ (j : Nat) (x : Int), (natI o)[j]? = some x → 0 ≤ x ∧ x < n ∧ x ∉ (natI o).take j := by
  intro j x hx
  rw [natI, List.getElem?_map] at hx
  obtain ⟨q, hq, rfl⟩ := Option.map_eq_some_iff.1 hx
  have h1 := h.2 q (List.mem_of_getElem? hq)
  refine ⟨by omega, by omega, fun hm => ?_⟩
  rw [natI, ← List.map_take, List.mem_map] at hm
  obtain ⟨q', hq', e⟩ := hm
  obtain rfl : q' = q := by omega
  obtain ⟨k, hk⟩ := List.mem_iff_getElem?.1 hq'
  rw [List.getElem?_take] at hk
  split at hk
  · rename_i hlt
    obtain ⟨p1, e1⟩ := List.getElem?_eq_some_iff.1 hk
    obtain ⟨p2, e2⟩ := List.getElem?_eq_some_iff.1 hq
    exact List.pairwise_iff_getElem.1 h.1 k j p1 p2 hlt (by rw [e1, e2])
  · cases hk
theorem Ord.agrE {l : List Cl} (hb : bad l = none) {o : List Nat} (h : Ord l.length o) : agrE (natI o) l = 0 := by
  rw [Proofs.YtkikdpdainmlcaaGreat.agrE, if_pos hb]; exact scE_ok _ _ h.sc _ _
theorem Ord.pl {n : Nat} {o : List Nat} (h : Ord n o) {k q : Nat} (hq : o[k]? = some q) : plF (natI o) (q : Int) 0 = k := by
  have hz : (natI o)[k]? = some (q : Int) := by rw [natI, List.getElem?_map, hq]; rfl
  exact plF_first hz (h.sc k _ hz).2.2
theorem natI_mem {o : List Nat} {q : Nat} : (q : Int) ∈ natI o ↔ q ∈ o := by
  rw [natI, List.mem_map]
  constructor
  · rintro ⟨a, h, e⟩; obtain rfl : a = q := by omega
    exact h
  · intro h; exact ⟨q, h, rfl⟩
theorem bf_self {l : List Cl} (hb : bad l = none) {i : Nat} {x : Cl} (hx : l[i]? = some x) : bf x x = false := by
  cases h : bf x x with
  | false => rfl
  | true =>
    simp only [bf, Bool.and_eq_true, decide_eq_true_eq] at h
    have h1 := ans_ge hb hx h.1
    have h2 := took_le hb hx h1.1
    omega
def ordOk (l : List Cl) (o : List Nat) : Prop := ∀ (k q i : Nat) (x y : Cl), o[k]? = some q → l[q]? = some y → l[i]? = some x → i ∈ o.take k ∨ bf x y = false
open Classical in
theorem Ord.agrB {l : List Cl} (hb : bad l = none) {o : List Nat} (h : Ord l.length o) : agrB (natI o) l = true ↔ ordOk l o := by
  rw [Proofs.YtkikdpdainmlcaaGreat.agrB, decide_eq_true_eq]
  constructor
  · rintro ⟨_, h2⟩ k q i x y hq hy hx
    have h3 := h2 i q x y hx hy
    rw [okIK, h.pl hq] at h3
    cases hbf : bf x y with
    | false => exact .inr rfl
    | true =>
      left
      rw [hbf] at h3
      simp at h3
      have hp : 0 ≤ plF (natI o) (i : Int) 0 := h3.1
      have hm : i ∈ o := natI_mem.1 (plF_mem.1 hp)
      obtain ⟨j, hj⟩ := List.mem_iff_getElem?.1 hm
      rw [h.pl hj] at h3
      have hjk : j ≤ k := by omega
      rcases Nat.lt_or_eq_of_le hjk with hlt | rfl
      · exact mem_take hj hlt
      · rw [hj] at hq; injection hq with hq; subst hq
        rw [hx] at hy; injection hy with hy; subst hy
        rw [bf_self hb hx] at hbf; cases hbf
  · intro h2
    refine ⟨h.agrE hb, okAll_of fun i q x y hq hx hy => ?_⟩
    have hm : q ∈ o := natI_mem.1 hq
    obtain ⟨k, hk⟩ := List.mem_iff_getElem?.1 hm
    rw [okIK, h.pl hk]
    rcases h2 k q i x y hk hy hx with h3 | h3
    · obtain ⟨j, hj⟩ := List.mem_iff_getElem?.1 h3
      rw [List.getElem?_take] at hj
      split at hj
      · rename_i hlt
        rw [h.pl hj]; simp; omega
      · cases hj
    · rw [h3]; rfl
theorem IsEff.ord {l : List Cl} {ys : List Nat} (h : IsEff l ys) : Ord l.length ys :=
  ⟨h.1.imp fun h => fun e => by subst e; omega, fun i hi => by
    obtain ⟨x, hx, _⟩ := (h.2 i).1 hi
    exact (List.getElem?_eq_some_iff.1 hx).1⟩
theorem IsEff.ok {l : List Cl} (hb : bad l = none) {ys : List Nat} (h : IsEff l ys) : ordOk l ys := by
  intro k q i x y hq hy hx
  cases hbf : bf x y with
  | false => exact .inr rfl
  | true =>
    left
    simp only [bf, Bool.and_eq_true, decide_eq_true_eq] at hbf
    have h1 := ans_ge hb hx hbf.1
    obtain ⟨y', hy', h3⟩ := (h.2 q).1 (List.mem_of_getElem? hq)
    obtain rfl : y = y' := by rw [hy] at hy'; injection hy'
    have h4 := took_le hb hy h3
    have hm : i ∈ ys := (h.2 i).2 ⟨x, hx, h1.1⟩
    obtain ⟨j, hj⟩ := List.mem_iff_getElem?.1 hm
    have ti : tk l i = x.took := by rw [tk, hx]
    have tq : tk l q = y.took := by rw [tk, hy]
    rcases Nat.lt_or_ge j k with hlt | hge
    · exact mem_take hj hlt
    · exfalso
      obtain ⟨p1, e1⟩ := List.getElem?_eq_some_iff.1 hj
      obtain ⟨p2, e2⟩ := List.getElem?_eq_some_iff.1 hq
      rcases Nat.lt_or_eq_of_le hge with hlt | he
      · have := List.pairwise_iff_getElem.1 h.1 k j p2 p1 hlt
        rw [e1, e2, ti, tq] at this
        omega
      · subst he
        have : i = q := by rw [← e1, ← e2]
        subst this
        rw [hx] at hy; injection hy with hy; subst hy
        omega
end Go.Proofs.YtkikdpdainmlcaaGreat
