import Derived.Test.YtfnapkfdocabcaaGreatGNh
set_option linter.unusedVariables false
set_option linter.unusedSimpArgs false
set_option linter.unnecessarySimpa false
namespace Go.Proofs.YtfnapkfdocabcaaGreat
open Go.RowKit Go.Xt
/-! WitnessAlone, plain. -/
/-- A trajectory on which all calls fit. -/
theorem traj (l : List Cl) : ∀ (ord : List Nat) (T : Nat → Md) (K : Nat), (∀ k, k < K → ∃ i x, ord[k]? = some i ∧ l[i]? = some x ∧ fitsM (T k) x = some (T (k + 1))) →
    (∀ k, k ≤ K → seqF l ord (T 0) k = T k) ∧ (ord.length = K → runF l ord (T 0) = some (T K))
  | [], T, K, h => by
    cases K with
    | zero =>
      refine ⟨fun k hk => ?_, fun _ => rfl⟩
      obtain rfl : k = 0 := by omega
      rfl
    | succ K =>
      obtain ⟨i, x, hi, -⟩ := h 0 (by omega)
      simp at hi
  | j :: t, T, K, h => by
    cases K with
    | zero =>
      refine ⟨fun k hk => ?_, fun hl => by simp at hl⟩
      obtain rfl : k = 0 := by omega
      rfl
    | succ K =>
      obtain ⟨i, x, hi, hx, hf⟩ := h 0 (by omega)
      simp at hi
      subst hi
      obtain ⟨h1, h2⟩ := traj l t (fun k => T (k + 1)) K (fun k hk => by
        obtain ⟨i, y, hi, hy, hg⟩ := h (k + 1) (by omega)
        exact ⟨i, y, by simpa using hi, hy, hg⟩)
      refine ⟨fun k hk => ?_, fun hl => ?_⟩
      · cases k with
        | zero => rfl
        | succ k => rw [seqF, hx]; simp only [Option.bind_some, hf]; exact h1 k (by omega)
      · rw [runF, hx]; simp only; rw [hf]; exact h2 (by simpa using hl)
/-- Between the steps of two calls. -/
theorem stAt_mid (l : List Cl) : ∀ (ord : List Nat) (s : Md), (ord.Pairwise fun i j => tk l i < tk l j) → (runF l ord s).isSome = true → ∀ (k i : Nat) (x : Cl) (st : Int), ord[k]? = some i → l[i]? = some x → (∀ j ∈ ord.take k, tk l j ≤ st) → st < x.took →
    stAt l ord s st = seqF l ord s k
  | [], _, _, _, k, i, x, st, hi, _, _, _ => by simp at hi
  | j :: t, s, hp, hr, k, i, x, st, hi, hx, ha, hb => by
    rw [List.pairwise_cons] at hp
    rw [runF] at hr
    cases hy : l[j]? with
    | none => rw [hy] at hr; cases hr
    | some y =>
      rw [hy] at hr
      simp only at hr
      cases hf : fitsM s y with
      | none => rw [hf] at hr; cases hr
      | some s' =>
        rw [hf] at hr
        simp only at hr
        cases k with
        | zero =>
          simp at hi
          subst hi
          rw [hy] at hx; injection hx with hx; subst hx
          rw [stAt, hy]; simp only; rw [if_neg (by omega)]; rfl
        | succ k =>
          have h1 := ha j (by simp)
          rw [tk_of hy] at h1
          rw [stAt, hy, seqF, hy]
          simp only [Option.bind_some, hf]
          rw [if_pos h1]
          exact stAt_mid l t s' hp.2 hr k i x st (by simpa using hi) hx (fun q hq => ha q (by simp [hq])) hb
/-- The model behind operations. -/
def stD (s : Md) (h : List Cl) : Md := h.foldl (fun s x => (doM s x.th (opC x)).2) s
theorem stD_snoc (s : Md) (h : List Cl) (x : Cl) : stD s (h ++ [x]) = (doM (stD s h) x.th (opC x)).2 := by unfold stD; rw [List.foldl_append]; rfl
theorem stD_take {s : Md} {h : List Cl} {k : Nat} {x : Cl} (hx : h[k]? = some x) : stD s (h.take (k + 1)) = (doM (stD s (h.take k)) x.th (opC x)).2 := by
  obtain ⟨p, e⟩ := List.getElem?_eq_some_iff.1 hx
  rw [List.take_succ_eq_append_getElem p, stD_snoc, e]
/-- Calls one after the other. -/
structure AlS (h : List Cl) : Prop where
  inv : ∀ (i : Nat) (x : Cl), h[i]? = some x → x.inv = 3 * (i : Int) ∧ x.took = 3 * (i : Int) + 2 ∧ x.ans = 3 * (i : Int) + 2 ∧ x.st = 2
  ix : ∀ (i : Nat) (x : Cl), h[i]? = some x → x.ix = ((ofT x.th (h.take i)).length : Nat)
  th : ∀ (i : Nat) (x : Cl), h[i]? = some x → 0 ≤ x.th ∧ x.th < 64
theorem AlS.nil : AlS [] := ⟨fun i x h => by simp at h, fun i x h => by simp at h, fun i x h => by simp at h⟩
theorem snoc_get {h : List Cl} {x y : Cl} {i : Nat} (hy : (h ++ [x])[i]? = some y) : (h[i]? = some y ∧ i < h.length ∧ (h ++ [x]).take i = h.take i) ∨ (i = h.length ∧ y = x ∧ (h ++ [x]).take i = h) := by
  by_cases hi : i < h.length
  · left
    rw [List.getElem?_append_left hi] at hy
    exact ⟨hy, hi, List.take_append_of_le_length (by omega)⟩
  · right
    have h1 := (List.getElem?_eq_some_iff.1 hy).1
    simp at h1
    obtain rfl : i = h.length := by omega
    rw [List.getElem?_append_right (by omega)] at hy
    simp at hy
    exact ⟨rfl, hy.symm, by simp⟩
theorem AlS.snoc {h : List Cl} (ha : AlS h) {x : Cl} (h1 : x.inv = 3 * (h.length : Int) ∧ x.took = 3 * (h.length : Int) + 2 ∧ x.ans = 3 * (h.length : Int) + 2 ∧ x.st = 2) (h2 : x.ix = ((ofT x.th h).length : Nat)) (h3 : 0 ≤ x.th ∧ x.th < 64) : AlS (h ++ [x]) := by
  refine ⟨fun i y hy => ?_, fun i y hy => ?_, fun i y hy => ?_⟩ <;> rcases snoc_get hy with ⟨h4, -, h5⟩ | ⟨rfl, rfl, h5⟩
  · exact ha.inv i y h4
  · exact h1
  · rw [h5]; exact ha.ix i y h4
  · rw [h5]; exact h2
  · exact ha.th i y h4
  · exact h3
/-- The results are those of Do. -/
def AlR (s : Md) (h : List Cl) : Prop := ∀ (i : Nat) (x : Cl), h[i]? = some x → rsC x = (doM (stD s (h.take i)) x.th (opC x)).1
theorem AlR.snoc {s : Md} {h : List Cl} (ha : AlR s h) {x : Cl} (h1 : rsC x = (doM (stD s h) x.th (opC x)).1) : AlR s (h ++ [x]) := fun i y hy => by
  rcases snoc_get hy with ⟨h4, -, h5⟩ | ⟨rfl, rfl, h5⟩
  · rw [h5]; exact ha i y h4
  · rw [h5]; exact h1
theorem AlS.bad {h : List Cl} (ha : AlS h) : bad h = none := by
  refine (badFrom_none h h.length 0 (by omega)).2 fun j x _ hx => ?_
  have hi := ha.inv j x hx
  have hix := ha.ix j x hx
  have hth := ha.th j x hx
  have prev : ∀ y ∈ h.take j, ∃ m : Nat, m < j ∧ h[m]? = some y := fun y hy => by
    obtain ⟨m, hm⟩ := List.mem_iff_getElem?.1 hy
    rw [List.getElem?_take] at hm
    split at hm
    · rename_i hlt; exact ⟨m, hlt, hm⟩
    · cases hm
  simp only [goodP, Bool.and_eq_true]
  refine ⟨?_, ?_, ?_, ?_, ?_⟩
  · unfold ordF
    simp only [Bool.and_eq_true, decide_eq_true_eq]
    refine ⟨hth.1, hth.2, hix, by omega, ?_⟩
    cases hl : (h.take j).getLast? with
    | none => rfl
    | some z =>
      obtain ⟨m, hm, hz⟩ := prev z (List.mem_of_getLast? hl)
      have := (ha.inv m z hz).1
      simp only [decide_eq_true_eq]
      omega
  · unfold effF; simp; omega
  · unfold endF
    rw [if_neg (by omega), if_neg (by omega)]
    simp; omega
  · unfold aftF
    cases hl : (ofT x.th (h.take j)).getLast? with
    | none => rfl
    | some z =>
      have hz := List.mem_of_getLast? hl
      obtain ⟨m, hm, hz⟩ := prev z (List.mem_filter.1 hz).1
      have := ha.inv m z hz
      simp only [bf, Bool.and_eq_true, decide_eq_true_eq]
      omega
  · unfold apaF
    rw [List.all_eq_true]
    intro y hy
    obtain ⟨m, hm, hz⟩ := prev y hy
    have hq := ha.inv m y hz
    have : meetF y x = false := by
      cases hmt : meetF y x with
      | false => rfl
      | true =>
        exfalso
        unfold meetF at hmt
        rw [List.any_eq_true] at hmt
        obtain ⟨a, ha', hmt⟩ := hmt
        rw [List.any_eq_true] at hmt
        obtain ⟨b, hb', hab⟩ := hmt
        simp only [stepsL, List.mem_filter, List.mem_cons, List.not_mem_nil, or_false] at ha' hb'
        have hab : a = b := by simpa using hab
        rw [hq.1, hq.2.1, hq.2.2.1] at ha'
        rw [hi.1, hi.2.1, hi.2.2.1] at hb'
        omega
    rw [this]; simp
theorem AlS.eff {h : List Cl} (ha : AlS h) : effL h = List.range h.length := by
  refine (effL_is ha.bad).unique ⟨?_, fun i => ⟨fun hi => ?_, fun ⟨x, hx, _⟩ => ?_⟩⟩
  · refine (List.pairwise_lt_range).imp_of_mem fun {a b} ha' hb' hab => ?_
    rw [List.mem_range] at ha' hb'
    have h1 := (ha.inv a _ (List.getElem?_eq_getElem ha')).2.1
    have h2 := (ha.inv b _ (List.getElem?_eq_getElem hb')).2.1
    rw [tk_of (List.getElem?_eq_getElem ha'), tk_of (List.getElem?_eq_getElem hb')]
    omega
  · rw [List.mem_range] at hi
    have h1 := (ha.inv i _ (List.getElem?_eq_getElem hi)).2.1
    exact ⟨_, List.getElem?_eq_getElem hi, by omega⟩
  · rw [List.mem_range]; exact (List.getElem?_eq_some_iff.1 hx).1
/-- A call with Do's result fits. -/
theorem fits_do {s : Md} {x : Cl} (hr : rsC x = (doM s x.th (opC x)).1) (ha : 0 ≤ x.ans) (ht : x.took = x.ans) : fitsM s x = some (doM s x.th (opC x)).2 := by
  have hl : lateB x = false := by unfold lateB; simp; omega
  unfold fitsM
  rw [if_neg (by simp [hl])]
  by_cases hb : readB x = true
  · rw [if_pos hb]
    have he : (doM s x.th (opC x)).1.err = 0 := by
      rw [← hr]
      unfold readB at hb
      simp only [Bool.and_eq_true, decide_eq_true_eq] at hb
      exact hb.2.2
    rw [if_pos he]
  · rw [if_neg hb]
    unfold nextM
    rw [if_neg (by omega), hr, acc_do]
    simp
theorem AlS.run {h : List Cl} (ha : AlS h) {s : Md} (K : Nat) (hr : ∀ (i : Nat) (x : Cl), i < K → h[i]? = some x → rsC x = (doM (stD s (h.take i)) x.th (opC x)).1) (hK : K ≤ h.length) :
    (∀ k, k ≤ K → seqF h (effL h) s k = stD s (h.take k)) ∧ (h.length = K → runF h (effL h) s = some (stD s h)) := by
  have ht := traj h (effL h) (fun k => stD s (h.take k)) K (fun k hk => by
    have hx := List.getElem?_eq_getElem (l := h) (show k < h.length by omega)
    have hi := ha.inv k _ hx
    refine ⟨k, _, ?_, hx, ?_⟩
    · rw [ha.eff, List.getElem?_range (by omega)]
    · rw [stD_take hx]
      exact fits_do (hr k _ hk hx) (by omega) (by omega))
  refine ⟨ht.1, fun hl => ?_⟩
  have := ht.2 (by rw [ha.eff, List.length_range]; exact hl)
  rw [← hl, List.take_length] at this
  exact this
/-- THE PLAIN LAW OF WitnessAlone: operations performed one at a time pass. -/
theorem alone_plain {c : Cf} {cuts : List Nat} {h : List Cl} (hc : chkC c cuts = 0) (ha : AlS h) (hr : AlR (s1M c) h) : wChk c cuts h = (0, 0) ∧ ∃ o2, wX c cuts h = .ok o2 ∧ finL o2 = (stD (s1M c) h).l := by
  obtain ⟨h1, h2⟩ := ha.run (s := s1M c) h.length (fun i x _ hx => hr i x hx) (Nat.le_refl _)
  have hrun := h2 rfl
  have hsp := mapsX_spec ha.bad (s := s1M c) rfl
  cases hm : mapsX (s1M c) h with
  | error i => rw [hm] at hsp; rw [hrun] at hsp; cases hsp
  | ok o2 =>
    rw [hm] at hsp
    obtain ⟨hM, -, hat⟩ := hsp
    have hw : wX c cuts h = .ok o2 := by unfold wX; rw [if_neg (by omega), ha.bad]; simp only; rw [hm]; rfl
    obtain ⟨-, s2, hr2, hf⟩ := fin_seq hw
    rw [hrun] at hr2; injection hr2 with hr2; subst hr2
    refine ⟨?_, o2, hw, hf⟩
    refine wChk_zero (wChk_ok.2 ⟨o2, hw, badR_none h 0 |>.2 fun x hx hb => ?_⟩)
    obtain ⟨k, hk⟩ := List.mem_iff_getElem?.1 hx
    have hi := ha.inv k x hk
    have hkl := (List.getElem?_eq_some_iff.1 hk).1
    have hord : (effL h)[k]? = some k := by rw [ha.eff, List.getElem?_range hkl]
    obtain ⟨-, e2, -⟩ := at_seq hw hord hk
    rw [h1 k (by omega)] at e2
    have hres := hr k x hk
    unfold readB at hb
    simp only [Bool.and_eq_true, decide_eq_true_eq] at hb
    have he : (doM (stD (s1M c) (h.take k)) x.th (opC x)).1.err = 0 := by rw [← hres]; exact hb.2.2
    have hg := (get_same (s := stD (s1M c) (h.take k)) (t := x.th) (o := opC x) hb.1).2 he
    rw [← hres] at hg
    have hg' : x.rf = hasK x.ka (stD (s1M c) (h.take k)).l ∧ x.rk = 0 ∧ x.rv = valL x.ka (stD (s1M c) (h.take k)).l ∧ x.rc = 0 := by
      unfold rsC opC at hg
      simp only [Rs.mk.injEq] at hg
      exact hg.2
    rcases explM_spec hM (c := x) (by omega) (by omega) with ⟨q, -⟩ | ⟨q, q2⟩
    · exact q
    · have := q2 hg'.2.1 hg'.2.2.2 (x.took - 1) (by omega) (by omega)
      rw [e2] at this
      unfold agrB1 at this
      rw [← hg'.1, ← hg'.2.2.1] at this
      simp at this
/-- Another result. -/
def setR (x : Cl) (r : Rs) : Cl := { x with re := r.err, rf := r.fd, rk := r.key, rv := r.val, rc := r.cnt }
theorem ofT_th (t : Int) : ∀ (a b : List Cl), a.map (·.th) = b.map (·.th) → (ofT t a).length = (ofT t b).length
  | [], [], _ => rfl
  | [], _ :: _, h => by cases h
  | _ :: _, [], h => by cases h
  | x :: a, y :: b, h => by
    simp only [List.map_cons, List.cons.injEq] at h
    have ih := ofT_th t a b h.2
    unfold ofT at ih ⊢
    by_cases hx : x.th = t
    · rw [List.filter_cons_of_pos (by simpa using hx), List.filter_cons_of_pos (by rw [← h.1]; simpa using hx)]; simp [ih]
    · rw [List.filter_cons_of_neg (by simpa using hx), List.filter_cons_of_neg (by rw [← h.1]; simpa using hx)]; exact ih
theorem setR_th {h : List Cl} {k : Nat} {x : Cl} (hx : h[k]? = some x) (r : Rs) : (h.set k (setR x r)).map (·.th) = h.map (·.th) := by
  rw [List.map_set]
  refine List.ext_getElem? fun i => ?_
  by_cases hi : k = i
  · subst hi
    rw [List.getElem?_set_self (by rw [List.length_map]; exact (List.getElem?_eq_some_iff.1 hx).1), List.getElem?_map, hx]; rfl
  · rw [List.getElem?_set_ne hi]
theorem AlS.setR {h : List Cl} (ha : AlS h) {k : Nat} {x : Cl} (hx : h[k]? = some x) (r : Rs) : AlS (h.set k (setR x r)) := by
  have get : ∀ (i : Nat) (y : Cl), (h.set k (Proofs.YtfnapkfdocabcaaGreat.setR x r))[i]? = some y → ∃ z, h[i]? = some z ∧ y.inv = z.inv ∧ y.took = z.took ∧ y.ans = z.ans ∧ y.st = z.st ∧ y.ix = z.ix ∧ y.th = z.th := fun i y hy => by
    by_cases hi : k = i
    · subst hi
      rw [List.getElem?_set_self (List.getElem?_eq_some_iff.1 hx).1] at hy
      injection hy with hy; subst hy
      exact ⟨x, hx, rfl, rfl, rfl, rfl, rfl, rfl⟩
    · rw [List.getElem?_set_ne hi] at hy
      exact ⟨y, hy, rfl, rfl, rfl, rfl, rfl, rfl⟩
  refine ⟨fun i y hy => ?_, fun i y hy => ?_, fun i y hy => ?_⟩ <;> obtain ⟨z, hz, e1, e2, e3, e4, e5, e6⟩ := get i y hy
  · rw [e1, e2, e3, e4]; exact ha.inv i z hz
  · rw [e5, e6, ha.ix i z hz]
    congr 1
    refine ofT_th _ _ _ ?_
    rw [List.map_take, List.map_take, setR_th hx]
  · rw [e6]; exact ha.th i z hz
/-- THE PLAIN LAW OF WitnessAlone, second half: a result that the model refuses is found. -/
theorem alone_other {c : Cf} {cuts : List Nat} {h : List Cl} (hc : chkC c cuts = 0) (ha : AlS h) (hr : AlR (s1M c) h) {k : Nat} {x : Cl} (hx : h[k]? = some x) {r : Rs} (hno : (acceptM (stD (s1M c) (h.take k)) x.th (opC x) r).1 = false) :
    (wChk c cuts (h.set k (setR x r))).2 = 18 := by
  have ha2 := ha.setR hx r
  have hkl := (List.getElem?_eq_some_iff.1 hx).1
  obtain ⟨h', hh'⟩ : ∃ h', h' = h.set k (setR x r) := ⟨_, rfl⟩
  rw [← hh'] at ha2 ⊢
  have htake : ∀ i, i ≤ k → h'.take i = h.take i := fun i hi => by rw [hh', List.take_set_of_le hi]
  have hget : h'[k]? = some (setR x r) := by rw [hh', List.getElem?_set_self hkl]
  have hlen : h'.length = h.length := by rw [hh', List.length_set]
  have hcase : wX c cuts h' = .error (0, 2) ∨ (∃ i : Nat, wX c cuts h' = .error ((i : Int), 18)) ∨ ∃ o2, wX c cuts h' = .ok o2 := by
    unfold wX
    rw [if_neg (by omega), ha2.bad]
    simp only
    cases mapsX (s1M c) h' with
    | error i => exact .inr (.inl ⟨i, rfl⟩)
    | ok o2 => exact .inr (.inr ⟨o2, rfl⟩)
  rcases hcase with h1 | ⟨i, h1⟩ | ⟨o2, h1⟩
  · exfalso
    unfold wX at h1
    rw [if_neg (by omega), ha2.bad] at h1
    simp only at h1
    unfold finX at h1
    split at h1
    · injection h1 with h1; injection h1 with h1 h2; exact absurd h2 (by decide)
    · cases h1
  · unfold wChk; rw [h1]
  · cases hb : badR o2 h' 0 with
    | some i => unfold wChk; rw [h1]; simp only; rw [hb]
    | none =>
      exfalso
      obtain ⟨-, hbad, hm⟩ := wX_ok h1
      have hsp := mapsX_spec hbad (s := s1M c) rfl
      rw [hm] at hsp
      obtain ⟨hM, ⟨s2, hrun, -⟩, hat⟩ := hsp
      obtain ⟨e1, -⟩ := ha2.run (s := s1M c) k (fun i y hi hy => by
        rw [hh', List.getElem?_set_ne (by omega)] at hy
        rw [htake i (by omega)]
        exact hr i y hy) (by omega)
      have hS := e1 k (Nat.le_refl _)
      rw [htake k (Nat.le_refl _)] at hS
      have hord : (effL h')[k]? = some k := by rw [ha2.eff, List.getElem?_range (by omega)]
      obtain ⟨a1, a2, a3⟩ := at_seq h1 hord hget
      rw [hS] at a2 a3
      obtain ⟨S, hSd⟩ : ∃ S, S = stD (s1M c) (h.take k) := ⟨_, rfl⟩
      rw [← hSd] at a2 a3 hno hS
      have hi := ha2.inv k _ hget
      have hop : opC (setR x r) = opC x := rfl
      have hrs : rsC (setR x r) = r := rfl
      have hth : (setR x r).th = x.th := rfl
      have hl : lateB (setR x r) = false := by unfold lateB; simp; omega
      by_cases hrd : readB (setR x r) = true
      · have hex := (badR_none h' 0).1 hb _ (List.mem_of_getElem? hget) hrd
        unfold readB at hrd
        simp only [Bool.and_eq_true, decide_eq_true_eq] at hrd
        have hk3 : (opC x).k = 3 := hrd.1
        have her : r.err = 0 := hrd.2.2
        have hdo : (doM S x.th (opC x)).1.err = 0 := by
          unfold fitsM at a3
          rw [if_neg (by simp [hl]), if_pos (by unfold readB; simp only [Bool.and_eq_true, decide_eq_true_eq]; exact hrd), hop, hth] at a3
          split at a3
          · assumption
          · cases a3
        have hl1 : (seqF h' (effL h') (s1M c) (k + 1)).l = S.l := fits_still a3 (by rw [hrd.1]; omega)
        rcases explM_spec hM (c := setR x r) (by omega) (by omega) with ⟨q1, q2, q3, q4, q5, q6, -⟩ | ⟨q1, -⟩
        · have hS2 : atF [] o2 (explM o2 (setR x r)) = S.l := by
            rw [hi.1] at q4
            rw [hi.2.2.1] at q5
            by_cases he : explM o2 (setR x r) = 3 * (k : Int) + 2
            · rw [he, ← hi.2.1, a1]; exact hl1
            · rw [hat _ (by omega), stAt_mid h' (effL h') (s1M c) (effL_is hbad).1 (by rw [hrun]; rfl) k k _ _ hord hget (fun j hj => by
                rw [ha2.eff, List.take_range] at hj
                rw [List.mem_range] at hj
                have hjl : j < h'.length := by omega
                have := (ha2.inv j _ (List.getElem?_eq_getElem hjl)).2.1
                rw [tk_of (List.getElem?_eq_getElem hjl)]; omega) (by omega), hS]
          rw [hS2] at q6
          have hacc := (get_acc (s := S) (t := x.th) (o := opC x) (r := r) hk3 her).1
          rw [hno] at hacc
          have : ¬ ((doM S x.th (opC x)).1.err = 0 ∧ r.fd = hasK (opC x).key S.l ∧ r.key = 0 ∧ r.val = valL (opC x).key S.l ∧ r.cnt = 0) := by
            intro hq
            rw [decide_eq_true hq] at hacc; cases hacc
          refine this ⟨hdo, ?_, q2, ?_, q3⟩
          · unfold agrB1 at q6; simp only [Bool.and_eq_true, decide_eq_true_eq] at q6; exact q6.1.symm
          · unfold agrB1 at q6; simp only [Bool.and_eq_true, decide_eq_true_eq] at q6; exact q6.2.symm
        · omega
      · unfold fitsM at a3
        rw [if_neg (by simp [hl]), if_neg hrd] at a3
        unfold nextM at a3
        rw [if_neg (by omega), hth, hop, hrs, hno] at a3
        simp at a3
end Go.Proofs.YtfnapkfdocabcaaGreat
