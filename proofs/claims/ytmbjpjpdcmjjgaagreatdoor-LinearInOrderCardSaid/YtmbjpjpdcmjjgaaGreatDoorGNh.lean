import Derived.Test.YtmbjpjpdcmjjgaaGreatDoorGNe
import Derived.Test.YtmbjpjpdcmjjgaaGreatDoorGKa
set_option linter.unusedVariables false
set_option linter.unusedSimpArgs false
set_option linter.unnecessarySimpa false
namespace Go.Proofs.YtmbjpjpdcmjjgaaGreatDoor
open Go.RowKit Go.Xt
/-! Check. -/
def badR (maps : List Sta) : List Cl → Nat → Option Nat
  | [], _ => none
  | x :: r, k => if (readB x && decide (explM maps x < 0)) = true then some k else badR maps r (k + 1)
theorem badR_drop {maps : List Sta} {l : List Cl} {k : Nat} {x : Cl} (hx : l[k]? = some x) : badR maps (l.drop k) k = if (readB x && decide (explM maps x < 0)) = true then some k else badR maps (l.drop (k + 1)) (k + 1) := by
  obtain ⟨p, e⟩ := List.getElem?_eq_some_iff.1 hx
  rw [List.drop_eq_getElem_cons p, e, badR]
def wChk (c : Cf) (cuts : List Nat) (l : List Cl) : Int × Int := match wX c cuts l with
  | .error z => z
  | .ok out => match badR out l 0 with
    | some i => ((i : Int), 18)
    | none => (0, 0)
set_option maxRecDepth 20000 in
set_option maxHeartbeats 8000000 in
theorem wcheck_any {w : World} {c : Cf} {cuts : List Nat} {A : Option Addr} {n cap : Nat} {l : List Cl} (hi : In3 w c cuts A n cap l) :
    Calls Tryz.prog 9 #[confV c, .slice A n cap] w fun e w' => e = .returned (.tuple #[.int .i64 (wChk c cuts l).1, .int .i64 (wChk c cuts l).2]) ∧ Nw w w' := by
  have HS := Lib.hid (fun W (hq : Nw w W) => states_any (hi.nw hq))
  have HE := Lib.hid (fun z (h : wX c cuts l = .error z) => wX_err h)
  have HL := Lib.hid (wX_len c cuts l)
  have HI := Lib.hid hi
  obtain ⟨r, hr⟩ : ∃ r, r = wChk c cuts l := ⟨_, rfl⟩
  rw [← hr]
  unfold wChk at hr
  obtain ⟨X, hX⟩ : ∃ X, X = wX c cuts l := ⟨_, rfl⟩
  rw [← hX] at HS HE HL hr
  unfold confV at HS ⊢
  haveI hca : ConfAt (w.alloc (cellsOf c 27)) w.heap.size c := ⟨fun i v hv => by unfold cellsOf; unfold ccells at hv; rw [World.cell?_alloc_new]; simpa using hv, by simp⟩
  obtain ⟨W1, hW1⟩ : ∃ W, W = w.alloc (cellsOf c 27) := ⟨_, rfl⟩
  rw [← hW1] at hca
  have hn1 : Nw w W1 := by rw [hW1]; exact nwa
  unfold cellsOf at hW1
  have HW1 := Lib.hid hW1
  have HN1 := Lib.hid hn1
  haveI : In w.heap.size W1 := ⟨hca.lt⟩
  clear hW1 hn1 hi hX
  cases X with
  | error z =>
    simp only at hr
    subst hr
    obtain ⟨z1, z2⟩ := r
    have hne : (z2 != 0) = true := by simpa using HE.out (z1, z2) rfl
    go_enter Tryz.func9, Tryz.ntmps9
    go_upto_region 1 with (fail)
    rw [← HW1.out]
    go_wp2_with fail
    refine (HS.out W1 HN1.out).mono ?_
    intro e W2 hP
    unfold StP at hP
    obtain ⟨rfl, hn2⟩ := hP
    have HN2 := Lib.hid hn2
    clear hn2
    go_wp2
    exact bodyPost_ret (results_tmp2 rfl _ _ _) rfl ⟨rfl, HN1.out.trans HN2.out⟩
  | ok out =>
    obtain ⟨R, hR⟩ : ∃ R, R = badR out l 0 := ⟨_, rfl⟩
    simp only [← hR] at hr
    have HR := Lib.hid hR
    have HRR := Lib.hid hr
    clear hR hr
    go_enter Tryz.func9, Tryz.ntmps9
    go_upto_region 1 with (fail)
    rw [← HW1.out]
    go_wp2_with fail
    refine (HS.out W1 HN1.out).mono ?_
    intro e W2 hP
    unfold StP at hP
    obtain ⟨v, zs, rfl, hsts, hn2⟩ := hP
    have hexp := fun W' (hq : Nw W2 W') (x : Cl) => explains_any (hsts.nw hq) (by have := HL.out out rfl; have := HI.out.n1; have := HI.out.hl.1; omega) x
    obtain ⟨Av, cv', rfl⟩ := own_slice hsts.row
    obtain ⟨nz, hnz⟩ : ∃ k, k = zs.length := ⟨_, rfl⟩
    rw [← hnz] at hexp ⊢
    have HX := Lib.hid hexp
    have HRD := Lib.hid (fun x W' => read_any x W')
    have HC2 := Lib.hid (HI.out.hl.nw (HN1.out.trans hn2))
    have HN2 := Lib.hid (HN1.out.trans hn2)
    have HI1 := Lib.hid HI.out.n1
    clear hsts hexp hn2 hnz
    go_wp2_with fail
    go_loopw [7, 8, 22] (fun _ _ a wr => ∃ k : Nat, k ≤ n ∧ a = .int .i64 k ∧ Nw W2 wr ∧ Hid (badR out (l.drop k) k = R)) (fun _ _ a _ => n - (intOf a).toNat)
    case atStart => exact ⟨0, Nat.zero_le _, rfl, nwa, by have := HR.out; exact Lib.hid (by rw [this]; rfl)⟩
    case round =>
      obtain ⟨k, hk, rfl, ⟨d, rfl⟩, hst⟩ := hrel
      by_cases hlt : k < n
      · obtain ⟨b, o, x, rfl, hb, hx, hcx⟩ := HC2.out.get hlt
        haveI : CallAt W2 b (o + k * 18) x := ⟨hcx, hb⟩
        haveI : In b W2 := ⟨hb⟩
        have HD := Lib.hid (badR_drop (maps := out) hx)
        have i1 : (k : Int) < (n : Int) := by omega
        have i3 : k < 1000000 := by have := HI1.out; omega
        obtain ⟨rb, hrb⟩ : ∃ rb, rb = readB x := ⟨_, rfl⟩
        have HRB := Lib.hid hrb
        clear hx hcx hb hrb
        go_wp2_with fail
        refine (HRD.out x _).mono ?_
        rintro e w' ⟨rfl, dR, rfl⟩
        rw [← HRB.out]
        cases rb with
        | false =>
          have HN := Lib.hid (show badR out (l.drop (k + 1)) (k + 1) = R by
            have h1 := hst.out
            rw [HD.out, ← HRB.out] at h1
            simpa using h1)
          clear hst
          go_wp2_with fail
          exact ⟨⟨k + 1, by omega, by go_num, nwa, HN⟩, by simp [intOf]; omega⟩
        | true =>
          obtain ⟨m, hm⟩ : ∃ m, m = explM out x := ⟨_, rfl⟩
          have HM := Lib.hid hm
          clear hm
          by_cases hneg : m < 0
          · have d1 : decide (m < 0) = true := by simpa using hneg
            have HN := Lib.hid (show R = some k by
              have h1 := hst.out
              rw [HD.out, ← HRB.out, ← HM.out, d1] at h1
              simpa using h1.symm)
            clear hst hneg
            go_wp2_with fail
            refine (HX.out _ nwa x).mono ?_
            rintro e w' ⟨rfl, dX, rfl⟩
            rw [← HM.out]
            go_wp2_with fail
            refine bodyPost_ret (results_tmp2 rfl _ _ _) rfl ?_
            have : r = ((k : Int), 18) := by have := HRR.out; rw [HN.out] at this; exact this
            rw [this]
            exact ⟨rfl, HN2.out.trans nwa⟩
          · have d1 : decide (m < 0) = false := by simpa using hneg
            have HN := Lib.hid (show badR out (l.drop (k + 1)) (k + 1) = R by
              have h1 := hst.out
              rw [HD.out, ← HRB.out, ← HM.out, d1] at h1
              simpa using h1)
            clear hst hneg
            go_wp2_with fail
            refine (HX.out _ nwa x).mono ?_
            rintro e w' ⟨rfl, dX, rfl⟩
            rw [← HM.out]
            go_wp2_with fail
            exact ⟨⟨k + 1, by omega, by go_num, nwa, HN⟩, by simp [intOf]; omega⟩
      · have hkn : k = n := by omega
        subst hkn
        have HN := Lib.hid (show R = none by
          have h1 := hst.out
          rw [List.drop_of_length_le (by rw [HC2.out.1]; exact Nat.le_refl _)] at h1
          exact h1.symm)
        clear hst
        go_wp2
        refine bodyPost_ret (results_tmp2 rfl _ _ _) rfl ?_
        have : r = (0, 0) := by have := HRR.out; rw [HN.out] at this; exact this
        rw [this]
        exact ⟨rfl, HN2.out.trans nwa⟩
end Go.Proofs.YtmbjpjpdcmjjgaaGreatDoor
namespace Go.Proofs.YtmbjpjpdcmjjgaaGreatDoor
open Go.RowKit Go.Xt
/-! WitnessChanges, plain. -/
def seqF (l : List Cl) : List Nat → Md → Nat → Md
  | _, s, 0 => s
  | [], s, _ + 1 => s
  | i :: t, s, k + 1 => match l[i]?.bind (fitsM s) with
    | some s' => seqF l t s' k
    | none => s
theorem stAt_early (l : List Cl) : ∀ (ord : List Nat) (s : Md) (st : Int), (∀ i ∈ ord, st < tk l i) → stAt l ord s st = s
  | [], _, _, _ => rfl
  | i :: t, s, st, h => by
    rw [stAt]
    cases hx : l[i]? with
    | none => rfl
    | some c =>
      simp only
      have := h i (by simp)
      rw [tk_of hx] at this
      rw [if_neg (by omega)]
theorem stAt_seq (l : List Cl) : ∀ (ord : List Nat) (s : Md), (ord.Pairwise fun i j => tk l i < tk l j) → (runF l ord s).isSome = true → ∀ (k i : Nat) (x : Cl), ord[k]? = some i → l[i]? = some x →
    stAt l ord s x.took = seqF l ord s (k + 1) ∧ stAt l ord s (x.took - 1) = seqF l ord s k ∧ fitsM (seqF l ord s k) x = some (seqF l ord s (k + 1))
  | [], _, _, _, k, i, x, hi, _ => by simp at hi
  | j :: t, s, hp, hr, k, i, x, hi, hx => by
    rw [List.pairwise_cons] at hp
    rw [runF] at hr
    cases hy : l[j]? with
    | none => rw [hy] at hr; cases hr
    | some y =>
      rw [hy] at hr
      simp only at hr
      cases hf : fitsM s y with
      | none => rw [hf] at hr; cases hr
      | some s' =>
        rw [hf] at hr
        simp only at hr
        have e1 : ∀ k, seqF l (j :: t) s (k + 1) = seqF l t s' k := fun k => by rw [seqF, hy]; simp [hf]
        have e2 : ∀ st, y.took ≤ st → stAt l (j :: t) s st = stAt l t s' st := fun st h => by rw [stAt, hy]; simp only; rw [if_pos h, hf]
        have e3 : ∀ st, st < y.took → stAt l (j :: t) s st = s := fun st h => by rw [stAt, hy]; simp only; rw [if_neg (by omega)]
        cases k with
        | zero =>
          simp at hi
          subst hi
          rw [hy] at hx; injection hx with hx; subst hx
          refine ⟨?_, e3 _ (by omega), ?_⟩
          · rw [e2 _ (Int.le_refl _), e1, seqF]
            exact stAt_early l t s' _ (fun i hi => by have := hp.1 i hi; rw [tk_of hy] at this; exact this)
          · rw [e1]; simp only [seqF]; exact hf
        | succ k =>
          have hi' : t[k]? = some i := by simpa using hi
          have hlt : y.took < x.took := by
            have := hp.1 i (List.mem_of_getElem? hi')
            rw [tk_of hy, tk_of hx] at this; exact this
          obtain ⟨h1, h2, h3⟩ := stAt_seq l t s' hp.2 hr k i x hi' hx
          rw [e2 _ (by omega), e2 _ (by omega), e1, e1]
          exact ⟨h1, h2, h3⟩
def woL (k : Int) (l : List (Int × Int)) : List (Int × Int) := l.filter fun p => !decide (p.1 = k)
theorem wo_cons (k : Int) (y : Int × Int) (r : List (Int × Int)) : woL k (y :: r) = if y.1 = k then woL k r else y :: woL k r := by
  unfold woL
  by_cases h : y.1 = k
  · rw [if_pos h, List.filter_cons_of_neg (by simp [h])]
  · rw [if_neg h, List.filter_cons_of_pos (by simp [h])]
theorem at_seq {c : Cf} {cuts : List Nat} {l : List Cl} {o2 : List Sta} (h : wX c cuts l = .ok o2) {k i : Nat} {x : Cl} (hi : (effL l)[k]? = some i) (hx : l[i]? = some x) :
    atF [] o2 x.took = (seqF l (effL l) (s1M c) (k + 1)).l ∧ atF [] o2 (x.took - 1) = (seqF l (effL l) (s1M c) k).l ∧ fitsM (seqF l (effL l) (s1M c) k) x = some (seqF l (effL l) (s1M c) (k + 1)) := by
  obtain ⟨-, hb, hm⟩ := wX_ok h
  have hE := effL_is hb
  have hsp := mapsX_spec hb (s := s1M c) rfl
  rw [hm] at hsp
  obtain ⟨-, ⟨s2, hr, -⟩, hat⟩ := hsp
  obtain ⟨x', hx', h0⟩ := (hE.2 i).1 (List.mem_of_getElem? hi)
  obtain rfl : x' = x := by rw [hx] at hx'; injection hx' with hx'; exact hx'.symm
  obtain ⟨h1, h2, h3⟩ := stAt_seq l (effL l) (s1M c) hE.1 (by rw [hr]; rfl) k i x' hi hx
  rw [hat _ (by omega), hat _ (by omega), h1, h2]
  exact ⟨rfl, rfl, h3⟩
def finL (out : List Sta) : List (Int × Int) := match out.getLast? with | some z => z.2 | none => []
/-! WitnessPrefixes, plain. -/
theorem badR_none {maps : List Sta} : ∀ (l : List Cl) (k : Nat), badR maps l k = none ↔ ∀ x ∈ l, readB x = true → 0 ≤ explM maps x
  | [], k => by simp [badR]
  | x :: r, k => by
    rw [badR]
    by_cases h : (readB x && decide (explM maps x < 0)) = true
    · rw [if_pos h]
      simp only [Bool.and_eq_true, decide_eq_true_eq] at h
      constructor
      · intro h2; cases h2
      · intro h2; have := h2 x (by simp) h.1; omega
    · rw [if_neg h, badR_none r (k + 1)]
      simp only [Bool.and_eq_true, decide_eq_true_eq, not_and] at h
      constructor
      · intro h2 y hy hr
        rcases List.mem_cons.1 hy with rfl | hy
        · have := h hr; omega
        · exact h2 y hy hr
      · intro h2 y hy; exact h2 y (by simp [hy])
theorem wChk_ok {c : Cf} {cuts : List Nat} {l : List Cl} : (wChk c cuts l).2 = 0 ↔ ∃ o2, wX c cuts l = .ok o2 ∧ badR o2 l 0 = none := by
  unfold wChk
  cases h : wX c cuts l with
  | error z =>
    constructor
    · intro h2; exact absurd h2 (wX_err h)
    · rintro ⟨o2, h2, -⟩; cases h2
  | ok o2 =>
    simp only
    cases hb : badR o2 l 0 with
    | none => exact ⟨fun _ => ⟨o2, rfl, hb⟩, fun _ => rfl⟩
    | some i =>
      constructor
      · intro h2; exact absurd (show (18 : Int) = 0 from h2) (by decide)
      · rintro ⟨o3, h2, h3⟩; injection h2 with h2; subst h2; rw [hb] at h3; cases h3
theorem wpfx_op (st : Int) (x : Cl) : opC (pfx st x) = opC x := by simp only [opC, pfx]; (repeat' split) <;> rfl
theorem fits_pfx {s : Int} (hs : -1 ≤ s) {m m' : Md} {x : Cl} (hw : x.took ≤ s) (h : fitsM m x = some m') : fitsM m (pfx s x) = some m' := by
  by_cases ha : s < x.ans
  · have h0 : ¬ x.ans < 0 ∨ x.ans < 0 := by omega
    have hl : lateB x = false := by
      cases hl : lateB x with
      | false => rfl
      | true => unfold fitsM at h; rw [if_pos hl] at h; cases h
    have hneg : ¬ x.ans < 0 := by omega
    · have hlt : x.took < x.ans := by omega
      have hk : writesB x.kd = true ∧ x.re = 0 := by
        unfold lateB at hl
        rw [decide_eq_true hlt, Bool.or_true, Bool.true_and] at hl
        simp only [Bool.or_eq_false_iff, Bool.not_eq_false', Bool.and_eq_false_iff, decide_eq_false_iff_not] at hl
        refine ⟨hl.1, ?_⟩
        rcases hl.2 with h2 | h2
        · omega
        · simpa using h2
      have hkk : 4 ≤ x.kd ∧ x.kd ≤ 9 := by have := hk.1; unfold writesB at this; simpa using this
      have hr : readB x = false := by unfold readB; simp; omega
      have hx : fitsM m x = if (acceptM m x.th (opC x) (rsC x)).1 = true then some (acceptM m x.th (opC x) (rsC x)).2 else none := by
        unfold fitsM; rw [if_neg (by simp [hl]), if_neg (by simp [hr])]; unfold nextM; rw [if_neg hneg]
      have hacc : (acceptM m x.th (opC x) (rsC x)).1 = true := by
        cases hq : (acceptM m x.th (opC x) (rsC x)).1 with
        | true => rfl
        | false => rw [hx, hq] at h; simp at h
      have hst := write_acc (s := m) (t := x.th) (o := opC x) (r := rsC x) hkk hk.2 hacc
      rw [hx, if_pos hacc, hst] at h
      have hp1 : (pfx s x).ans = -1 := by rw [pfx_ans, if_pos ha]
      have hp2 : (pfx s x).kd = x.kd := by unfold pfx; (repeat' split) <;> rfl
      have hl2 : lateB (pfx s x) = false := by unfold lateB; rw [hp1, hp2, hk.1]; simp
      have hr2 : readB (pfx s x) = false := by unfold readB; rw [hp1]; simp
      unfold fitsM; rw [if_neg (by simp [hl2]), if_neg (by simp [hr2])]; unfold nextM; rw [if_pos (by omega), pfx_th, wpfx_op]; exact h
  · have e : pfx s x = x := by
      unfold pfx
      rw [if_neg ha, if_neg (by omega)]
    rw [e]; exact h
end Go.Proofs.YtmbjpjpdcmjjgaaGreatDoor
namespace Go.Proofs.YtmbjpjpdcmjjgaaGreatDoor
open Go.RowKit Go.Xt
/-! WitnessAlone, plain. -/
theorem traj (l : List Cl) : ∀ (ord : List Nat) (T : Nat → Md) (K : Nat), (∀ k, k < K → ∃ i x, ord[k]? = some i ∧ l[i]? = some x ∧ fitsM (T k) x = some (T (k + 1))) →
    (∀ k, k ≤ K → seqF l ord (T 0) k = T k) ∧ (ord.length = K → runF l ord (T 0) = some (T K))
  | [], T, K, h => by
    cases K with
    | zero =>
      refine ⟨fun k hk => ?_, fun _ => rfl⟩
      obtain rfl : k = 0 := by omega
      rfl
    | succ K =>
      obtain ⟨i, x, hi, -⟩ := h 0 (by omega)
      simp at hi
  | j :: t, T, K, h => by
    cases K with
    | zero =>
      refine ⟨fun k hk => ?_, fun hl => by simp at hl⟩
      obtain rfl : k = 0 := by omega
      rfl
    | succ K =>
      obtain ⟨i, x, hi, hx, hf⟩ := h 0 (by omega)
      simp at hi
      subst hi
      obtain ⟨h1, h2⟩ := traj l t (fun k => T (k + 1)) K (fun k hk => by
        obtain ⟨i, y, hi, hy, hg⟩ := h (k + 1) (by omega)
        exact ⟨i, y, by simpa using hi, hy, hg⟩)
      refine ⟨fun k hk => ?_, fun hl => ?_⟩
      · cases k with
        | zero => rfl
        | succ k => rw [seqF, hx]; simp only [Option.bind_some, hf]; exact h1 k (by omega)
      · rw [runF, hx]; simp only; rw [hf]; exact h2 (by simpa using hl)
def stD (s : Md) (h : List Cl) : Md := h.foldl (fun s x => (doM s x.th (opC x)).2) s
theorem stD_snoc (s : Md) (h : List Cl) (x : Cl) : stD s (h ++ [x]) = (doM (stD s h) x.th (opC x)).2 := by unfold stD; rw [List.foldl_append]; rfl
theorem stD_take {s : Md} {h : List Cl} {k : Nat} {x : Cl} (hx : h[k]? = some x) : stD s (h.take (k + 1)) = (doM (stD s (h.take k)) x.th (opC x)).2 := by
  obtain ⟨p, e⟩ := List.getElem?_eq_some_iff.1 hx
  rw [List.take_succ_eq_append_getElem p, stD_snoc, e]
structure AlS (h : List Cl) : Prop where
  inv : ∀ (i : Nat) (x : Cl), h[i]? = some x → x.inv = 3 * (i : Int) ∧ x.took = 3 * (i : Int) + 2 ∧ x.ans = 3 * (i : Int) + 2 ∧ x.st = 2
  ix : ∀ (i : Nat) (x : Cl), h[i]? = some x → x.ix = ((ofT x.th (h.take i)).length : Nat)
  th : ∀ (i : Nat) (x : Cl), h[i]? = some x → 0 ≤ x.th ∧ x.th < 64
theorem AlS.nil : AlS [] := ⟨fun i x h => by simp at h, fun i x h => by simp at h, fun i x h => by simp at h⟩
theorem snoc_get {h : List Cl} {x y : Cl} {i : Nat} (hy : (h ++ [x])[i]? = some y) : (h[i]? = some y ∧ i < h.length ∧ (h ++ [x]).take i = h.take i) ∨ (i = h.length ∧ y = x ∧ (h ++ [x]).take i = h) := by
  by_cases hi : i < h.length
  · left
    rw [List.getElem?_append_left hi] at hy
    exact ⟨hy, hi, List.take_append_of_le_length (by omega)⟩
  · right
    have h1 := (List.getElem?_eq_some_iff.1 hy).1
    simp at h1
    obtain rfl : i = h.length := by omega
    rw [List.getElem?_append_right (by omega)] at hy
    simp at hy
    exact ⟨rfl, hy.symm, by simp⟩
theorem AlS.snoc {h : List Cl} (ha : AlS h) {x : Cl} (h1 : x.inv = 3 * (h.length : Int) ∧ x.took = 3 * (h.length : Int) + 2 ∧ x.ans = 3 * (h.length : Int) + 2 ∧ x.st = 2) (h2 : x.ix = ((ofT x.th h).length : Nat)) (h3 : 0 ≤ x.th ∧ x.th < 64) : AlS (h ++ [x]) := by
  refine ⟨fun i y hy => ?_, fun i y hy => ?_, fun i y hy => ?_⟩ <;> rcases snoc_get hy with ⟨h4, -, h5⟩ | ⟨rfl, rfl, h5⟩
  · exact ha.inv i y h4
  · exact h1
  · rw [h5]; exact ha.ix i y h4
  · rw [h5]; exact h2
  · exact ha.th i y h4
  · exact h3
def AlR (s : Md) (h : List Cl) : Prop := ∀ (i : Nat) (x : Cl), h[i]? = some x → rsC x = (doM (stD s (h.take i)) x.th (opC x)).1
theorem AlR.snoc {s : Md} {h : List Cl} (ha : AlR s h) {x : Cl} (h1 : rsC x = (doM (stD s h) x.th (opC x)).1) : AlR s (h ++ [x]) := fun i y hy => by
  rcases snoc_get hy with ⟨h4, -, h5⟩ | ⟨rfl, rfl, h5⟩
  · rw [h5]; exact ha i y h4
  · rw [h5]; exact h1
theorem AlS.bad {h : List Cl} (ha : AlS h) : bad h = none := by
  refine (badFrom_none h h.length 0 (by omega)).2 fun j x _ hx => ?_
  have hi := ha.inv j x hx
  have hix := ha.ix j x hx
  have hth := ha.th j x hx
  have prev : ∀ y ∈ h.take j, ∃ m : Nat, m < j ∧ h[m]? = some y := fun y hy => by
    obtain ⟨m, hm⟩ := List.mem_iff_getElem?.1 hy
    rw [List.getElem?_take] at hm
    split at hm
    · rename_i hlt; exact ⟨m, hlt, hm⟩
    · cases hm
  simp only [goodP, Bool.and_eq_true]
  refine ⟨?_, ?_, ?_, ?_, ?_⟩
  · unfold ordF
    simp only [Bool.and_eq_true, decide_eq_true_eq]
    refine ⟨hth.1, hth.2, hix, by omega, ?_⟩
    cases hl : (h.take j).getLast? with
    | none => rfl
    | some z =>
      obtain ⟨m, hm, hz⟩ := prev z (List.mem_of_getLast? hl)
      have := (ha.inv m z hz).1
      simp only [decide_eq_true_eq]
      omega
  · unfold effF; simp; omega
  · unfold endF
    rw [if_neg (by omega), if_neg (by omega)]
    simp; omega
  · unfold aftF
    cases hl : (ofT x.th (h.take j)).getLast? with
    | none => rfl
    | some z =>
      have hz := List.mem_of_getLast? hl
      obtain ⟨m, hm, hz⟩ := prev z (List.mem_filter.1 hz).1
      have := ha.inv m z hz
      simp only [bf, Bool.and_eq_true, decide_eq_true_eq]
      omega
  · unfold apaF
    rw [List.all_eq_true]
    intro y hy
    obtain ⟨m, hm, hz⟩ := prev y hy
    have hq := ha.inv m y hz
    have : meetF y x = false := by
      cases hmt : meetF y x with
      | false => rfl
      | true =>
        exfalso
        unfold meetF at hmt
        rw [List.any_eq_true] at hmt
        obtain ⟨a, ha', hmt⟩ := hmt
        rw [List.any_eq_true] at hmt
        obtain ⟨b, hb', hab⟩ := hmt
        simp only [stepsL, List.mem_filter, List.mem_cons, List.not_mem_nil, or_false] at ha' hb'
        have hab : a = b := by simpa using hab
        rw [hq.1, hq.2.1, hq.2.2.1] at ha'
        rw [hi.1, hi.2.1, hi.2.2.1] at hb'
        omega
    rw [this]; simp
theorem AlS.eff {h : List Cl} (ha : AlS h) : effL h = List.range h.length := by
  refine (effL_is ha.bad).unique ⟨?_, fun i => ⟨fun hi => ?_, fun ⟨x, hx, _⟩ => ?_⟩⟩
  · refine (List.pairwise_lt_range).imp_of_mem fun {a b} ha' hb' hab => ?_
    rw [List.mem_range] at ha' hb'
    have h1 := (ha.inv a _ (List.getElem?_eq_getElem ha')).2.1
    have h2 := (ha.inv b _ (List.getElem?_eq_getElem hb')).2.1
    rw [tk_of (List.getElem?_eq_getElem ha'), tk_of (List.getElem?_eq_getElem hb')]
    omega
  · rw [List.mem_range] at hi
    have h1 := (ha.inv i _ (List.getElem?_eq_getElem hi)).2.1
    exact ⟨_, List.getElem?_eq_getElem hi, by omega⟩
  · rw [List.mem_range]; exact (List.getElem?_eq_some_iff.1 hx).1
theorem fits_do {s : Md} {x : Cl} (hr : rsC x = (doM s x.th (opC x)).1) (ha : 0 ≤ x.ans) (ht : x.took = x.ans) : fitsM s x = some (doM s x.th (opC x)).2 := by
  have hl : lateB x = false := by unfold lateB; simp; omega
  unfold fitsM
  rw [if_neg (by simp [hl])]
  by_cases hb : readB x = true
  · rw [if_pos hb]
    have he : (doM s x.th (opC x)).1.err = 0 := by
      rw [← hr]
      unfold readB at hb
      simp only [Bool.and_eq_true, decide_eq_true_eq] at hb
      exact hb.2.2
    rw [if_pos he]
  · rw [if_neg hb]
    unfold nextM
    rw [if_neg (by omega), hr, acc_do]
    simp
theorem AlS.run {h : List Cl} (ha : AlS h) {s : Md} (K : Nat) (hr : ∀ (i : Nat) (x : Cl), i < K → h[i]? = some x → rsC x = (doM (stD s (h.take i)) x.th (opC x)).1) (hK : K ≤ h.length) :
    (∀ k, k ≤ K → seqF h (effL h) s k = stD s (h.take k)) ∧ (h.length = K → runF h (effL h) s = some (stD s h)) := by
  have ht := traj h (effL h) (fun k => stD s (h.take k)) K (fun k hk => by
    have hx := List.getElem?_eq_getElem (l := h) (show k < h.length by omega)
    have hi := ha.inv k _ hx
    refine ⟨k, _, ?_, hx, ?_⟩
    · rw [ha.eff, List.getElem?_range (by omega)]
    · rw [stD_take hx]
      exact fits_do (hr k _ hk hx) (by omega) (by omega))
  refine ⟨ht.1, fun hl => ?_⟩
  have := ht.2 (by rw [ha.eff, List.length_range]; exact hl)
  rw [← hl, List.take_length] at this
  exact this
def setR (x : Cl) (r : Rs) : Cl := { x with re := r.err, rf := r.fd, rk := r.key, rv := r.val, rc := r.cnt }
theorem ofT_th (t : Int) : ∀ (a b : List Cl), a.map (·.th) = b.map (·.th) → (ofT t a).length = (ofT t b).length
  | [], [], _ => rfl
  | [], _ :: _, h => by cases h
  | _ :: _, [], h => by cases h
  | x :: a, y :: b, h => by
    simp only [List.map_cons, List.cons.injEq] at h
    have ih := ofT_th t a b h.2
    unfold ofT at ih ⊢
    by_cases hx : x.th = t
    · rw [List.filter_cons_of_pos (by simpa using hx), List.filter_cons_of_pos (by rw [← h.1]; simpa using hx)]; simp [ih]
    · rw [List.filter_cons_of_neg (by simpa using hx), List.filter_cons_of_neg (by rw [← h.1]; simpa using hx)]; exact ih
theorem setR_th {h : List Cl} {k : Nat} {x : Cl} (hx : h[k]? = some x) (r : Rs) : (h.set k (setR x r)).map (·.th) = h.map (·.th) := by
  rw [List.map_set]
  refine List.ext_getElem? fun i => ?_
  by_cases hi : k = i
  · subst hi
    rw [List.getElem?_set_self (by rw [List.length_map]; exact (List.getElem?_eq_some_iff.1 hx).1), List.getElem?_map, hx]; rfl
  · rw [List.getElem?_set_ne hi]
theorem AlS.setR {h : List Cl} (ha : AlS h) {k : Nat} {x : Cl} (hx : h[k]? = some x) (r : Rs) : AlS (h.set k (setR x r)) := by
  have get : ∀ (i : Nat) (y : Cl), (h.set k (Proofs.YtmbjpjpdcmjjgaaGreatDoor.setR x r))[i]? = some y → ∃ z, h[i]? = some z ∧ y.inv = z.inv ∧ y.took = z.took ∧ y.ans = z.ans ∧ y.st = z.st ∧ y.ix = z.ix ∧ y.th = z.th := fun i y hy => by
    by_cases hi : k = i
    · subst hi
      rw [List.getElem?_set_self (List.getElem?_eq_some_iff.1 hx).1] at hy
      injection hy with hy; subst hy
      exact ⟨x, hx, rfl, rfl, rfl, rfl, rfl, rfl⟩
    · rw [List.getElem?_set_ne hi] at hy
      exact ⟨y, hy, rfl, rfl, rfl, rfl, rfl, rfl⟩
  refine ⟨fun i y hy => ?_, fun i y hy => ?_, fun i y hy => ?_⟩ <;> obtain ⟨z, hz, e1, e2, e3, e4, e5, e6⟩ := get i y hy
  · rw [e1, e2, e3, e4]; exact ha.inv i z hz
  · rw [e5, e6, ha.ix i z hz]
    congr 1
    refine ofT_th _ _ _ ?_
    rw [List.map_take, List.map_take, setR_th hx]
  · rw [e6]; exact ha.th i z hz
end Go.Proofs.YtmbjpjpdcmjjgaaGreatDoor
namespace Go.Proofs.YtmbjpjpdcmjjgaaGreatDoor
open Go.RowKit Go.Xt
/-! WitnessOrders, plain. -/
def stI (out : List Sta) (l : List Cl) (i : Nat) : Int := match l[i]? with
  | some x => if readB x = true then explM out x else x.took
  | none => 0
def rdI (l : List Cl) (i : Nat) : Bool := match l[i]? with
  | some x => readB x
  | none => false
structure WOrd (out : List Sta) (l : List Cl) (o : List Nat) : Prop where
  perm : o.Perm (idxK l l.length)
  sorted : o.Pairwise fun i j => stI out l i < stI out l j ∨ (stI out l i = stI out l j ∧ (rdI l i = true → rdI l j = true))
theorem WOrd.mem {out : List Sta} {l : List Cl} {o : List Nat} (h : WOrd out l o) {i : Nat} : i ∈ o ↔ ∃ x, l[i]? = some x ∧ 0 ≤ x.took := by
  rw [h.perm.mem_iff, idxK_mem]
  exact ⟨fun h => h.2, fun ⟨x, hx, h0⟩ => ⟨(List.getElem?_eq_some_iff.1 hx).1, x, hx, h0⟩⟩
theorem WOrd.nodup {out : List Sta} {l : List Cl} {o : List Nat} (h : WOrd out l o) : o.Nodup := h.perm.nodup_iff.2 (idxK_nodup l _)
theorem WOrd.ord {out : List Sta} {l : List Cl} {o : List Nat} (h : WOrd out l o) : Ord l.length o := ⟨h.nodup, fun i hi => by
  obtain ⟨x, hx, -⟩ := h.mem.1 hi
  exact (List.getElem?_eq_some_iff.1 hx).1⟩
theorem read_facts {l : List Cl} (hb : bad l = none) {i : Nat} {x : Cl} (hx : l[i]? = some x) (hr : readB x = true) : x.kd = 3 ∧ x.re = 0 ∧ 0 ≤ x.ans ∧ 0 ≤ x.took ∧ x.took ≤ x.ans ∧ x.inv ≤ x.took ∧ 0 ≤ x.inv := by
  unfold readB at hr
  simp only [Bool.and_eq_true, decide_eq_true_eq] at hr
  have h1 := ans_ge hb hx hr.2.1
  exact ⟨hr.1, hr.2.2, hr.2.1, h1.1, h1.2, took_le hb hx h1.1, inv_nonneg hb hx⟩
theorem stI_in {maps : List Sta} {l : List Cl} (hb : bad l = none) (hM : Maps maps) (hR : badR maps l 0 = none) {i : Nat} {x : Cl} (hx : l[i]? = some x) (h0 : 0 ≤ x.took) : x.inv ≤ stI maps l i ∧ (0 ≤ x.ans → stI maps l i ≤ x.ans) := by
  unfold stI
  rw [hx]
  simp only
  by_cases hr : readB x = true
  · rw [if_pos hr]
    obtain ⟨-, -, h1, h2, h3, h4, h5⟩ := read_facts hb hx hr
    have hex := (badR_none l 0).1 hR x (List.mem_of_getElem? hx) hr
    rcases explM_spec hM h5 (by omega : x.inv ≤ x.ans) with ⟨-, -, -, a, b, -⟩ | ⟨a, -⟩
    · exact ⟨a, fun _ => b⟩
    · omega
  · rw [if_neg hr]
    exact ⟨took_le hb hx h0, fun ha => (ans_ge hb hx ha).2⟩
theorem WOrd.ok {maps : List Sta} {l : List Cl} (hb : bad l = none) (hM : Maps maps) (hR : badR maps l 0 = none) {o : List Nat} (h : WOrd maps l o) : ordOk l o := by
  intro k q i x y hq hy hx
  cases hbf : bf x y with
  | false => exact .inr rfl
  | true =>
    left
    simp only [bf, Bool.and_eq_true, decide_eq_true_eq] at hbf
    have h1 := ans_ge hb hx hbf.1
    have hm : i ∈ o := h.mem.2 ⟨x, hx, h1.1⟩
    obtain ⟨y', hy', hy0⟩ := h.mem.1 (List.mem_of_getElem? hq)
    obtain rfl : y = y' := by rw [hy] at hy'; injection hy'
    obtain ⟨j, hj⟩ := List.mem_iff_getElem?.1 hm
    have s1 := stI_in hb hM hR hx h1.1
    have s2 := stI_in hb hM hR hy hy0
    rcases Nat.lt_trichotomy j k with hjk | hjk | hjk
    · exact mem_take hj hjk
    · exfalso
      subst hjk
      rw [hj] at hq; injection hq with hq; subst hq
      rw [hx] at hy; injection hy with hy; subst hy
      have := took_le hb hx h1.1
      omega
    · exfalso
      obtain ⟨p1, e1⟩ := List.getElem?_eq_some_iff.1 hq
      obtain ⟨p2, e2⟩ := List.getElem?_eq_some_iff.1 hj
      have h3 := List.pairwise_iff_getElem.1 h.sorted k j p1 p2 hjk
      rw [e1, e2] at h3
      have h4 := s1.2 hbf.1
      rcases h3 with h3 | h3 <;> omega
theorem fits_read {s s' : Md} {x : Cl} (hf : fitsM s x = some s') (hr : readB x = true) : s' = s ∧ (doM s x.th (opC x)).1.err = 0 := by
  unfold fitsM at hf
  split at hf
  · cases hf
  · rename_i hlt
    have hf : (if (doM s x.th (opC x)).1.err = 0 then some (doM s x.th (opC x)).2 else none) = some s' := by
      first | exact hf | (rw [if_pos hr] at hf; exact hf)
    split at hf
    · rename_i h1
      injection hf with hf
      unfold readB at hr
      simp only [Bool.and_eq_true, decide_eq_true_eq] at hr
      exact ⟨by rw [← hf]; exact (get_same (o := opC x) hr.1).1, h1⟩
    · cases hf
theorem fits_next {s s' : Md} {x : Cl} (hf : fitsM s x = some s') (hr : readB x = false) : nextM s x = some s' := by
  unfold fitsM at hf
  split at hf
  · cases hf
  · rw [if_neg (by simp [hr])] at hf; exact hf
theorem runF_app (l : List Cl) : ∀ (a b : List Nat) (s : Md), runF l (a ++ b) s = (runF l a s).bind fun s' => runF l b s'
  | [], b, s => rfl
  | i :: a, b, s => by
    rw [List.cons_append, runF, runF]
    cases hx : l[i]? with
    | none => rfl
    | some x =>
      simp only
      cases hf : fitsM s x with
      | none => rfl
      | some s' => exact runF_app l a b s'
theorem runF_nr (l : List Cl) : ∀ (ys : List Nat) (s s2 : Md), runF l ys s = some s2 → runF l (ys.filter fun i => !rdI l i) s = some s2
  | [], s, s2, h => h
  | i :: t, s, s2, h => by
    rw [runF] at h
    cases hx : l[i]? with
    | none => rw [hx] at h; cases h
    | some x =>
      rw [hx] at h
      simp only at h
      cases hf : fitsM s x with
      | none => rw [hf] at h; cases h
      | some s' =>
        rw [hf] at h
        simp only at h
        have hrd : rdI l i = readB x := by unfold rdI; rw [hx]
        cases hr : readB x with
        | true =>
          rw [List.filter_cons_of_neg (by rw [hrd, hr]; simp)]
          have := (fits_read hf hr).1
          subst this
          exact runF_nr l t s' s2 h
        | false =>
          rw [List.filter_cons_of_pos (by rw [hrd, hr]; simp), runF, hx]
          simp only
          rw [hf]
          exact runF_nr l t s' s2 h
theorem runF_at (l : List Cl) (e : Int) : ∀ (ys : List Nat) (s : Md), (ys.Pairwise fun i j => tk l i < tk l j) → (runF l ys s).isSome = true → runF l (ys.filter fun i => !rdI l i && decide (tk l i ≤ e)) s = some (stAt l ys s e)
  | [], s, _, _ => rfl
  | i :: t, s, hp, h => by
    rw [List.pairwise_cons] at hp
    rw [runF] at h
    rw [stAt]
    cases hx : l[i]? with
    | none => rw [hx] at h; cases h
    | some x =>
      rw [hx] at h
      simp only at h ⊢
      cases hf : fitsM s x with
      | none => rw [hf] at h; cases h
      | some s' =>
        rw [hf] at h
        simp only at h ⊢
        have htk : tk l i = x.took := tk_of hx
        have hrd : rdI l i = readB x := by unfold rdI; rw [hx]
        by_cases hle : x.took ≤ e
        · rw [if_pos hle]
          have ih := runF_at l e t s' hp.2 h
          cases hr : readB x with
          | true =>
            rw [List.filter_cons_of_neg (by rw [hrd, hr]; simp)]
            have := (fits_read hf hr).1
            subst this
            exact ih
          | false =>
            rw [List.filter_cons_of_pos (by rw [hrd, hr, htk]; simp [hle]), runF, hx]
            simp only
            rw [hf]
            exact ih
        · rw [if_neg hle]
          have : ((i :: t).filter fun i => !rdI l i && decide (tk l i ≤ e)) = [] := by
            rw [List.filter_eq_nil_iff]
            intro j hj
            have : e < tk l j := by
              rcases List.mem_cons.1 hj with rfl | hj
              · omega
              · have := hp.1 j hj; omega
            simp; omega
          rw [this]; rfl
/-! What other threads do leaves a thread alone. -/
theorem perf_th (s : Md) (t : Nat) (x : Th) (o : Ox) {u : Nat} (hu : u ≠ t) : (perfM s t x o).2.th[u]? = s.th[u]? := by
  unfold perfM
  by_cases k1 : o.k = 1
  · rw [if_pos k1]
    show (openM s t x).th[u]? = _; unfold openM; split <;> first | rfl | exact List.getElem?_set_ne (Ne.symm hu)
  rw [if_neg k1]
  by_cases k2 : o.k = 2
  · rw [if_pos k2]
    exact List.getElem?_set_ne (Ne.symm hu)
  rw [if_neg k2]
  by_cases k3 : o.k = 3
  · rw [if_pos k3]
  rw [if_neg k3]
  by_cases k4 : o.k = 4
  · rw [if_pos k4]
  rw [if_neg k4]
  by_cases k5 : o.k = 5
  · rw [if_pos k5]
  rw [if_neg k5]
  by_cases k6 : o.k = 6
  · rw [if_pos k6]
  rw [if_neg k6]
  by_cases k7 : o.k = 7
  · rw [if_pos k7]
  rw [if_neg k7]
  by_cases k8 : o.k = 8
  · rw [if_pos k8]
  rw [if_neg k8]
  by_cases k9 : o.k = 9
  · rw [if_pos k9]
  rw [if_neg k9]
  by_cases k10 : o.k = 10
  · rw [if_pos k10]
  rw [if_neg k10]
  by_cases k11 : o.k = 11
  · rw [if_pos k11]
    exact List.getElem?_set_ne (Ne.symm hu)
  rw [if_neg k11]
  by_cases k12 : o.k = 12
  · rw [if_pos k12]
    cases nextL x.lo x.hi s.l <;> exact List.getElem?_set_ne (Ne.symm hu)
  rw [if_neg k12]
  by_cases k13 : o.k = 13
  · rw [if_pos k13]
    exact List.getElem?_set_ne (Ne.symm hu)
  rw [if_neg k13]
  by_cases k14 : o.k = 14
  · rw [if_pos k14]
    exact List.getElem?_set_ne (Ne.symm hu)
  rw [if_neg k14]
theorem do_th {s : Md} {t : Int} {o : Ox} {u : Nat} (hu : (u : Int) ≠ t) : (doM s t o).2.th[u]? = s.th[u]? := by
  by_cases hr : refM s t o = 0
  · obtain ⟨n, x, rfl, hx, hc, hre, hd⟩ := refM_zero hr
    rw [hd]; exact perf_th s n x o (by omega)
  · have e : doM s t o = (⟨refM s t o, false, 0, 0, 0⟩, s) := by unfold doM; rw [if_pos hr]
    rw [e]
theorem acc_th {s : Md} {t : Int} {o : Ox} {r : Rs} {u : Nat} (hu : (u : Int) ≠ t) : (acceptM s t o r).2.th[u]? = s.th[u]? := by
  by_cases hr : refM s t o = 0
  · obtain ⟨n, x, rfl, hx, hc, hre, hd⟩ := refM_zero hr
    have hne : n ≠ u := by omega
    unfold acceptM
    rw [if_neg (fun h => h hr), Int.toNat_natCast, hx]
    simp only
    split
    · rfl
    · split
      · split
        · exact List.getElem?_set_ne hne
        · split
          · exact List.getElem?_set_ne hne
          · rfl
      · split
        · rfl
        · split
          · exact perf_th s n x o (by omega)
          · rfl
  · unfold acceptM; rw [if_pos hr]
theorem fits_th {s s' : Md} {x : Cl} (hf : fitsM s x = some s') {u : Nat} (hu : (u : Int) ≠ x.th ∨ readB x = true) : s'.th[u]? = s.th[u]? := by
  by_cases hr : readB x = true
  · rw [(fits_read hf hr).1]
  · have hu := hu.resolve_right hr
    have hn := fits_next hf (by simpa using hr)
    unfold nextM at hn
    split at hn
    · injection hn with hn; rw [← hn]; exact do_th hu
    · split at hn
      · injection hn with hn; rw [← hn]; exact acc_th hu
      · cases hn
theorem fits_len {s s' : Md} {x : Cl} (hf : fitsM s x = some s') : s'.th.length = s.th.length := by
  unfold fitsM at hf
  split at hf
  · cases hf
  · split at hf
    · split at hf
      · injection hf with hf; rw [← hf]; exact (doM_len _ _ _).1
      · cases hf
    · unfold nextM at hf
      split at hf
      · injection hf with hf; rw [← hf]; exact (doM_len _ _ _).1
      · split at hf
        · injection hf with hf; rw [← hf]; exact wacceptM_len _ _ _ _
        · cases hf
theorem stAt_len (l : List Cl) : ∀ (ys : List Nat) (s : Md) (e : Int), (stAt l ys s e).th.length = s.th.length
  | [], _, _ => rfl
  | i :: t, s, e => by
    rw [stAt]
    cases hx : l[i]? with
    | none => rfl
    | some x =>
      simp only
      split
      · cases hf : fitsM s x with
        | none => rfl
        | some s' => simp only; rw [stAt_len l t s' e, fits_len hf]
      · rfl
theorem stAt_th0 (l : List Cl) (u : Nat) (e : Int) : ∀ (ys : List Nat) (s : Md), (∀ j ∈ ys, tk l j ≤ e → ∀ y, l[j]? = some y → (u : Int) ≠ y.th ∨ readB y = true) → (stAt l ys s e).th[u]? = s.th[u]?
  | [], _, _ => rfl
  | i :: t, s, h => by
    rw [stAt]
    cases hx : l[i]? with
    | none => rfl
    | some x =>
      simp only
      split
      · rename_i hle
        cases hf : fitsM s x with
        | none => rfl
        | some s' =>
          simp only
          rw [stAt_th0 l u e t s' (fun j hj => h j (by simp [hj])), fits_th hf (h i (by simp) (by rw [tk_of hx]; exact hle) x hx)]
      · rfl
theorem stAt_th (l : List Cl) (u : Nat) {e1 e2 : Int} (h12 : e1 ≤ e2) : ∀ (ys : List Nat) (s : Md), (ys.Pairwise fun i j => tk l i < tk l j) → (∀ j ∈ ys, e1 < tk l j → tk l j ≤ e2 → ∀ y, l[j]? = some y → (u : Int) ≠ y.th ∨ readB y = true) → (stAt l ys s e2).th[u]? = (stAt l ys s e1).th[u]?
  | [], _, _, _ => rfl
  | i :: t, s, hp, h => by
    rw [List.pairwise_cons] at hp
    by_cases h1 : tk l i ≤ e1
    · rw [stAt, stAt]
      cases hx : l[i]? with
      | none => rfl
      | some x =>
        rw [tk_of hx] at h1
        simp only
        rw [if_pos (by omega), if_pos h1]
        cases hf : fitsM s x with
        | none => rfl
        | some s' => exact stAt_th l u h12 t s' hp.2 (fun j hj => h j (by simp [hj]))
    · have hall : ∀ j ∈ (i :: t), e1 < tk l j := fun j hj => by
        rcases List.mem_cons.1 hj with rfl | hj
        · omega
        · have := hp.1 j hj; omega
      rw [stAt_early l (i :: t) s e1 hall]
      exact stAt_th0 l u e2 (i :: t) s (fun j hj hle => h j hj (hall j hj) hle)
theorem refM_congr {s s' : Md} {t : Int} {o : Ox} (h1 : s.th.length = s'.th.length) (h2 : s.th[t.toNat]? = s'.th[t.toNat]?) : refM s t o = refM s' t o := by
  unfold refM
  rw [h1, h2]
theorem WOrd.pre {maps : List Sta} {l : List Cl} (hb : bad l = none) {a b : List Nat} {i : Nat} {x : Cl} (h : WOrd maps l (a ++ i :: b)) (hx : l[i]? = some x) :
    (a.filter fun j => !rdI l j) = (effL l).filter fun j => !rdI l j && decide (tk l j ≤ if readB x = true then explM maps x else x.took - 1) := by
  have hE := effL_is hb
  have hnd := h.nodup
  have hin : ∀ j ∈ a ++ i :: b, ∃ y, l[j]? = some y ∧ 0 ≤ y.took := fun j hj => h.mem.1 hj
  have hst : ∀ j y, l[j]? = some y → rdI l j = false → stI maps l j = tk l j := fun j y hy hr => by
    unfold rdI at hr; unfold stI
    rw [hy] at hr ⊢
    simp only at hr ⊢
    rw [if_neg (by simp [hr]), tk_of hy]
  have hne : ∀ j k, j ∈ a ++ i :: b → k ∈ a ++ i :: b → j ≠ k → tk l j ≠ tk l k := fun j k hj hk hjk => by
    obtain ⟨y, hy, y0⟩ := hin j hj
    obtain ⟨z, hz, z0⟩ := hin k hk
    rw [tk_of hy, tk_of hz]
    rcases Nat.lt_or_gt_of_ne hjk with hlt | hlt
    · exact took_ne hb hlt hy hz y0 z0
    · exact Ne.symm (took_ne hb hlt hz hy z0 y0)
  have hpa := List.pairwise_append.1 h.sorted
  have hna := List.nodup_append.1 hnd
  have hia : ∀ j ∈ a, j ≠ i := fun j hj e => hna.2.2 j hj i (by simp) e
  have hib : ∀ j ∈ b, j ≠ i := fun j hj e => by
    have := (List.nodup_cons.1 hna.2.1).1
    rw [← e] at this; exact this hj
  have hrx : rdI l i = readB x := by unfold rdI; rw [hx]
  have hix : stI maps l i = if readB x = true then explM maps x else x.took := by unfold stI; rw [hx]
  refine sorted_eq (R := fun j k => tk l j < tk l k) (fun j h => by omega) (fun j k h1 h2 => by omega) ?_ (hE.1.sublist List.filter_sublist) (fun j => ?_)
  · have hc : a.Pairwise fun j k => stI maps l j < stI maps l k ∨ (stI maps l j = stI maps l k ∧ (rdI l j = true → rdI l k = true)) := hpa.1
    have hd : a.Pairwise fun j k => j ≠ k := hna.1
    refine ((hc.and hd).sublist List.filter_sublist).imp_of_mem fun {j k} hj hk hjk => ?_
    rw [List.mem_filter] at hj hk
    obtain ⟨y, hy, -⟩ := hin j (by simp [hj.1])
    obtain ⟨z, hz, -⟩ := hin k (by simp [hk.1])
    have e1 := hst j y hy (by simpa using hj.2)
    have e2 := hst k z hz (by simpa using hk.2)
    have := hne j k (by simp [hj.1]) (by simp [hk.1]) hjk.2
    rw [e1, e2] at hjk
    rcases hjk.1 with h1 | h1 <;> omega
  · rw [List.mem_filter, List.mem_filter]
    constructor
    · rintro ⟨hj, hr⟩
      obtain ⟨y, hy, y0⟩ := hin j (by simp [hj])
      have e1 := hst j y hy (by simpa using hr)
      refine ⟨(hE.2 j).2 ⟨y, hy, y0⟩, ?_⟩
      have hji := hpa.2.2 j hj i (by simp)
      rw [e1, hix] at hji
      have hn := hne j i (by simp [hj]) (by simp) (hia j hj)
      rw [tk_of hx] at hn
      simp only [Bool.and_eq_true, decide_eq_true_eq]
      refine ⟨hr, ?_⟩
      split
      · rename_i hq; rw [if_pos hq] at hji; rcases hji with h1 | h1 <;> omega
      · rename_i hq; rw [if_neg hq] at hji; rcases hji with h1 | h1 <;> omega
    · rintro ⟨hj, hq⟩
      simp only [Bool.and_eq_true, decide_eq_true_eq] at hq
      obtain ⟨hr, hle⟩ := hq
      obtain ⟨y, hy, y0⟩ := (hE.2 j).1 hj
      have e1 := hst j y hy (by simpa using hr)
      have hm : j ∈ a ++ i :: b := h.mem.2 ⟨y, hy, y0⟩
      refine ⟨?_, hr⟩
      rcases List.mem_append.1 hm with hm | hm
      · exact hm
      · exfalso
        rcases List.mem_cons.1 hm with rfl | hm
        · rw [hx] at hy; injection hy with hy; subst hy
          rw [hrx] at hr
          split at hle
          · rename_i hq; rw [hq] at hr; simp at hr
          · rw [tk_of hx] at hle; omega
        · have hij := (List.pairwise_cons.1 hpa.2.1).1 j hm
          rw [e1, hix] at hij
          split at hle
          · rename_i hq
            rw [if_pos hq] at hij
            rcases hij with h1 | ⟨h1, h2⟩
            · omega
            · have := h2 (by rw [hrx]; exact hq)
              rw [this] at hr; simp at hr
          · rename_i hq
            rw [if_neg hq] at hij
            rcases hij with h1 | h1 <;> omega
theorem WOrd.run {c : Cf} {cuts : List Nat} {l : List Cl} {maps : List Sta} (hw : wX c cuts l = .ok maps) (hR : badR maps l 0 = none) : ∀ (b a : List Nat) (S : Md), WOrd maps l (a ++ b) → runM l (s1M c) a = some S → runF l (a.filter fun j => !rdI l j) (s1M c) = some S →
    ∃ S2, runM l (s1M c) (a ++ b) = some S2 ∧ runF l ((a ++ b).filter fun j => !rdI l j) (s1M c) = some S2
  | [], a, S, _, h1, h2 => ⟨S, by rw [List.append_nil]; exact h1, by rw [List.append_nil]; exact h2⟩
  | i :: b, a, S, h, h1, h2 => by
    obtain ⟨-, hb, hm⟩ := wX_ok hw
    have hE := effL_is hb
    have hsp := mapsX_spec hb (s := s1M c) rfl
    rw [hm] at hsp
    obtain ⟨hM, ⟨s2, hrun, -⟩, hat⟩ := hsp
    obtain ⟨x, hx, h0⟩ := h.mem.1 (show i ∈ a ++ i :: b by simp)
    have hpre := h.pre hb hx
    have hS : S = stAt l (effL l) (s1M c) (if readB x = true then explM maps x else x.took - 1) := by
      have h3 := runF_at l (if readB x = true then explM maps x else x.took - 1) (effL l) (s1M c) hE.1 (by rw [hrun]; rfl)
      rw [← hpre, h2] at h3
      injection h3
    have hmem : i ∈ effL l := (hE.2 i).2 ⟨x, hx, h0⟩
    obtain ⟨k, hk⟩ := List.mem_iff_getElem?.1 hmem
    obtain ⟨q1, q2, q3⟩ := stAt_seq l (effL l) (s1M c) hE.1 (by rw [hrun]; rfl) k i x hk hx
    rw [← q2, ← q1] at q3
    have hrx : rdI l i = readB x := by unfold rdI; rw [hx]
    have happ : a ++ i :: b = (a ++ [i]) ++ b := by simp
    obtain ⟨S', hnext, hfil⟩ : ∃ S', nextM S x = some S' ∧ runF l ((a ++ [i]).filter fun j => !rdI l j) (s1M c) = some S' := by
      by_cases hr : readB x = true
      · rw [if_pos hr] at hS
        obtain ⟨f1, f2, f3, f4, f5, f6, f7⟩ := read_facts hb hx hr
        have hex := (badR_none l 0).1 hR x (List.mem_of_getElem? hx) hr
        rcases explM_spec hM f7 (by omega : x.inv ≤ x.ans) with ⟨a1, a2, a3, a4, a5, a6, -⟩ | ⟨a1, -⟩
        · refine ⟨S, ?_, by rw [List.filter_append, List.filter_cons_of_neg (by rw [hrx, hr]; simp), List.filter_nil, List.append_nil]; exact h2⟩
          have hdo := (fits_read q3 hr).2
          -- the thread is as it was
          have hth := th_range hb hx
          have hthe : S.th[x.th.toNat]? = (stAt l (effL l) (s1M c) (x.took - 1)).th[x.th.toNat]? := by
            have same : ∀ e1 e2 : Int, x.inv ≤ e1 + 1 → e2 ≤ x.ans → ∀ j ∈ effL l, e1 < tk l j → tk l j ≤ e2 → ∀ y, l[j]? = some y → ((x.th.toNat : Nat) : Int) ≠ y.th ∨ readB y = true := fun e1 e2 he1 he2 j hj hj1 hj2 y hy => by
              by_cases hji : j = i
              · subst hji; rw [hx] at hy; injection hy with hy; subst hy; exact .inr hr
              · left
                intro e
                have hty : y.th = x.th := by omega
                rw [tk_of hy] at hj1 hj2
                have y0 : 0 ≤ y.took := by
                  obtain ⟨y', hy', y0⟩ := (hE.2 j).1 hj
                  rw [hy] at hy'; injection hy' with hy'; rw [hy']; exact y0
                rcases Nat.lt_or_gt_of_ne hji with hlt | hlt
                · have hp := prec hb i j y x hlt hy hx hty
                  simp only [bf, Bool.and_eq_true, decide_eq_true_eq] at hp
                  have := (ans_ge hb hy hp.1).2
                  omega
                · have hp := prec hb j i x y hlt hx hy hty.symm
                  simp only [bf, Bool.and_eq_true, decide_eq_true_eq] at hp
                  have := took_le hb hy y0
                  omega
            rw [hS]
            by_cases hle : explM maps x ≤ x.took - 1
            · exact (stAt_th l _ hle (effL l) (s1M c) hE.1 (same _ _ (by omega) (by omega))).symm
            · exact stAt_th l _ (by omega : x.took - 1 ≤ explM maps x) (effL l) (s1M c) hE.1 (same _ _ (by omega) a5)
          have hlen : S.th.length = (stAt l (effL l) (s1M c) (x.took - 1)).th.length := by rw [hS, stAt_len, stAt_len]
          have href := refM_congr (o := opC x) hlen hthe
          have hdoS : (doM S x.th (opC x)).1.err = 0 := by
            have h5 : refM (stAt l (effL l) (s1M c) (x.took - 1)) x.th (opC x) = 0 := by
              by_cases h6 : refM (stAt l (effL l) (s1M c) (x.took - 1)) x.th (opC x) = 0
              · exact h6
              · unfold doM at hdo; rw [if_pos h6] at hdo; exact hdo
            rw [← href] at h5
            obtain ⟨n, y, hn, hy, hc, hre, hd⟩ := refM_zero h5
            rw [hd]
            have hk3 : (opC x).k = 3 := f1
            unfold perfM; simp [hk3]
          have hl : atF [] maps (explM maps x) = S.l := by rw [hS]; exact hat _ (by omega)
          rw [hl] at a6
          unfold agrB1 at a6
          simp only [Bool.and_eq_true, decide_eq_true_eq] at a6
          obtain ⟨g1, g2⟩ := get_acc (s := S) (t := x.th) (o := opC x) (r := rsC x) f1 f2
          unfold nextM
          rw [if_neg (by omega), g1, decide_eq_true ⟨hdoS, a6.1.symm, a2, a6.2.symm, a3⟩, if_pos rfl, g2]
        · omega
      · rw [if_neg hr] at hS
        have hrf : readB x = false := by simpa using hr
        rw [← hS] at q3
        refine ⟨_, fits_next q3 hrf, ?_⟩
        rw [List.filter_append, List.filter_cons_of_pos (by rw [hrx, hrf]; rfl), List.filter_nil, runF_app, h2]
        simp only [Option.bind_some]
        rw [runF, hx]
        simp only
        rw [q3]; rfl
    have hrunM : runM l (s1M c) (a ++ [i]) = some S' := by
      rw [runM_app, h1]
      simp only [Option.bind_some]
      rw [runM, hx]
      simp only [Option.bind_some]
      rw [hnext]; rfl
    rw [happ] at h ⊢
    exact WOrd.run hw hR b (a ++ [i]) S' h hrunM hfil
theorem orders_plain {c : Cf} {cuts : List Nat} {l : List Cl} {maps : List Sta} (hw : wX c cuts l = .ok maps) (hR : badR maps l 0 = none) {o : List Nat} (h : WOrd maps l o) :
    agrE (natI o) l = 0 ∧ agrB (natI o) l = true ∧ (∃ S, runM l (s1M c) o = some S ∧ S.l = finL maps) ∧ (∀ i, i ∈ o ↔ ∃ x, l[i]? = some x ∧ 0 ≤ x.took) := by
  obtain ⟨-, hb, hm⟩ := wX_ok hw
  have hE := effL_is hb
  have hsp := mapsX_spec hb (s := s1M c) rfl
  rw [hm] at hsp
  obtain ⟨hM, ⟨s2, hrun, z, hz, hzs⟩, hat⟩ := hsp
  refine ⟨h.ord.agrE hb, (h.ord.agrB hb).2 (h.ok hb hM hR), ?_, fun i => h.mem⟩
  obtain ⟨S2, r1, r2⟩ := WOrd.run hw hR o [] (s1M c) h rfl rfl
  rw [List.nil_append] at r1 r2
  refine ⟨S2, r1, ?_⟩
  have hfil : (o.filter fun j => !rdI l j) = (effL l).filter fun j => !rdI l j := by
    have hst : ∀ j y, l[j]? = some y → rdI l j = false → stI maps l j = tk l j := fun j y hy hr => by
      unfold rdI at hr; unfold stI
      rw [hy] at hr ⊢
      simp only at hr ⊢
      rw [if_neg (by simp [hr]), tk_of hy]
    refine sorted_eq (R := fun j k => tk l j < tk l k) (fun j h => by omega) (fun j k h1 h2 => by omega) ?_ (hE.1.sublist List.filter_sublist) (fun j => ?_)
    · have hd : o.Pairwise fun j k => j ≠ k := h.nodup
      refine ((h.sorted.and hd).sublist List.filter_sublist).imp_of_mem fun {j k} hj hk hjk => ?_
      rw [List.mem_filter] at hj hk
      obtain ⟨y, hy, y0⟩ := h.mem.1 hj.1
      obtain ⟨w, hw', w0⟩ := h.mem.1 hk.1
      have e1 := hst j y hy (by simpa using hj.2)
      have e2 := hst k w hw' (by simpa using hk.2)
      have hne : tk l j ≠ tk l k := by
        rw [tk_of hy, tk_of hw']
        rcases Nat.lt_or_gt_of_ne hjk.2 with hlt | hlt
        · exact took_ne hb hlt hy hw' y0 w0
        · exact Ne.symm (took_ne hb hlt hw' hy w0 y0)
      rw [e1, e2] at hjk
      rcases hjk.1 with h1 | h1 <;> omega
    · rw [List.mem_filter, List.mem_filter, h.mem, hE.2 j]
  have h3 := runF_nr l (effL l) (s1M c) s2 hrun
  rw [← hfil, r2] at h3
  injection h3 with h3
  rw [h3]
  unfold finL; rw [hz]; exact hzs.symm
end Go.Proofs.YtmbjpjpdcmjjgaaGreatDoor
namespace Go.Proofs.YtmbjpjpdcmjjgaaGreatDoor
open Go.RowKit Go.Xt
/-! Plain: the witness order is a linearization; a history in order has at most one. -/
theorem wit_lin {c : Cf} {cuts : List Nat} {l : List Cl} {maps : List Sta} (hw : wX c cuts l = .ok maps) (hR : badR maps l 0 = none) {o : List Nat} (h : WOrd maps l o) : Lin l (s1M c) o := by
  obtain ⟨-, hb, hm⟩ := wX_ok hw
  have hM : Maps maps := by
    have hsp := mapsX_spec hb (s := s1M c) rfl
    rw [hm] at hsp
    exact hsp.1
  obtain ⟨-, -, ⟨S, hS, -⟩, -⟩ := orders_plain hw hR h
  exact ⟨h.ord, h.ok hb hM hR, by rw [hS]; rfl, fullB_iff.2 fun i x hx ha => h.mem.2 ⟨x, hx, (ans_ge hb hx ha).1⟩⟩
structure InO (h : List Cl) : Prop where
  inv : ∀ (i : Nat) (x : Cl), h[i]? = some x → x.inv = 2 * (i : Int) ∧ x.took = 2 * (i : Int) + 1 ∧ x.ans = 2 * (i : Int) + 1 ∧ x.st = 2
  ix : ∀ (i : Nat) (x : Cl), h[i]? = some x → x.ix = ((ofT x.th (h.take i)).length : Nat)
  th : ∀ (i : Nat) (x : Cl), h[i]? = some x → 0 ≤ x.th ∧ x.th < 64
theorem InO.bad {h : List Cl} (ha : InO h) : bad h = none := by
  refine (badFrom_none h h.length 0 (by omega)).2 fun j x _ hx => ?_
  have hi := ha.inv j x hx
  have hix := ha.ix j x hx
  have hth := ha.th j x hx
  have prev : ∀ y ∈ h.take j, ∃ m : Nat, m < j ∧ h[m]? = some y := fun y hy => by
    obtain ⟨m, hm⟩ := List.mem_iff_getElem?.1 hy
    rw [List.getElem?_take] at hm
    split at hm
    · rename_i hlt; exact ⟨m, hlt, hm⟩
    · cases hm
  simp only [goodP, Bool.and_eq_true]
  refine ⟨?_, ?_, ?_, ?_, ?_⟩
  · unfold ordF
    simp only [Bool.and_eq_true, decide_eq_true_eq]
    refine ⟨hth.1, hth.2, hix, by omega, ?_⟩
    cases hl : (h.take j).getLast? with
    | none => rfl
    | some z =>
      obtain ⟨m, hm, hz⟩ := prev z (List.mem_of_getLast? hl)
      have := (ha.inv m z hz).1
      simp only [decide_eq_true_eq]
      omega
  · unfold effF; simp; omega
  · unfold endF
    rw [if_neg (by omega), if_neg (by omega)]
    simp; omega
  · unfold aftF
    cases hl : (ofT x.th (h.take j)).getLast? with
    | none => rfl
    | some z =>
      have hz := List.mem_of_getLast? hl
      obtain ⟨m, hm, hz⟩ := prev z (List.mem_filter.1 hz).1
      have := ha.inv m z hz
      simp only [bf, Bool.and_eq_true, decide_eq_true_eq]
      omega
  · unfold apaF
    rw [List.all_eq_true]
    intro y hy
    obtain ⟨m, hm, hz⟩ := prev y hy
    have hq := ha.inv m y hz
    have : meetF y x = false := by
      cases hmt : meetF y x with
      | false => rfl
      | true =>
        exfalso
        unfold meetF at hmt
        rw [List.any_eq_true] at hmt
        obtain ⟨a, ha', hmt⟩ := hmt
        rw [List.any_eq_true] at hmt
        obtain ⟨b, hb', hab⟩ := hmt
        simp only [stepsL, List.mem_filter, List.mem_cons, List.not_mem_nil, or_false] at ha' hb'
        have hab : a = b := by simpa using hab
        rw [hq.1, hq.2.1, hq.2.2.1] at ha'
        rw [hi.1, hi.2.1, hi.2.2.1] at hb'
        omega
    rw [this]; simp
theorem InO.eff {h : List Cl} (ha : InO h) : effL h = List.range h.length := by
  refine (effL_is ha.bad).unique ⟨?_, fun i => ⟨fun hi => ?_, fun ⟨x, hx, _⟩ => ?_⟩⟩
  · refine (List.pairwise_lt_range).imp_of_mem fun {a b} ha' hb' hab => ?_
    rw [List.mem_range] at ha' hb'
    have h1 := (ha.inv a _ (List.getElem?_eq_getElem ha')).2.1
    have h2 := (ha.inv b _ (List.getElem?_eq_getElem hb')).2.1
    rw [tk_of (List.getElem?_eq_getElem ha'), tk_of (List.getElem?_eq_getElem hb')]
    omega
  · rw [List.mem_range] at hi
    have h1 := (ha.inv i _ (List.getElem?_eq_getElem hi)).2.1
    exact ⟨_, List.getElem?_eq_getElem hi, by omega⟩
  · rw [List.mem_range]; exact (List.getElem?_eq_some_iff.1 hx).1
theorem sorted_range : ∀ (n : Nat) (z : List Nat), z.Pairwise (· < ·) → (∀ i, i ∈ z ↔ i < n) → z = List.range n := by
  intro n z hz hm
  refine List.Perm.eq_of_pairwise (le := (· < ·)) (fun a b _ _ h1 h2 => by omega) hz List.pairwise_lt_range ?_
  refine (List.perm_ext_iff_of_nodup ?_ List.nodup_range).2 fun i => by rw [hm, List.mem_range]
  exact hz.imp (fun h => by omega)
theorem InO.only {h : List Cl} (ha : InO h) {s : Md} {z : List Nat} (hz : Lin h s z) : z = List.range h.length := by
  obtain ⟨h1, h2, h3, h4⟩ := hz
  refine sorted_range _ _ ?_ fun i => ⟨fun hi => h1.2 i hi, fun hi => ?_⟩
  · rw [List.pairwise_iff_getElem]
    intro i j hi hj hij
    have ei := h1.2 _ (List.getElem_mem hi)
    have ej := h1.2 _ (List.getElem_mem hj)
    by_cases hlt : z[i] < z[j]
    · exact hlt
    · exfalso
      have hne : z[i] ≠ z[j] := fun e => by
        have hnd := h1.1
        rw [List.nodup_iff_pairwise_ne, List.pairwise_iff_getElem] at hnd
        exact hnd i j hi hj hij e
      have xi := ha.inv _ _ (List.getElem?_eq_getElem ei)
      have xj := ha.inv _ _ (List.getElem?_eq_getElem ej)
      rcases h2 i z[i] z[j] _ _ (List.getElem?_eq_getElem hi) (List.getElem?_eq_getElem ei) (List.getElem?_eq_getElem ej) with h5 | h5
      · obtain ⟨q, hq⟩ := List.mem_iff_getElem?.1 h5
        rw [List.getElem?_take] at hq
        split at hq
        · rename_i hqi
          obtain ⟨p, e⟩ := List.getElem?_eq_some_iff.1 hq
          have hnd := h1.1
          rw [List.nodup_iff_pairwise_ne, List.pairwise_iff_getElem] at hnd
          exact hnd q j p hj (by omega) e
        · cases hq
      · simp only [bf, Bool.and_eq_false_iff, decide_eq_false_iff_not] at h5
        rcases h5 with h5 | h5 <;> omega
  · have := (ha.inv i _ (List.getElem?_eq_getElem hi)).2.2.1
    exact fullB_iff.1 h4 i _ (List.getElem?_eq_getElem hi) (by omega)
theorem InO.lin {h : List Cl} (ha : InO h) {s : Md} : Lin h s (List.range h.length) ↔ (runM h s (List.range h.length)).isSome = true := by
  constructor
  · exact fun hz => hz.2.2.1
  · intro hr
    refine ⟨⟨List.nodup_range, fun i hi => List.mem_range.1 hi⟩, fun k q i x y hq hy hx => ?_, hr, fullB_iff.2 fun i x hx _ => List.mem_range.2 (List.getElem?_eq_some_iff.1 hx).1⟩
    obtain ⟨hk, e⟩ := List.getElem?_eq_some_iff.1 hq
    rw [List.getElem_range] at e
    subst e
    by_cases hik : i < k
    · left
      rw [List.take_range, List.mem_range]
      simp at hk; omega
    · right
      have h1 := ha.inv i x hx
      have h2 := ha.inv k y hy
      simp only [bf, Bool.and_eq_false_iff, decide_eq_false_iff_not]
      right; omega
theorem InO.lins {h : List Cl} (ha : InO h) (s : Md) (hp : (exts h (h.length + 1) [] s).Nodup) : exts h (h.length + 1) [] s = if (runM h s (List.range h.length)).isSome = true then [List.range h.length] else [] := by
  have hm : ∀ z, z ∈ exts h (h.length + 1) [] s ↔ z = List.range h.length ∧ (runM h s (List.range h.length)).isSome = true := fun z => by
    rw [lin_mem]
    constructor
    · intro hz
      obtain rfl := ha.only hz
      exact ⟨rfl, ha.lin.1 hz⟩
    · rintro ⟨rfl, hr⟩
      exact ha.lin.2 hr
  split
  · rename_i hr
    have h1 := (hm _).2 ⟨rfl, hr⟩
    match hE : exts h (h.length + 1) [] s, hp, h1, hm with
    | [], _, h1, _ => cases h1
    | [a], _, _, hm => rw [((hm a).1 (by simp)).1]
    | a :: b :: r, hp, _, hm =>
      exfalso
      have ea := ((hm a).1 (by simp)).1
      have eb := ((hm b).1 (by simp)).1
      rw [List.nodup_cons] at hp
      exact hp.1 (by rw [ea, ← eb]; simp)
  · rename_i hr
    exact List.eq_nil_iff_forall_not_mem.2 fun z hz => hr ((hm z).1 hz).2
theorem next_read {s : Md} {x : Cl} (hr : readB x = true) : nextM s x = if (doM s x.th (opC x)).1.err = 0 ∧ x.rf = hasK x.ka s.l ∧ x.rk = 0 ∧ x.rv = valL x.ka s.l ∧ x.rc = 0 then some s else none := by
  unfold readB at hr
  simp only [Bool.and_eq_true, decide_eq_true_eq] at hr
  obtain ⟨h1, h2⟩ := get_acc (s := s) (t := x.th) (o := opC x) (r := rsC x) hr.1 hr.2.2
  unfold nextM
  rw [if_neg (by omega), h1, h2]
  simp only [decide_eq_true_eq]
  rfl
theorem run_take {l : List Cl} {s : Md} : ∀ (k : Nat), k ≤ l.length → (runM l s (List.range l.length)).isSome = true → ∃ S, runM l s (List.range k) = some S := fun k hk h => by
  have e : List.range l.length = List.range k ++ (List.range l.length).drop k := by
    conv => lhs; rw [← List.take_append_drop k (List.range l.length)]
    rw [List.take_range, Nat.min_eq_left hk]
  rw [e, runM_app] at h
  cases hr : runM l s (List.range k) with
  | none => rw [hr] at h; cases h
  | some S => exact ⟨S, rfl⟩
theorem run_succ {l : List Cl} {s S : Md} {k : Nat} {x : Cl} (hx : l[k]? = some x) (h : runM l s (List.range k) = some S) : runM l s (List.range (k + 1)) = nextM S x := by
  rw [List.range_succ, runM_app, h]
  simp only [Option.bind_some]
  rw [runM, hx]
  simp only [Option.bind_some]
  cases nextM S x <;> rfl
theorem InO.wit {c : Cf} {cuts : List Nat} {h : List Cl} (hc : chkC c cuts = 0) (ha : InO h) : (wChk c cuts h).2 = 0 ↔ (runM h (s1M c) (List.range h.length)).isSome = true := by
  have hord : ∀ k, k < h.length → (effL h)[k]? = some k := fun k hk => by rw [ha.eff, List.getElem?_range hk]
  constructor
  · intro hw
    obtain ⟨o2, hX, hR⟩ := wChk_ok.1 hw
    obtain ⟨-, hbad, hm⟩ := wX_ok hX
    have hM : Maps o2 := by
      have hsp := mapsX_spec hbad (s := s1M c) rfl
      rw [hm] at hsp
      exact hsp.1
    have hall : ∀ k, k ≤ h.length → runM h (s1M c) (List.range k) = some (seqF h (effL h) (s1M c) k) := by
      intro k
      induction k with
      | zero => intro _; cases effL h <;> rfl
      | succ k ih =>
        intro hk
        have hx := List.getElem?_eq_getElem (l := h) (show k < h.length by omega)
        obtain ⟨x, hxe⟩ : ∃ x, x = h[k] := ⟨_, rfl⟩
        rw [← hxe] at hx
        rw [run_succ hx (ih (by omega))]
        obtain ⟨a1, a2, a3⟩ := at_seq hX (hord k (by omega)) hx
        have hi := ha.inv k x hx
        by_cases hr : readB x = true
        · obtain ⟨b1, b2⟩ := fits_read a3 hr
          have hex := (badR_none h 0).1 hR x (List.mem_of_getElem? hx) hr
          rw [next_read hr, b1]
          rcases explM_spec hM (c := x) (by omega) (by omega) with ⟨q1, q2, q3, q4, q5, q6, -⟩ | ⟨q1, -⟩
          · have hS : atF [] o2 (explM o2 x) = (seqF h (effL h) (s1M c) k).l := by
              rcases (by omega : explM o2 x = x.took ∨ explM o2 x = x.took - 1) with e | e
              · rw [e, a1, b1]
              · rw [e, a2]
            rw [hS] at q6
            unfold agrB1 at q6
            simp only [Bool.and_eq_true, decide_eq_true_eq] at q6
            rw [if_pos ⟨b2, q6.1.symm, q2, q6.2.symm, q3⟩]
          · omega
        · exact fits_next a3 (by simpa using hr)
    rw [hall _ (Nat.le_refl _)]; rfl
  · intro hr
    have hst : ∀ k, k ≤ h.length → ∃ S, runM h (s1M c) (List.range k) = some S := fun k hk => run_take k hk hr
    obtain ⟨T, hT⟩ : ∃ T : Nat → Md, ∀ k, k ≤ h.length → runM h (s1M c) (List.range k) = some (T k) := by
      refine ⟨fun k => if hk : k ≤ h.length then Classical.choose (hst k hk) else s1M c, fun k hk => ?_⟩
      simp only [dif_pos hk]
      exact Classical.choose_spec (hst k hk)
    have hT0 : T 0 = s1M c := by have := hT 0 (Nat.zero_le _); simp [runM] at this; exact this.symm
    have hnx : ∀ k x, h[k]? = some x → nextM (T k) x = some (T (k + 1)) := fun k x hx => by
      have hk := (List.getElem?_eq_some_iff.1 hx).1
      rw [← run_succ hx (hT k (by omega))]; exact hT (k + 1) (by omega)
    have hft : ∀ k x, h[k]? = some x → fitsM (T k) x = some (T (k + 1)) := fun k x hx => by
      have hi := ha.inv k x hx
      have hl : lateB x = false := by unfold lateB; simp; omega
      have h1 := hnx k x hx
      unfold fitsM
      rw [if_neg (by simp [hl])]
      by_cases hrd : readB x = true
      · rw [if_pos hrd]
        rw [next_read hrd] at h1
        split at h1
        · rename_i hq
          injection h1 with h1
          rw [if_pos hq.1]
          unfold readB at hrd
          simp only [Bool.and_eq_true, decide_eq_true_eq] at hrd
          rw [(get_same (s := T k) (t := x.th) (o := opC x) hrd.1).1, h1]
        · cases h1
      · rw [if_neg hrd]; exact h1
    have ht := traj h (effL h) T h.length (fun k hk => ⟨k, _, hord k hk, List.getElem?_eq_getElem hk, hft k _ (List.getElem?_eq_getElem hk)⟩)
    rw [hT0] at ht
    have hrun := ht.2 (by rw [ha.eff, List.length_range])
    have hsp := mapsX_spec ha.bad (s := s1M c) rfl
    cases hm : mapsX (s1M c) h with
    | error i => rw [hm] at hsp; rw [hrun] at hsp; cases hsp
    | ok o2 =>
      rw [hm] at hsp
      have hM := hsp.1
      have hX : wX c cuts h = .ok o2 := by unfold wX; rw [if_neg (by omega), ha.bad]; simp only; rw [hm]; rfl
      refine wChk_ok.2 ⟨o2, hX, (badR_none h 0).2 fun x hx hb => ?_⟩
      obtain ⟨k, hk⟩ := List.mem_iff_getElem?.1 hx
      have hi := ha.inv k x hk
      have hkl := (List.getElem?_eq_some_iff.1 hk).1
      obtain ⟨-, e2, -⟩ := at_seq hX (hord k hkl) hk
      rw [ht.1 k (by omega)] at e2
      have h1 := hnx k x hk
      rw [next_read hb] at h1
      split at h1
      · rename_i hq
        rcases explM_spec hM (c := x) (by omega) (by omega) with ⟨q, -⟩ | ⟨q, q2⟩
        · exact q
        · have := q2 hq.2.2.1 hq.2.2.2.2 (x.took - 1) (by omega) (by omega)
          rw [e2] at this
          unfold agrB1 at this
          rw [← hq.2.1, ← hq.2.2.2.1] at this
          simp at this
      · cases h1
end Go.Proofs.YtmbjpjpdcmjjgaaGreatDoor
