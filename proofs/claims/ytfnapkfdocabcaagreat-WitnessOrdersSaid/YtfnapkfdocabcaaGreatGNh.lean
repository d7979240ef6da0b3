import Derived.Test.YtfnapkfdocabcaaGreatGNf
import Derived.Test.YtfnapkfdocabcaaGreatGOa
set_option linter.unusedVariables false
set_option linter.unusedSimpArgs false
set_option linter.unnecessarySimpa false
namespace Go.Proofs.YtfnapkfdocabcaaGreat
open Go.RowKit Go.Xt
/-! Check. -/
/-- The first read that no step explains. -/
def badR (maps : List Sta) : List Cl → Nat → Option Nat
  | [], _ => none
  | x :: r, k => if (readB x && decide (explM maps x < 0)) = true then some k else badR maps r (k + 1)
theorem badR_drop {maps : List Sta} {l : List Cl} {k : Nat} {x : Cl} (hx : l[k]? = some x) : badR maps (l.drop k) k = if (readB x && decide (explM maps x < 0)) = true then some k else badR maps (l.drop (k + 1)) (k + 1) := by
  obtain ⟨p, e⟩ := List.getElem?_eq_some_iff.1 hx
  rw [List.drop_eq_getElem_cons p, e, badR]
/-- What Check returns. -/
def wChk (c : Cf) (cuts : List Nat) (l : List Cl) : Int × Int := match wX c cuts l with
  | .error z => z
  | .ok out => match badR out l 0 with
    | some i => ((i : Int), 18)
    | none => (0, 0)
set_option maxRecDepth 20000 in
set_option maxHeartbeats 8000000 in
theorem wcheck_any {w : World} {c : Cf} {cuts : List Nat} {A : Option Addr} {n cap : Nat} {l : List Cl} (hi : In3 w c cuts A n cap l) :
    Calls Tryz.prog 11 #[confV c, .slice A n cap] w fun e w' => e = .returned (.tuple #[.int .i64 (wChk c cuts l).1, .int .i64 (wChk c cuts l).2]) ∧ Nw w w' := by
  have HS := Lib.hid (fun W (hq : Nw w W) => states_any (hi.nw hq))
  have HE := Lib.hid (fun z (h : wX c cuts l = .error z) => wX_err h)
  have HL := Lib.hid (wX_len c cuts l)
  have HI := Lib.hid hi
  obtain ⟨r, hr⟩ : ∃ r, r = wChk c cuts l := ⟨_, rfl⟩
  rw [← hr]
  unfold wChk at hr
  obtain ⟨X, hX⟩ : ∃ X, X = wX c cuts l := ⟨_, rfl⟩
  rw [← hX] at HS HE HL hr
  unfold confV at HS ⊢
  haveI hca : ConfAt (w.alloc (cellsOf c 27)) w.heap.size c := ⟨fun i v hv => by unfold cellsOf; unfold ccells at hv; rw [World.cell?_alloc_new]; simpa using hv, by simp⟩
  obtain ⟨W1, hW1⟩ : ∃ W, W = w.alloc (cellsOf c 27) := ⟨_, rfl⟩
  rw [← hW1] at hca
  have hn1 : Nw w W1 := by rw [hW1]; exact (by repeat (first | exact Xt.Nw.refl _ | refine Xt.Nw.drew ?_ | refine Xt.Nw.drewN ?_ _ | refine Xt.Nw.alloc ?_ _ | refine Xt.Nw.joined ?_ | refine Xt.Nw.drewd ?_ | refine Xt.Nw.drewdN ?_ | refine Xt.Nw.ext ?_ | refine Xt.Nw.ext_some ?_ (by assumption) | refine Xt.Nw.setCell ?_ (by simp [go_sem] <;> omega) _))
  unfold cellsOf at hW1
  have HW1 := Lib.hid hW1
  have HN1 := Lib.hid hn1
  haveI : In w.heap.size W1 := ⟨hca.lt⟩
  clear hW1 hn1 hi hX
  cases X with
  | error z =>
    simp only at hr
    subst hr
    obtain ⟨z1, z2⟩ := r
    have hne : (z2 != 0) = true := by simpa using HE.out (z1, z2) rfl
    go_enter Tryz.func11, Tryz.ntmps11
    go_upto_region 1 with (fail)
    rw [← HW1.out]
    go_wp2_with fail
    refine (HS.out W1 HN1.out).mono ?_
    intro e W2 hP
    unfold StP at hP
    obtain ⟨rfl, hn2⟩ := hP
    have HN2 := Lib.hid hn2
    clear hn2
    go_wp2
    exact bodyPost_ret (results_tmp2 rfl _ _ _) rfl ⟨rfl, HN1.out.trans HN2.out⟩
  | ok out =>
    obtain ⟨R, hR⟩ : ∃ R, R = badR out l 0 := ⟨_, rfl⟩
    simp only [← hR] at hr
    have HR := Lib.hid hR
    have HRR := Lib.hid hr
    clear hR hr
    go_enter Tryz.func11, Tryz.ntmps11
    go_upto_region 1 with (fail)
    rw [← HW1.out]
    go_wp2_with fail
    refine (HS.out W1 HN1.out).mono ?_
    intro e W2 hP
    unfold StP at hP
    obtain ⟨v, zs, rfl, hsts, hn2⟩ := hP
    have hexp := fun W' (hq : Nw W2 W') (x : Cl) => explains_any (hsts.nw hq) (by have := HL.out out rfl; have := HI.out.n1; have := HI.out.hl.1; omega) x
    obtain ⟨Av, cv', rfl⟩ := own_slice hsts.row
    obtain ⟨nz, hnz⟩ : ∃ k, k = zs.length := ⟨_, rfl⟩
    rw [← hnz] at hexp ⊢
    have HX := Lib.hid hexp
    have HRD := Lib.hid (fun x W' => read_any x W')
    have HC2 := Lib.hid (HI.out.hl.nw (HN1.out.trans hn2))
    have HN2 := Lib.hid (HN1.out.trans hn2)
    have HI1 := Lib.hid HI.out.n1
    clear hsts hexp hn2 hnz
    go_wp2_with fail
    go_loopw [7, 8, 22] (fun _ _ a wr => ∃ k : Nat, k ≤ n ∧ a = .int .i64 k ∧ Nw W2 wr ∧ Hid (badR out (l.drop k) k = R)) (fun _ _ a _ => n - (intOf a).toNat)
    case atStart => exact ⟨0, Nat.zero_le _, rfl, (by repeat (first | exact Xt.Nw.refl _ | refine Xt.Nw.drew ?_ | refine Xt.Nw.drewN ?_ _ | refine Xt.Nw.alloc ?_ _ | refine Xt.Nw.joined ?_ | refine Xt.Nw.drewd ?_ | refine Xt.Nw.drewdN ?_ | refine Xt.Nw.ext ?_ | refine Xt.Nw.ext_some ?_ (by assumption) | refine Xt.Nw.setCell ?_ (by simp [go_sem] <;> omega) _)), by have := HR.out; exact Lib.hid (by rw [this]; rfl)⟩
    case round =>
      obtain ⟨k, hk, rfl, ⟨d, rfl⟩, hst⟩ := hrel
      by_cases hlt : k < n
      · obtain ⟨b, o, x, rfl, hb, hx, hcx⟩ := HC2.out.get hlt
        haveI : CallAt W2 b (o + k * 18) x := ⟨hcx, hb⟩
        haveI : In b W2 := ⟨hb⟩
        have HD := Lib.hid (badR_drop (maps := out) hx)
        have i1 : (k : Int) < (n : Int) := by omega
        have i3 : k < 1000000 := by have := HI1.out; omega
        obtain ⟨rb, hrb⟩ : ∃ rb, rb = readB x := ⟨_, rfl⟩
        have HRB := Lib.hid hrb
        clear hx hcx hb hrb
        go_wp2_with fail
        refine (HRD.out x _).mono ?_
        rintro e w' ⟨rfl, dR, rfl⟩
        rw [← HRB.out]
        cases rb with
        | false =>
          have HN := Lib.hid (show badR out (l.drop (k + 1)) (k + 1) = R by
            have h1 := hst.out
            rw [HD.out, ← HRB.out] at h1
            simpa using h1)
          clear hst
          go_wp2_with fail
          exact ⟨⟨k + 1, by omega, by go_num, (by repeat (first | exact Xt.Nw.refl _ | refine Xt.Nw.drew ?_ | refine Xt.Nw.drewN ?_ _ | refine Xt.Nw.alloc ?_ _ | refine Xt.Nw.joined ?_ | refine Xt.Nw.drewd ?_ | refine Xt.Nw.drewdN ?_ | refine Xt.Nw.ext ?_ | refine Xt.Nw.ext_some ?_ (by assumption) | refine Xt.Nw.setCell ?_ (by simp [go_sem] <;> omega) _)), HN⟩, by simp [intOf]; omega⟩
        | true =>
          obtain ⟨m, hm⟩ : ∃ m, m = explM out x := ⟨_, rfl⟩
          have HM := Lib.hid hm
          clear hm
          by_cases hneg : m < 0
          · have d1 : decide (m < 0) = true := by simpa using hneg
            have HN := Lib.hid (show R = some k by
              have h1 := hst.out
              rw [HD.out, ← HRB.out, ← HM.out, d1] at h1
              simpa using h1.symm)
            clear hst hneg
            go_wp2_with fail
            refine (HX.out _ (by repeat (first | exact Xt.Nw.refl _ | refine Xt.Nw.drew ?_ | refine Xt.Nw.drewN ?_ _ | refine Xt.Nw.alloc ?_ _ | refine Xt.Nw.joined ?_ | refine Xt.Nw.drewd ?_ | refine Xt.Nw.drewdN ?_ | refine Xt.Nw.ext ?_ | refine Xt.Nw.ext_some ?_ (by assumption) | refine Xt.Nw.setCell ?_ (by simp [go_sem] <;> omega) _)) x).mono ?_
            rintro e w' ⟨rfl, dX, rfl⟩
            rw [← HM.out]
            go_wp2_with fail
            refine bodyPost_ret (results_tmp2 rfl _ _ _) rfl ?_
            have : r = ((k : Int), 18) := by have := HRR.out; rw [HN.out] at this; exact this
            rw [this]
            exact ⟨rfl, HN2.out.trans (by repeat (first | exact Xt.Nw.refl _ | refine Xt.Nw.drew ?_ | refine Xt.Nw.drewN ?_ _ | refine Xt.Nw.alloc ?_ _ | refine Xt.Nw.joined ?_ | refine Xt.Nw.drewd ?_ | refine Xt.Nw.drewdN ?_ | refine Xt.Nw.ext ?_ | refine Xt.Nw.ext_some ?_ (by assumption) | refine Xt.Nw.setCell ?_ (by simp [go_sem] <;> omega) _))⟩
          · have d1 : decide (m < 0) = false := by simpa using hneg
            have HN := Lib.hid (show badR out (l.drop (k + 1)) (k + 1) = R by
              have h1 := hst.out
              rw [HD.out, ← HRB.out, ← HM.out, d1] at h1
              simpa using h1)
            clear hst hneg
            go_wp2_with fail
            refine (HX.out _ (by repeat (first | exact Xt.Nw.refl _ | refine Xt.Nw.drew ?_ | refine Xt.Nw.drewN ?_ _ | refine Xt.Nw.alloc ?_ _ | refine Xt.Nw.joined ?_ | refine Xt.Nw.drewd ?_ | refine Xt.Nw.drewdN ?_ | refine Xt.Nw.ext ?_ | refine Xt.Nw.ext_some ?_ (by assumption) | refine Xt.Nw.setCell ?_ (by simp [go_sem] <;> omega) _)) x).mono ?_
            rintro e w' ⟨rfl, dX, rfl⟩
            rw [← HM.out]
            go_wp2_with fail
            exact ⟨⟨k + 1, by omega, by go_num, (by repeat (first | exact Xt.Nw.refl _ | refine Xt.Nw.drew ?_ | refine Xt.Nw.drewN ?_ _ | refine Xt.Nw.alloc ?_ _ | refine Xt.Nw.joined ?_ | refine Xt.Nw.drewd ?_ | refine Xt.Nw.drewdN ?_ | refine Xt.Nw.ext ?_ | refine Xt.Nw.ext_some ?_ (by assumption) | refine Xt.Nw.setCell ?_ (by simp [go_sem] <;> omega) _)), HN⟩, by simp [intOf]; omega⟩
      · have hkn : k = n := by omega
        subst hkn
        have HN := Lib.hid (show R = none by
          have h1 := hst.out
          rw [List.drop_of_length_le (by rw [HC2.out.1]; exact Nat.le_refl _)] at h1
          exact h1.symm)
        clear hst
        go_wp2
        refine bodyPost_ret (results_tmp2 rfl _ _ _) rfl ?_
        have : r = (0, 0) := by have := HRR.out; rw [HN.out] at this; exact this
        rw [this]
        exact ⟨rfl, HN2.out.trans (by repeat (first | exact Xt.Nw.refl _ | refine Xt.Nw.drew ?_ | refine Xt.Nw.drewN ?_ _ | refine Xt.Nw.alloc ?_ _ | refine Xt.Nw.joined ?_ | refine Xt.Nw.drewd ?_ | refine Xt.Nw.drewdN ?_ | refine Xt.Nw.ext ?_ | refine Xt.Nw.ext_some ?_ (by assumption) | refine Xt.Nw.setCell ?_ (by simp [go_sem] <;> omega) _))⟩
end Go.Proofs.YtfnapkfdocabcaaGreat
namespace Go.Proofs.YtfnapkfdocabcaaGreat
open Go.RowKit Go.Xt
/-! WitnessChanges, plain. -/
/-- The state behind the first calls of an order. -/
def seqF (l : List Cl) : List Nat → Md → Nat → Md
  | _, s, 0 => s
  | [], s, _ + 1 => s
  | i :: t, s, k + 1 => match l[i]?.bind (fitsM s) with
    | some s' => seqF l t s' k
    | none => s
theorem stAt_early (l : List Cl) : ∀ (ord : List Nat) (s : Md) (st : Int), (∀ i ∈ ord, st < tk l i) → stAt l ord s st = s
  | [], _, _, _ => rfl
  | i :: t, s, st, h => by
    rw [stAt]
    cases hx : l[i]? with
    | none => rfl
    | some c =>
      simp only
      have := h i (by simp)
      rw [tk_of hx] at this
      rw [if_neg (by omega)]
/-- Around the step of a call. -/
theorem stAt_seq (l : List Cl) : ∀ (ord : List Nat) (s : Md), (ord.Pairwise fun i j => tk l i < tk l j) → (runF l ord s).isSome = true → ∀ (k i : Nat) (x : Cl), ord[k]? = some i → l[i]? = some x →
    stAt l ord s x.took = seqF l ord s (k + 1) ∧ stAt l ord s (x.took - 1) = seqF l ord s k ∧ fitsM (seqF l ord s k) x = some (seqF l ord s (k + 1))
  | [], _, _, _, k, i, x, hi, _ => by simp at hi
  | j :: t, s, hp, hr, k, i, x, hi, hx => by
    rw [List.pairwise_cons] at hp
    rw [runF] at hr
    cases hy : l[j]? with
    | none => rw [hy] at hr; cases hr
    | some y =>
      rw [hy] at hr
      simp only at hr
      cases hf : fitsM s y with
      | none => rw [hf] at hr; cases hr
      | some s' =>
        rw [hf] at hr
        simp only at hr
        have e1 : ∀ k, seqF l (j :: t) s (k + 1) = seqF l t s' k := fun k => by rw [seqF, hy]; simp [hf]
        have e2 : ∀ st, y.took ≤ st → stAt l (j :: t) s st = stAt l t s' st := fun st h => by rw [stAt, hy]; simp only; rw [if_pos h, hf]
        have e3 : ∀ st, st < y.took → stAt l (j :: t) s st = s := fun st h => by rw [stAt, hy]; simp only; rw [if_neg (by omega)]
        cases k with
        | zero =>
          simp at hi
          subst hi
          rw [hy] at hx; injection hx with hx; subst hx
          refine ⟨?_, e3 _ (by omega), ?_⟩
          · rw [e2 _ (Int.le_refl _), e1, seqF]
            exact stAt_early l t s' _ (fun i hi => by have := hp.1 i hi; rw [tk_of hy] at this; exact this)
          · rw [e1]; simp only [seqF]; exact hf
        | succ k =>
          have hi' : t[k]? = some i := by simpa using hi
          have hlt : y.took < x.took := by
            have := hp.1 i (List.mem_of_getElem? hi')
            rw [tk_of hy, tk_of hx] at this; exact this
          obtain ⟨h1, h2, h3⟩ := stAt_seq l t s' hp.2 hr k i x hi' hx
          rw [e2 _ (by omega), e2 _ (by omega), e1, e1]
          exact ⟨h1, h2, h3⟩
theorem seqF_all (l : List Cl) : ∀ (ord : List Nat) (s s2 : Md), runF l ord s = some s2 → seqF l ord s ord.length = s2
  | [], s, s2, h => by simp only [runF] at h; injection h
  | i :: t, s, s2, h => by
    rw [runF] at h
    cases hx : l[i]? with
    | none => rw [hx] at h; cases h
    | some c =>
      rw [hx] at h
      simp only at h
      cases hf : fitsM s c with
      | none => rw [hf] at h; cases h
      | some s' =>
        rw [hf] at h
        rw [List.length_cons, seqF, hx]
        simp only [Option.bind_some, hf]
        exact seqF_all l t s' s2 h
/-- The pairs whose key is another one. -/
def woL (k : Int) (l : List (Int × Int)) : List (Int × Int) := l.filter fun p => !decide (p.1 = k)
theorem wo_cons (k : Int) (y : Int × Int) (r : List (Int × Int)) : woL k (y :: r) = if y.1 = k then woL k r else y :: woL k r := by
  unfold woL
  by_cases h : y.1 = k
  · rw [if_pos h, List.filter_cons_of_neg (by simp [h])]
  · rw [if_neg h, List.filter_cons_of_pos (by simp [h])]
theorem wo_put (k v : Int) : ∀ l, woL k (putL k v l) = woL k l
  | [] => by rw [putL, wo_cons, if_pos rfl]
  | y :: r => by
    rw [putL]
    split
    · rename_i h; rw [wo_cons, wo_cons, if_neg (by omega), if_neg (by omega), wo_put k v r]
    · split
      · rename_i h; rw [wo_cons, if_pos rfl, wo_cons, if_pos h]
      · rw [wo_cons, if_pos rfl]
theorem wo_del (k : Int) : ∀ l, woL k (delL k l) = woL k l
  | [] => rfl
  | y :: r => by
    rw [delL]
    split
    · rename_i h; rw [wo_cons, wo_cons, if_neg (by omega), if_neg (by omega), wo_del k r]
    · split
      · rename_i h; rw [wo_cons, if_pos h]
      · rfl
/-- An operation on one key changes at most the pair of that key. -/
theorem do_point {s : Md} {t : Int} {o : Ox} (hk : 4 ≤ o.k ∧ o.k ≤ 7) : woL o.key (doM s t o).2.l = woL o.key s.l := by
  by_cases hr : refM s t o = 0
  · obtain ⟨n, x, rfl, hx, hc, hre, hd⟩ := refM_zero hr
    rw [hd]
    rcases (by omega : o.k = 4 ∨ o.k = 5 ∨ o.k = 6 ∨ o.k = 7) with k | k | k | k
    · unfold perfM; simp only [k]; simp [wo_put]
    · unfold perfM; simp only [k]; simp only [show ¬ ((5 : Int) = 1) by decide, show ¬ ((5 : Int) = 2) by decide, show ¬ ((5 : Int) = 3) by decide, show ¬ ((5 : Int) = 4) by decide, if_false, if_true]
      unfold addL; split
      · rfl
      · exact wo_put _ _ _
    · unfold perfM; simp only [k]; simp [wo_del]
    · unfold perfM; simp only [k]; simp only [show ¬ ((7 : Int) = 1) by decide, show ¬ ((7 : Int) = 2) by decide, show ¬ ((7 : Int) = 3) by decide, show ¬ ((7 : Int) = 4) by decide, show ¬ ((7 : Int) = 5) by decide, show ¬ ((7 : Int) = 6) by decide, if_false, if_true]
      unfold casL; split
      · exact wo_put _ _ _
      · rfl
  · have e : doM s t o = (⟨refM s t o, false, 0, 0, 0⟩, s) := by unfold doM; rw [if_pos hr]
    rw [e]
theorem fits_point {s s' : Md} {c : Cl} (h : fitsM s c = some s') (hk : 4 ≤ c.kd ∧ c.kd ≤ 7) : woL c.ka s'.l = woL c.ka s.l := by
  rcases fits_l h with e | e
  · rw [e]
  · rw [e]; exact do_point (o := opC c) hk
theorem fits_still {s s' : Md} {c : Cl} (h : fitsM s c = some s') (hk : ¬ (4 ≤ c.kd ∧ c.kd ≤ 9)) : s'.l = s.l := by
  rcases fits_l h with e | e
  · exact e
  · rw [e]; exact do_still (o := opC c) hk
/-- What At finds around the step of a call. -/
theorem at_seq {c : Cf} {cuts : List Nat} {l : List Cl} {o2 : List Sta} (h : wX c cuts l = .ok o2) {k i : Nat} {x : Cl} (hi : (effL l)[k]? = some i) (hx : l[i]? = some x) :
    atF [] o2 x.took = (seqF l (effL l) (s1M c) (k + 1)).l ∧ atF [] o2 (x.took - 1) = (seqF l (effL l) (s1M c) k).l ∧ fitsM (seqF l (effL l) (s1M c) k) x = some (seqF l (effL l) (s1M c) (k + 1)) := by
  obtain ⟨-, hb, hm⟩ := wX_ok h
  have hE := effL_is hb
  have hsp := mapsX_spec hb (s := s1M c) rfl
  rw [hm] at hsp
  obtain ⟨-, ⟨s2, hr, -⟩, hat⟩ := hsp
  obtain ⟨x', hx', h0⟩ := (hE.2 i).1 (List.mem_of_getElem? hi)
  obtain rfl : x' = x := by rw [hx] at hx'; injection hx' with hx'; exact hx'.symm
  obtain ⟨h1, h2, h3⟩ := stAt_seq l (effL l) (s1M c) hE.1 (by rw [hr]; rfl) k i x' hi hx
  rw [hat _ (by omega), hat _ (by omega), h1, h2]
  exact ⟨rfl, rfl, h3⟩
theorem at_minus {c : Cf} {cuts : List Nat} {l : List Cl} {o2 : List Sta} (h : wX c cuts l = .ok o2) : atF [] o2 (-1) = [] := by
  obtain ⟨-, hb, hm⟩ := wX_ok h
  have hE := effL_is hb
  have hsp := mapsX_spec hb (s := s1M c) rfl
  rw [hm] at hsp
  obtain ⟨-, -, hat⟩ := hsp
  rw [hat _ (Int.le_refl _), stAt_early l _ _ _ (fun i hi => by
    obtain ⟨x, hx, h0⟩ := (hE.2 i).1 hi
    rw [tk_of hx]; omega)]
  rfl
/-- The pairs behind all calls. -/
def finL (out : List Sta) : List (Int × Int) := match out.getLast? with | some z => z.2 | none => []
theorem fin_seq {c : Cf} {cuts : List Nat} {l : List Cl} {o2 : List Sta} (h : wX c cuts l = .ok o2) : finL o2 = (seqF l (effL l) (s1M c) (effL l).length).l ∧ ∃ s2, runF l (effL l) (s1M c) = some s2 ∧ finL o2 = s2.l := by
  obtain ⟨-, hb, hm⟩ := wX_ok h
  have hsp := mapsX_spec hb (s := s1M c) rfl
  rw [hm] at hsp
  obtain ⟨-, ⟨s2, hr, z, hz, hzs⟩, -⟩ := hsp
  have e : finL o2 = s2.l := by unfold finL; rw [hz]; exact hzs
  exact ⟨by rw [e, seqF_all l _ _ s2 hr], s2, hr, e⟩
/-! WitnessPrefixes, plain. -/
theorem badR_none {maps : List Sta} : ∀ (l : List Cl) (k : Nat), badR maps l k = none ↔ ∀ x ∈ l, readB x = true → 0 ≤ explM maps x
  | [], k => by simp [badR]
  | x :: r, k => by
    rw [badR]
    by_cases h : (readB x && decide (explM maps x < 0)) = true
    · rw [if_pos h]
      simp only [Bool.and_eq_true, decide_eq_true_eq] at h
      constructor
      · intro h2; cases h2
      · intro h2; have := h2 x (by simp) h.1; omega
    · rw [if_neg h, badR_none r (k + 1)]
      simp only [Bool.and_eq_true, decide_eq_true_eq, not_and] at h
      constructor
      · intro h2 y hy hr
        rcases List.mem_cons.1 hy with rfl | hy
        · have := h hr; omega
        · exact h2 y hy hr
      · intro h2 y hy; exact h2 y (by simp [hy])
theorem wChk_ok {c : Cf} {cuts : List Nat} {l : List Cl} : (wChk c cuts l).2 = 0 ↔ ∃ o2, wX c cuts l = .ok o2 ∧ badR o2 l 0 = none := by
  unfold wChk
  cases h : wX c cuts l with
  | error z =>
    constructor
    · intro h2; exact absurd h2 (wX_err h)
    · rintro ⟨o2, h2, -⟩; cases h2
  | ok o2 =>
    simp only
    cases hb : badR o2 l 0 with
    | none => exact ⟨fun _ => ⟨o2, rfl, hb⟩, fun _ => rfl⟩
    | some i =>
      constructor
      · intro h2; exact absurd (show (18 : Int) = 0 from h2) (by decide)
      · rintro ⟨o3, h2, h3⟩; injection h2 with h2; subst h2; rw [hb] at h3; cases h3
theorem wChk_zero {c : Cf} {cuts : List Nat} {l : List Cl} (h : (wChk c cuts l).2 = 0) : wChk c cuts l = (0, 0) := by
  obtain ⟨o2, h1, h2⟩ := wChk_ok.1 h
  unfold wChk
  rw [h1]
  simp only
  rw [h2]
/-- A call that took effect till step s fits in the prefix as in the whole. -/
theorem wpfx_op (st : Int) (x : Cl) : opC (pfx st x) = opC x := by simp only [opC, pfx]; (repeat' split) <;> rfl
theorem fits_pfx {s : Int} (hs : -1 ≤ s) {m m' : Md} {x : Cl} (hw : x.took ≤ s) (h : fitsM m x = some m') : fitsM m (pfx s x) = some m' := by
  by_cases ha : s < x.ans
  · have h0 : ¬ x.ans < 0 ∨ x.ans < 0 := by omega
    have hl : lateB x = false := by
      cases hl : lateB x with
      | false => rfl
      | true => unfold fitsM at h; rw [if_pos hl] at h; cases h
    have hneg : ¬ x.ans < 0 := by omega
    · have hlt : x.took < x.ans := by omega
      have hk : writesB x.kd = true ∧ x.re = 0 := by
        unfold lateB at hl
        rw [decide_eq_true hlt, Bool.or_true, Bool.true_and] at hl
        simp only [Bool.or_eq_false_iff, Bool.not_eq_false', Bool.and_eq_false_iff, decide_eq_false_iff_not] at hl
        refine ⟨hl.1, ?_⟩
        rcases hl.2 with h2 | h2
        · omega
        · simpa using h2
      have hkk : 4 ≤ x.kd ∧ x.kd ≤ 9 := by have := hk.1; unfold writesB at this; simpa using this
      have hr : readB x = false := by unfold readB; simp; omega
      have hx : fitsM m x = if (acceptM m x.th (opC x) (rsC x)).1 = true then some (acceptM m x.th (opC x) (rsC x)).2 else none := by
        unfold fitsM; rw [if_neg (by simp [hl]), if_neg (by simp [hr])]; unfold nextM; rw [if_neg hneg]
      have hacc : (acceptM m x.th (opC x) (rsC x)).1 = true := by
        cases hq : (acceptM m x.th (opC x) (rsC x)).1 with
        | true => rfl
        | false => rw [hx, hq] at h; simp at h
      have hst := write_acc (s := m) (t := x.th) (o := opC x) (r := rsC x) hkk hk.2 hacc
      rw [hx, if_pos hacc, hst] at h
      have hp1 : (pfx s x).ans = -1 := by rw [pfx_ans, if_pos ha]
      have hp2 : (pfx s x).kd = x.kd := by unfold pfx; (repeat' split) <;> rfl
      have hl2 : lateB (pfx s x) = false := by unfold lateB; rw [hp1, hp2, hk.1]; simp
      have hr2 : readB (pfx s x) = false := by unfold readB; rw [hp1]; simp
      unfold fitsM; rw [if_neg (by simp [hl2]), if_neg (by simp [hr2])]; unfold nextM; rw [if_pos (by omega), pfx_th, wpfx_op]; exact h
  · have e : pfx s x = x := by
      unfold pfx
      rw [if_neg ha, if_neg (by omega)]
    rw [e]; exact h
theorem runF_take (l p : List Cl) (s : Int) (hsm : -1 ≤ s) : ∀ (ord : List Nat) (m m2 : Md), runF l ord m = some m2 → ∀ k, (∀ i ∈ ord.take k, ∃ x, l[i]? = some x ∧ x.took ≤ s ∧ p[i]? = some (pfx s x)) →
    ∃ m3, runF p (ord.take k) m = some m3 ∧ ∀ st, st ≤ s → (∀ i ∈ ord.drop k, s < tk l i) → stAt p (ord.take k) m st = stAt l ord m st
  | [], m, m2, h, k, hk => ⟨m, by rw [List.take_nil]; rfl, fun st _ _ => by rw [List.take_nil]; rfl⟩
  | i :: t, m, m2, h, 0, hk => ⟨m, rfl, fun st hst hd => by
      rw [List.take_zero, stAt_early l (i :: t) m st (fun j hj => by have := hd j (by simpa using hj); omega)]; rfl⟩
  | i :: t, m, m2, h, k + 1, hk => by
    obtain ⟨x, hx, hs, hp⟩ := hk i (by simp)
    rw [runF, hx] at h
    simp only at h
    cases hf : fitsM m x with
    | none => rw [hf] at h; cases h
    | some m' =>
      rw [hf] at h
      simp only at h
      have hf2 := fits_pfx hsm hs hf
      obtain ⟨m3, h1, h2⟩ := runF_take l p s hsm t m' m2 h k (fun j hj => hk j (by simp [hj]))
      refine ⟨m3, by rw [List.take_succ_cons, runF, hp]; simp only; rw [hf2]; exact h1, fun st hst hd => ?_⟩
      rw [List.take_succ_cons, stAt, hp, stAt, hx]
      simp only
      have ht : (pfx s x).took = x.took := by rw [pfx_took, if_neg (by omega)]
      rw [ht, hf2, hf]
      by_cases h3 : x.took ≤ st
      · rw [if_pos h3, if_pos h3]; exact h2 st hst (fun j hj => hd j (by simpa using hj))
      · rw [if_neg h3, if_neg h3]
/-- THE PLAIN LAW OF WitnessPrefixes. -/
theorem wprefix_plain {c : Cf} {cuts : List Nat} {l : List Cl} {s : Int} (hs : -1 ≤ s) {o2 : List Sta} (h : wX c cuts l = .ok o2) (hb : badR o2 l 0 = none) :
    ∃ o3, wX c cuts (pres s l) = .ok o3 ∧ badR o3 (pres s l) 0 = none ∧ atF [] o2 s = finL o3 := by
  obtain ⟨hc, hbad, hm⟩ := wX_ok h
  have hE := effL_is hbad
  have hbp := bad_pres hs hbad
  have hEp := effL_is hbp
  have hsp := mapsX_spec hbad (s := s1M c) rfl
  rw [hm] at hsp
  obtain ⟨hM, ⟨s2, hr, -⟩, hat⟩ := hsp
  obtain ⟨e1, e2, e3⟩ := eff_pres hs hbad hE hEp
  obtain ⟨k, hk⟩ : ∃ k, k = (effL (pres s l)).length := ⟨_, rfl⟩
  rw [← hk] at e1 e2 e3
  have hin : ∀ i ∈ (effL l).take k, ∃ x, l[i]? = some x ∧ x.took ≤ s ∧ (pres s l)[i]? = some (pfx s x) := fun i hi => by
    rw [← e1] at hi
    obtain ⟨y, hy, h0⟩ := (hEp.2 i).1 hi
    obtain ⟨x, hx, hxs, rfl, -⟩ := pres_get hy
    refine ⟨x, hx, ?_, hy⟩
    rw [pfx_took] at h0
    split at h0
    · omega
    · omega
  have hout : ∀ i ∈ (effL l).drop k, s < tk l i := fun i hi => by
    obtain ⟨q, hq⟩ := List.mem_iff_getElem?.1 hi
    rw [List.getElem?_drop] at hq
    have hkl : k < (effL l).length := by have := (List.getElem?_eq_some_iff.1 hq).1; omega
    obtain ⟨x, hx, hsx⟩ := e3 _ (List.getElem?_eq_getElem hkl)
    have h1 : s < tk l ((effL l)[k]) := by rw [tk_of hx]; exact hsx
    by_cases hq0 : q = 0
    · subst hq0
      rw [Nat.add_zero, List.getElem?_eq_getElem hkl] at hq
      injection hq with hq; rw [← hq]; exact h1
    · have hq2 := (List.getElem?_eq_some_iff.1 hq)
      obtain ⟨hq3, hq4⟩ := hq2
      have := (List.pairwise_iff_getElem.1 hE.1) k (k + q) hkl hq3 (by omega)
      rw [hq4] at this
      omega
  obtain ⟨m3, h1, h2⟩ := runF_take l (pres s l) s hs (effL l) (s1M c) s2 hr k hin
  rw [← e1] at h1 h2
  have hsp2 := mapsX_spec hbp (s := s1M c) rfl
  cases hm2 : mapsX (s1M c) (pres s l) with
  | error i => rw [hm2] at hsp2; rw [h1] at hsp2; cases hsp2
  | ok o3 =>
    rw [hm2] at hsp2
    obtain ⟨hM3, ⟨s3, hr3, z3, hz3, hzs3⟩, hat3⟩ := hsp2
    rw [h1] at hr3; injection hr3 with hr3; subst hr3
    have hw : wX c cuts (pres s l) = .ok o3 := by unfold wX; rw [if_neg (by omega), hbp]; simp only; rw [hm2]; rfl
    have heq : ∀ st, -1 ≤ st → st ≤ s → atF [] o3 st = atF [] o2 st := fun st ha hb => by rw [hat3 st ha, hat st ha, h2 st hb hout]
    refine ⟨o3, hw, ?_, ?_⟩
    · rw [badR_none] at hb ⊢
      intro y hy hry
      obtain ⟨j, hj⟩ := List.mem_iff_getElem?.1 hy
      obtain ⟨x, hx, hxs, rfl, -⟩ := pres_get hj
      have hans : x.ans ≤ s ∧ 0 ≤ x.ans := by
        unfold readB at hry
        simp only [Bool.and_eq_true, decide_eq_true_eq] at hry
        have := hry.2.1
        rw [pfx_ans] at this
        split at this
        · omega
        · omega
      have hta := ans_ge hbad hx hans.2
      have e : pfx s x = x := by unfold pfx; rw [if_neg (by omega), if_neg (by omega)]
      rw [e] at hry ⊢
      have hinv := inv_nonneg hbad hx
      have hle := took_le hbad hx hta.1
      have hxp := hb x (List.mem_of_getElem? hx) hry
      rcases explM_spec hM hinv (by omega : x.inv ≤ x.ans) with ⟨a1, a2, a3, a4, a5, a6, -⟩ | ⟨a1, -⟩
      · rcases explM_spec hM3 hinv (by omega : x.inv ≤ x.ans) with ⟨b1, -⟩ | ⟨b1, b2⟩
        · exact b1
        · have := b2 a2 a3 (explM o2 x) a4 a5
          rw [heq _ (by omega) (by omega), a6] at this
          cases this
      · omega
    · have h4 : stAt (pres s l) (effL (pres s l)) (s1M c) s = m3 := stAt_all _ _ _ _ _ (fun i hi => by
        obtain ⟨y, hy, h0⟩ := (hEp.2 i).1 hi
        rw [tk_of hy]
        obtain ⟨x, hx, hxs, rfl, -⟩ := pres_get hy
        rw [pfx_took] at h0 ⊢
        split at h0
        · omega
        · rename_i hq; rw [if_neg hq]; omega) h1
      rw [← heq s hs (Int.le_refl _), hat3 s hs, h4]
      unfold finL; rw [hz3]; exact hzs3.symm
end Go.Proofs.YtfnapkfdocabcaaGreat
