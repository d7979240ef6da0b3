import Derived.Test.YtfnapkfdocabcaaGreatGRg
import Derived.Lib.ItoaNum
set_option linter.unusedVariables false
set_option linter.unusedSimpArgs false
set_option linter.unnecessarySimpa false
namespace Go.Proofs.YtfnapkfdocabcaaGreat
open Go.RowKit Go.Xt
/-! Accept of any result of any operation. -/
def aloneR (r : Rs) : Bool := eqR r.err r.fd r.key r.val r.cnt r.err false 0 0 0
/-- Accept. -/
def acceptM (s : Md) (t : Int) (o : Ox) (r : Rs) : Bool × Md :=
  if refM s t o ≠ 0 then (aloneR r && (r.err == refM s t o), s)
  else match s.th[t.toNat]? with
    | none => (false, s)
    | some x =>
      if (aloneR r && givesM s o r.err) = true then (true, s)
      else if o.k = 12 then
        if (aloneR r && (r.err == 14)) = true then (true, { s with th := s.th.set t.toNat x.fin })
        else if r.err = 0 ∧ r.fd = true ∧ r.cnt = 0 ∧ x.lo ≤ r.key ∧ r.key ≤ x.hi then (true, { s with th := s.th.set t.toNat (x.after r.key) }) else (false, s)
      else if o.k = 15 then (eqR r.err r.fd r.key r.val r.cnt 0 false 0 0 r.cnt && (decide (0 ≤ r.cnt) && decide (r.cnt ≤ 1024)), s)
      else if (perfM s t.toNat x o).1 = r then (true, (perfM s t.toNat x o).2) else (false, s)
theorem eqR_iff (a b : Rs) : eqR a.err a.fd a.key a.val a.cnt b.err b.fd b.key b.val b.cnt = decide (a = b) := by
  obtain ⟨a1, a2, a3, a4, a5⟩ := a
  obtain ⟨b1, b2, b3, b4, b5⟩ := b
  simp [eqR, Rs.mk.injEq]
theorem accept_any (w : World) (p : Pl) (s : Md) (h : MAt w p s) {N : Nat} (hok : s.Ok N) (hN : N ≤ 500000) (t : Int) (o : Ox) (hw : o.Wf) (r : Rs) (hk : 0 ≤ r.key ∧ r.key < 18446744073709551616) :
    Calls Tryz.prog 15 #[.pointer (some ⟨p.gm, 0, none⟩), .int .i64 t, opV o, resV r] w fun q w' => q = .returned (.bool (acceptM s t o r).1) ∧ ∃ p', MUp w p (acceptM s t o r).2 p' w' := by
  have hl : s.l.length ≤ 500000 := Nat.le_trans hok.len hN
  obtain ⟨k, a, b, c, d, e, f⟩ := o
  obtain ⟨er, fd, ke, va, cn⟩ := r
  unfold opV resV
  simp only at hk ⊢
  by_cases hr : refM s t ⟨k, a, b, c, d, e, f⟩ = 0
  · obtain ⟨t, x, rfl, hx, hc, hre, -⟩ := refM_zero hr
    have ht0 : 0 < s.th.length := by have := (List.getElem?_eq_some_iff.1 hx).1; omega
    unfold acceptM
    rw [if_neg (by simpa using hr), Int.toNat_natCast, hx]
    simp only [aloneR]
    obtain ⟨al, hal⟩ : ∃ al, eqR er fd ke va cn er false 0 0 0 = al := ⟨_, rfl⟩
    obtain ⟨gv, hgv⟩ : ∃ gv, givesM s ⟨k, a, b, c, d, e, f⟩ er = gv := ⟨_, rfl⟩
    rw [hal, hgv]
    by_cases hag : (al && gv) = true
    · rw [if_pos hag]
      simp only [Bool.and_eq_true] at hag
      exact acc_gives w p s h hl t k a b c d e f er fd ke va cn hw hr hc (by rw [hal, hag.1]) (by rw [hgv, hag.2])
    rw [if_neg hag]
    by_cases k12 : k = 12
    · subst k12
      rw [if_pos rfl]
      by_cases he : (al && (er == 14)) = true
      · rw [if_pos he]
        simp only [Bool.and_eq_true, beq_iff_eq] at he
        have hg : gv = false := by rw [← hgv, he.2]; simp [givesM]
        exact acc_12e w p s h hl t a b c d e f er fd ke va cn hw x hx hr hc (by rw [hal, he.1]) (by rw [hgv, hg]) he.2
      rw [if_neg he]
      by_cases hq : er = 0 ∧ fd = true ∧ cn = 0
      · obtain ⟨h1, h2, h3⟩ := hq
        by_cases hh : x.lo ≤ ke ∧ ke ≤ x.hi
        · rw [if_pos ⟨h1, h2, h3, hh.1, hh.2⟩]
          exact acc_12p w p s h hl t a b c d e f er fd ke va cn hw x hx hr hc h1 h2 h3 hk (by simp [hh.1, hh.2])
        · rw [if_neg (fun q => hh ⟨q.2.2.2.1, q.2.2.2.2⟩)]
          exact acc_12c w p s h hl t a b c d e f er fd ke va cn hw x hx hr hc h1 h2 h3 (by
            cases hd : (decide (x.lo ≤ ke) && decide (ke ≤ x.hi)) with
            | false => rfl
            | true => simp at hd; exact absurd hd hh)
      · rw [if_neg (fun q => hq ⟨q.1, q.2.1, q.2.2.1⟩)]
        have hb2 : eqR er fd ke va cn 0 true ke va 0 = false := by
          cases hd : eqR er fd ke va cn 0 true ke va 0 with
          | false => rfl
          | true => simp [eqR] at hd; exact absurd hd hq
        cases al with
        | true =>
          have hg : gv = false := by simpa using hag
          have he2 : er ≠ 14 := by simpa using he
          exact acc_12a w p s h hl t a b c d e f er fd ke va cn hw x hx hr hc hal (by rw [hgv, hg]) he2 hb2
        | false => exact acc_12b w p s h hl t a b c d e f er fd ke va cn hw x hx hr hc hal hb2
    rw [if_neg k12]
    by_cases k15 : k = 15
    · subst k15
      rw [if_pos rfl]
      exact acc_15 w p s h hl t a b c d e f er fd ke va cn hw hr hc (by
        rw [hal, hgv]
        cases al with
        | false => exact .inl rfl
        | true => exact .inr (by simpa using hag))
    rw [if_neg k15]
    obtain ⟨⟨⟨e2, f2, k2, v2, c2⟩, s2⟩, hP⟩ : ∃ q, perfM s t x ⟨k, a, b, c, d, e, f⟩ = q := ⟨_, rfl⟩
    rw [hP]
    simp only
    have hiff := eqR_iff ⟨e2, f2, k2, v2, c2⟩ ⟨er, fd, ke, va, cn⟩
    simp only at hiff
    by_cases hb : (⟨e2, f2, k2, v2, c2⟩ : Rs) = ⟨er, fd, ke, va, cn⟩
    · rw [if_pos hb]
      have hb2 : eqR e2 f2 k2 v2 c2 er fd ke va cn = true := by rw [hiff]; exact decide_eq_true hb
      cases al with
      | true => exact acc_yes1 w p s h hl t k a b c d e f er fd ke va cn hw x hx hr hc hok hN ht0 k12 k15 hre hal (by rw [hgv]; simpa using hag) e2 f2 k2 v2 c2 s2 hP hb2
      | false => exact acc_yes0 w p s h hl t k a b c d e f er fd ke va cn hw x hx hr hc hok hN ht0 k12 k15 hre hal e2 f2 k2 v2 c2 s2 hP hb2
    · rw [if_neg hb]
      have hb2 : eqR e2 f2 k2 v2 c2 er fd ke va cn = false := by rw [hiff]; exact decide_eq_false hb
      cases al with
      | true => exact acc_no1 w p s h hl t k a b c d e f er fd ke va cn hw x hx hr hc hok hN ht0 k12 k15 hre hal (by rw [hgv]; simpa using hag) e2 f2 k2 v2 c2 s2 hP hb2
      | false => exact acc_no0 w p s h hl t k a b c d e f er fd ke va cn hw x hx hr hc hok hN ht0 k12 k15 hre hal e2 f2 k2 v2 c2 s2 hP hb2
  · have e1 : acceptM s t ⟨k, a, b, c, d, e, f⟩ ⟨er, fd, ke, va, cn⟩ = (eqR er fd ke va cn er false 0 0 0 && (er == refM s t ⟨k, a, b, c, d, e, f⟩), s) := by unfold acceptM; rw [if_pos hr]; rfl
    rw [e1]
    exact acc_ref w p s h hl t k a b c d e f er fd ke va cn hw hr
theorem acceptM_ok {s : Md} {N : Nat} (hok : s.Ok N) (t : Int) {o : Ox} (hw : o.Wf) {r : Rs} (hk : 0 ≤ r.key) : (acceptM s t o r).2.Ok (N + 1) := by
  unfold acceptM
  by_cases hr : refM s t o = 0
  · obtain ⟨t, x, rfl, hx, hc, hre, -⟩ := refM_zero hr
    have hxo := hok.th x (List.mem_of_getElem? hx)
    rw [if_neg (by simpa using hr), Int.toNat_natCast, hx]
    simp only
    split
    · exact hok.mono (Nat.le_succ N)
    · split
      · split
        · exact (hok.mono (Nat.le_succ N)).setT t hxo.fin
        · split
          · exact (hok.mono (Nat.le_succ N)).setT t (hxo.after _ hk)
          · exact hok.mono (Nat.le_succ N)
      · split
        · exact hok.mono (Nat.le_succ N)
        · split
          · exact perfM_ok hok hx hw hc hre
          · exact hok.mono (Nat.le_succ N)
  · rw [if_pos hr]; exact hok.mono (Nat.le_succ N)
/-- Accept. -/
theorem accept_LS {w W : World} {gm : Nat} {s : Md} {N : Nat} (h : LS w gm s N W) (hN : N ≤ 500000) (t : Int) (o : Ox) (hw : o.Wf) (r : Rs) (hk : 0 ≤ r.key ∧ r.key < 18446744073709551616) :
    Calls Tryz.prog 15 #[.pointer (some ⟨gm, 0, none⟩), .int .i64 t, opV o, resV r] W fun e W' => e = .returned (.bool (acceptM s t o r).1) ∧ LS w gm (acceptM s t o r).2 (N + 1) W' := by
  obtain ⟨p, rfl, h1, h2, h3, h4⟩ := h
  refine (accept_any W p s h1 h2 hN t o hw r hk).mono ?_
  rintro e W' ⟨rfl, p', hu⟩
  exact ⟨rfl, LS.up rfl h3 h4 hu (acceptM_ok h2 t hw hk.1)⟩
end Go.Proofs.YtfnapkfdocabcaaGreat
namespace Go.Proofs.YtfnapkfdocabcaaGreat
open Go.RowKit Go.Xt
/-! Two quiet operations of different threads, plain. -/
/-- What a quiet operation makes of the pairs and its thread. -/
def qM (l : List (Int × Int)) (x : Th) (o : Ox) : Rs × Th :=
  if chkO o ≠ 0 then (⟨chkO o, false, 0, 0, 0⟩, x)
  else if refE x o ≠ 0 then (⟨refE x o, false, 0, 0, 0⟩, x)
  else if o.k = 3 then (⟨0, hasK o.key l, 0, valL o.key l, 0⟩, x)
  else if o.k = 10 then (⟨0, false, 0, 0, l.length⟩, x)
  else if o.k = 11 then (r0, ⟨true, true, o.key, o.hi, x.se⟩)
  else if o.k = 12 then match nextL x.lo x.hi l with
    | none => (rEnd, x.fin)
    | some q => (⟨0, true, q.1, q.2, 0⟩, x.after q.1)
  else if o.k = 13 then (r0, x.from_ o.key)
  else if o.k = 14 then (r0, ⟨false, false, 0, 0, x.se⟩)
  else (r0, x)
def quietK (k : Int) : Bool := decide (k = 3) || (decide (10 ≤ k) && decide (k ≤ 15))
end Go.Proofs.YtfnapkfdocabcaaGreat
namespace Go.Proofs.YtfnapkfdocabcaaGreat
open Go.RowKit Go.Xt
/-! ModelAccepts and ModelRefuses, plain. -/
theorem alone_iff (r : Rs) : aloneR r = decide (r = ⟨r.err, false, 0, 0, 0⟩) := eqR_iff r ⟨r.err, false, 0, 0, 0⟩
/-- What an operation returns that is performed: no error, but of OpOpen and OpNext. -/
theorem perf_err (s : Md) (t : Nat) (x : Th) (o : Ox) : (perfM s t x o).1.err = 0 ∨ (o.k = 1 ∧ perfM s t x o = (⟨10, false, 0, 0, 0⟩, s)) ∨ (o.k = 12 ∧ perfM s t x o = (⟨14, false, 0, 0, 0⟩, { s with th := s.th.set t x.fin })) := by
  by_cases k1 : o.k = 1
  · by_cases hs : s.slots ≤ (cntS s.th : Nat)
    · refine .inr (.inl ⟨k1, ?_⟩)
      unfold perfM; rw [if_pos k1]
      unfold openE openM; rw [if_pos hs, if_pos hs]
    · left
      unfold perfM; rw [if_pos k1]
      show openE s = 0
      unfold openE; rw [if_neg hs]
  by_cases k12 : o.k = 12
  · cases hq : nextL x.lo x.hi s.l with
    | none => exact .inr (.inr ⟨k12, by unfold perfM; simp [k12, hq]⟩)
    | some q => left; unfold perfM; simp [k12, hq]
  left
  unfold perfM
  rw [if_neg k1]
  by_cases k2 : o.k = 2
  · rw [if_pos k2]
  rw [if_neg k2]
  by_cases k3 : o.k = 3
  · rw [if_pos k3]
  rw [if_neg k3]
  by_cases k4 : o.k = 4
  · rw [if_pos k4]
  rw [if_neg k4]
  by_cases k5 : o.k = 5
  · rw [if_pos k5]
  rw [if_neg k5]
  by_cases k6 : o.k = 6
  · rw [if_pos k6]
  rw [if_neg k6]
  by_cases k7 : o.k = 7
  · rw [if_pos k7]
  rw [if_neg k7]
  by_cases k8 : o.k = 8
  · rw [if_pos k8]
  rw [if_neg k8]
  by_cases k9 : o.k = 9
  · rw [if_pos k9]
  rw [if_neg k9]
  by_cases k10 : o.k = 10
  · rw [if_pos k10]
  rw [if_neg k10]
  by_cases k11 : o.k = 11
  · rw [if_pos k11]
  rw [if_neg k11, if_neg k12]
  by_cases k13 : o.k = 13
  · rw [if_pos k13]
  rw [if_neg k13]
  by_cases k14 : o.k = 14
  · rw [if_pos k14]
  rw [if_neg k14]
theorem gives_zero (s : Md) (o : Ox) : givesM s o 0 = false := by simp [givesM]
/-- What Do returns is accepted, and leads to the same state. -/
theorem acc_do {s : Md} (t : Int) (o : Ox) : acceptM s t o (doM s t o).1 = (true, (doM s t o).2) := by
  by_cases hr : refM s t o = 0
  · obtain ⟨t, x, rfl, hx, hc, hre, hd⟩ := refM_zero hr
    rw [hd]
    unfold acceptM
    rw [if_neg (fun h => h hr), Int.toNat_natCast, hx]
    simp only
    rcases perf_err s t x o with h0 | ⟨k1, hp⟩ | ⟨k12, hp⟩
    · rw [if_neg (by rw [h0, gives_zero]; simp)]
      by_cases k12 : o.k = 12
      · rw [if_pos k12]
        have e14 : ((perfM s t x o).1.err == 14) = false := by rw [h0]; rfl
        rw [if_neg (by rw [e14]; simp)]
        cases hq : nextL x.lo x.hi s.l with
        | none =>
          exfalso
          have : (perfM s t x o).1.err = 14 := by unfold perfM; simp [k12, hq]
          omega
        | some q =>
          have hp : perfM s t x o = (⟨0, true, q.1, q.2, 0⟩, { s with th := s.th.set t (x.after q.1) }) := by unfold perfM; simp [k12, hq]
          have hm := nextL_mem hq
          rw [hp]
          rw [if_pos ⟨rfl, rfl, rfl, hm.2.1, hm.2.2⟩]
      rw [if_neg k12]
      by_cases k15 : o.k = 15
      · rw [if_pos k15]
        have hp : perfM s t x o = (⟨0, false, 0, 0, 0⟩, s) := by unfold perfM; simp [k15]
        rw [hp]
        rfl
      rw [if_neg k15]
      simp
    · rw [hp]
      have : (aloneR (⟨10, false, 0, 0, 0⟩ : Rs) && givesM s o 10) = true := by simp [alone_iff, givesM, k1]
      rw [if_pos this]
    · rw [hp]
      have h1 : ¬ ((aloneR (⟨14, false, 0, 0, 0⟩ : Rs) && givesM s o 14) = true) := by simp [givesM]
      rw [if_neg h1, if_pos k12]
      have h2 : (aloneR (⟨14, false, 0, 0, 0⟩ : Rs) && ((14 : Int) == 14)) = true := by simp [alone_iff]
      rw [if_pos h2]
  · have e : doM s t o = (⟨refM s t o, false, 0, 0, 0⟩, s) := by unfold doM; rw [if_pos hr]
    rw [e]
    unfold acceptM
    rw [if_pos hr]
    simp [alone_iff]
/-- An accepted result leaves the pairs, or they are those after Do; an error leaves them. -/
theorem acc_pairs (s : Md) (t : Int) (o : Ox) (r : Rs) : (acceptM s t o r).2.l = s.l ∨ (r.err = 0 ∧ (acceptM s t o r).2.l = (doM s t o).2.l) := by
  by_cases hr : refM s t o = 0
  · obtain ⟨t, x, rfl, hx, hc, hre, hd⟩ := refM_zero hr
    rw [hd]
    unfold acceptM
    rw [if_neg (fun h => h hr), Int.toNat_natCast, hx]
    simp only
    by_cases h1 : (aloneR r && givesM s o r.err) = true
    · rw [if_pos h1]; exact .inl rfl
    rw [if_neg h1]
    by_cases k12 : o.k = 12
    · rw [if_pos k12]
      left
      split
      · rfl
      · split <;> rfl
    rw [if_neg k12]
    by_cases k15 : o.k = 15
    · rw [if_pos k15]; exact .inl rfl
    rw [if_neg k15]
    by_cases h4 : (perfM s t x o).1 = r
    · rw [if_pos h4]
      rcases perf_err s t x o with h0 | ⟨k1, hp⟩ | ⟨k, hp⟩
      · exact .inr ⟨by rw [← h4]; exact h0, rfl⟩
      · left; rw [hp]
      · exact absurd k k12
    rw [if_neg h4]; exact .inl rfl
  · unfold acceptM; rw [if_pos hr]; exact .inl rfl
/-- Only the six operations that write change the pairs. -/
theorem do_still {s : Md} {t : Int} {o : Ox} (h : ¬ (4 ≤ o.k ∧ o.k ≤ 9)) : (doM s t o).2.l = s.l := by
  by_cases hr : refM s t o = 0
  · obtain ⟨t, x, rfl, hx, hc, hre, hd⟩ := refM_zero hr
    rw [hd]
    by_cases k1 : o.k = 1
    · unfold perfM; rw [if_pos k1]
      show (openM s t x).l = s.l
      unfold openM; split <;> rfl
    by_cases k12 : o.k = 12
    · cases hq : nextL x.lo x.hi s.l with
      | none => unfold perfM; simp [k12, hq]
      | some q => unfold perfM; simp [k12, hq]
    have hk := (chk_formed hc).1
    rcases (by omega : o.k = 2 ∨ o.k = 3 ∨ o.k = 10 ∨ o.k = 11 ∨ o.k = 13 ∨ o.k = 14 ∨ o.k = 15) with k | k | k | k | k | k | k <;> (unfold perfM; simp [k])
  · have e : doM s t o = (⟨refM s t o, false, 0, 0, 0⟩, s) := by unfold doM; rw [if_pos hr]
    rw [e]
abbrev rRetry : Rs := ⟨11, false, 0, 0, 0⟩
end Go.Proofs.YtfnapkfdocabcaaGreat
