import Derived.Test.YtahagplegmcaaaaDoorGQo
import Derived.Lib.ItoaNum
set_option linter.unusedVariables false
set_option linter.unusedSimpArgs false
set_option linter.unnecessarySimpa false
namespace Go.Proofs.YtahagplegmcaaaaDoor
open Go.RowKit Go.Xt
/-! Accept at an operation that is performed. -/
/-- '*m = *n': the model is the copy's. -/
theorem acc_store {w W6 : World} {p p6 : Pl} {s s2 : Md} {ct : Nat} (H : MAt w p s) (hn : Nw w W6) (h6 : MAt W6 p6 s2) (hf : ∀ g ∈ p6.foot, w.heap.size ≤ g) :
    MUp w p s2 ⟨p.gm, p6.gt, p6.gp, p6.v⟩ (((W6.setCell ⟨p.gm, 0, none⟩ (.int .i64 s2.slots)).setCell ⟨p.gm, 1, none⟩ (.pointer (some ⟨p6.gp, 0, none⟩))).setCell ⟨p.gm, 2, none⟩ (.slice (some ⟨p6.gt, 0, none⟩) s2.th.length ct)) := by
  have im := H.im
  have e0 := cell_nw H.m0 hn
  have e1 := cell_nw H.m1 hn
  obtain ⟨c0, m2⟩ := H.m2
  have e2 := cell_nw m2 hn
  have hch : Chg [p.gm] W6 (((W6.setCell ⟨p.gm, 0, none⟩ (.int .i64 s2.slots)).setCell ⟨p.gm, 1, none⟩ (.pointer (some ⟨p6.gp, 0, none⟩))).setCell ⟨p.gm, 2, none⟩ (.slice (some ⟨p6.gt, 0, none⟩) s2.th.length ct)) := ((Chg.set1 W6 p.gm 0 _).set2 1 _).set2 2 _
  have f1 := hf _ (Pl.mem.2 (.inr (.inl rfl)))
  have f2 := hf _ (Pl.mem.2 (.inr (.inr (.inl rfl))))
  have f3 : p6.v.ownBlock ≠ some p.gm := fun e => by have := hf _ (Pl.mem.2 (.inr (.inr (.inr e)))); omega
  refine ⟨⟨by simp [go_sem, e0, e1, e2], by simp [go_sem, e0, e1, e2], ⟨ct, by simp [go_sem, e0, e1, e2]⟩, fun o => ?_, h6.th.chg hch (by simp; omega), h6.om.chg hch (by simp; omega) (fun g hg hx => by simp at hx; subst hx; exact f3 hg), by show p.gm ≠ p6.gt; omega, by show p.gm ≠ p6.gp; omega, h6.ntp, f3, h6.ntv⟩, ?_, fun y hy => ?_, rfl⟩
  · rw [World.frozen?_setCell, World.frozen?_setCell, World.frozen?_setCell]
    exact (frozen_nw im hn).trans (H.mz o)
  · exact (Chg.of_nw hn : Chg p.foot w W6).then hch (fun y hy => by simp at hy; subst hy; exact .inl (Pl.mem.2 (.inl rfl)))
  · rcases Pl.mem.1 hy with h9 | h9 | h9 | h9
    · exact .inl (Pl.mem.2 (.inl h9))
    · exact .inr (by have h9 : y = p6.gt := h9; omega)
    · exact .inr (by have h9 : y = p6.gp := h9; omega)
    · exact .inr (hf _ (Pl.mem.2 (.inr (.inr (.inr h9)))))
end Go.Proofs.YtahagplegmcaaaaDoor
namespace Go.Proofs.YtahagplegmcaaaaDoor
open Go.RowKit Go.Xt
/-! Accept of any result of any operation. -/
def aloneR (r : Rs) : Bool := eqR r.err r.fd r.key r.val r.cnt r.err false 0 0 0
/-- Accept. -/
def acceptM (s : Md) (t : Int) (o : Ox) (r : Rs) : Bool × Md :=
  if refM s t o ≠ 0 then (aloneR r && (r.err == refM s t o), s)
  else match s.th[t.toNat]? with
    | none => (false, s)
    | some x =>
      if (aloneR r && givesM s o r.err) = true then (true, s)
      else if o.k = 12 then
        if (aloneR r && (r.err == 14)) = true then (true, { s with th := s.th.set t.toNat x.fin })
        else if r.err = 0 ∧ r.fd = true ∧ r.cnt = 0 ∧ x.lo ≤ r.key ∧ r.key ≤ x.hi then (true, { s with th := s.th.set t.toNat (x.after r.key) }) else (false, s)
      else if o.k = 15 then (eqR r.err r.fd r.key r.val r.cnt 0 false 0 0 r.cnt && (decide (0 ≤ r.cnt) && decide (r.cnt ≤ 1024)), s)
      else if (perfM s t.toNat x o).1 = r then (true, (perfM s t.toNat x o).2) else (false, s)
theorem eqR_iff (a b : Rs) : eqR a.err a.fd a.key a.val a.cnt b.err b.fd b.key b.val b.cnt = decide (a = b) := by
  obtain ⟨a1, a2, a3, a4, a5⟩ := a
  obtain ⟨b1, b2, b3, b4, b5⟩ := b
  simp [eqR, Rs.mk.injEq]
theorem acceptM_ok {s : Md} {N : Nat} (hok : s.Ok N) (t : Int) {o : Ox} (hw : o.Wf) {r : Rs} (hk : 0 ≤ r.key) : (acceptM s t o r).2.Ok (N + 1) := by
  unfold acceptM
  by_cases hr : refM s t o = 0
  · obtain ⟨t, x, rfl, hx, hc, hre, -⟩ := refM_zero hr
    have hxo := hok.th x (List.mem_of_getElem? hx)
    rw [if_neg (by simpa using hr), Int.toNat_natCast, hx]
    simp only
    split
    · exact hok.mono (Nat.le_succ N)
    · split
      · split
        · exact (hok.mono (Nat.le_succ N)).setT t hxo.fin
        · split
          · exact (hok.mono (Nat.le_succ N)).setT t (hxo.after _ hk)
          · exact hok.mono (Nat.le_succ N)
      · split
        · exact hok.mono (Nat.le_succ N)
        · split
          · exact perfM_ok hok hx hw hc hre
          · exact hok.mono (Nat.le_succ N)
  · rw [if_pos hr]; exact hok.mono (Nat.le_succ N)
end Go.Proofs.YtahagplegmcaaaaDoor
namespace Go.Proofs.YtahagplegmcaaaaDoor
open Go.RowKit Go.Xt
/-! Two quiet operations of different threads, plain. -/
/-- What a quiet operation makes of the pairs and its thread. -/
def qM (l : List (Int × Int)) (x : Th) (o : Ox) : Rs × Th :=
  if chkO o ≠ 0 then (⟨chkO o, false, 0, 0, 0⟩, x)
  else if refE x o ≠ 0 then (⟨refE x o, false, 0, 0, 0⟩, x)
  else if o.k = 3 then (⟨0, hasK o.key l, 0, valL o.key l, 0⟩, x)
  else if o.k = 10 then (⟨0, false, 0, 0, l.length⟩, x)
  else if o.k = 11 then (r0, ⟨true, true, o.key, o.hi, x.se⟩)
  else if o.k = 12 then match nextL x.lo x.hi l with
    | none => (rEnd, x.fin)
    | some q => (⟨0, true, q.1, q.2, 0⟩, x.after q.1)
  else if o.k = 13 then (r0, x.from_ o.key)
  else if o.k = 14 then (r0, ⟨false, false, 0, 0, x.se⟩)
  else (r0, x)
def quietK (k : Int) : Bool := decide (k = 3) || (decide (10 ≤ k) && decide (k ≤ 15))
theorem set_self {th : List Th} {t : Nat} {x : Th} (h : th[t]? = some x) : th.set t x = th := by
  apply List.ext_getElem?
  intro i
  by_cases hi : t = i
  · subst hi; rw [List.getElem?_set_self (List.getElem?_eq_some_iff.1 h).1, h]
  · rw [List.getElem?_set_ne hi]
theorem do_quiet {s : Md} {t : Nat} {x : Th} (hx : s.th[t]? = some x) {o : Ox} (hq : quietK o.k = true) : doM s t o = ((qM s.l x o).1, { s with th := s.th.set t (qM s.l x o).2 }) := by
  have hs : ({ s with th := s.th.set t x } : Md) = s := by rw [set_self hx]
  obtain ⟨p, _⟩ := List.getElem?_eq_some_iff.1 hx
  by_cases hc : chkO o = 0
  · have hc' : ¬ (chkO o ≠ 0) := fun h => h hc
    rw [doM_at hx hc]
    by_cases hr : refE x o = 0
    · have hr' : ¬ (refE x o ≠ 0) := fun h => h hr
      rw [if_neg hr']
      unfold qM
      rw [if_neg hc', if_neg hr']
      have hk : o.k = 3 ∨ o.k = 10 ∨ o.k = 11 ∨ o.k = 12 ∨ o.k = 13 ∨ o.k = 14 ∨ o.k = 15 := by
        unfold quietK at hq
        simp at hq
        omega
      unfold perfM
      rcases hk with k | k | k | k | k | k | k
      · simp only [k]; simp [hs]
      · simp only [k]; simp [hs]
      · simp only [k]; simp
      · simp only [k]
        cases nextL x.lo x.hi s.l <;> simp
      · simp only [k]; simp
      · simp only [k]; simp
      · simp only [k]; simp [hs]
    · rw [if_pos hr]
      unfold qM
      rw [if_neg hc', if_pos hr]
      show _ = (_, ({ s with th := s.th.set t x } : Md))
      rw [hs]
  · have e1 : refM s t o = chkO o := by
      unfold refM; rw [if_neg (by omega), if_pos hc]
    have e2 : doM s t o = (⟨chkO o, false, 0, 0, 0⟩, s) := by unfold doM; rw [e1, if_pos hc]
    rw [e2]
    unfold qM
    rw [if_pos hc]
    show _ = (_, ({ s with th := s.th.set t x } : Md))
    rw [hs]
/-- They may change places. -/
theorem quiet_comm {m : Md} {s t : Nat} {x y : Th} (hst : s ≠ t) (hx : m.th[s]? = some x) (hy : m.th[t]? = some y) {o q : Ox} (ho : quietK o.k = true) (hq : quietK q.k = true) :
    (doM (doM m s o).2 t q).1 = (doM m t q).1 ∧ (doM (doM m t q).2 s o).1 = (doM m s o).1 ∧ (doM (doM m s o).2 t q).2 = (doM (doM m t q).2 s o).2 := by
  rw [do_quiet hx ho, do_quiet hy hq]
  have hy2 : (m.th.set s (qM m.l x o).2)[t]? = some y := by rw [List.getElem?_set_ne hst]; exact hy
  have hx2 : (m.th.set t (qM m.l y q).2)[s]? = some x := by rw [List.getElem?_set_ne (Ne.symm hst)]; exact hx
  have e1 := do_quiet (s := { m with th := m.th.set s (qM m.l x o).2 }) hy2 hq
  have e2 := do_quiet (s := { m with th := m.th.set t (qM m.l y q).2 }) hx2 ho
  simp only at e1 e2 ⊢
  rw [e1, e2]
  refine ⟨rfl, rfl, ?_⟩
  simp only
  rw [List.set_comm _ _ hst]
end Go.Proofs.YtahagplegmcaaaaDoor
namespace Go.Proofs.YtahagplegmcaaaaDoor
open Go.RowKit Go.Xt
/-! ModelAccepts and ModelRefuses, plain. -/
theorem alone_iff (r : Rs) : aloneR r = decide (r = ⟨r.err, false, 0, 0, 0⟩) := eqR_iff r ⟨r.err, false, 0, 0, 0⟩
/-- What an operation returns that is performed: no error, but of OpOpen and OpNext. -/
theorem perf_err (s : Md) (t : Nat) (x : Th) (o : Ox) : (perfM s t x o).1.err = 0 ∨ (o.k = 1 ∧ perfM s t x o = (⟨10, false, 0, 0, 0⟩, s)) ∨ (o.k = 12 ∧ perfM s t x o = (⟨14, false, 0, 0, 0⟩, { s with th := s.th.set t x.fin })) := by
  by_cases k1 : o.k = 1
  · by_cases hs : s.slots ≤ (cntS s.th : Nat)
    · refine .inr (.inl ⟨k1, ?_⟩)
      unfold perfM; rw [if_pos k1]
      unfold openE openM; rw [if_pos hs, if_pos hs]
    · left
      unfold perfM; rw [if_pos k1]
      show openE s = 0
      unfold openE; rw [if_neg hs]
  by_cases k12 : o.k = 12
  · cases hq : nextL x.lo x.hi s.l with
    | none => exact .inr (.inr ⟨k12, by unfold perfM; simp [k12, hq]⟩)
    | some q => left; unfold perfM; simp [k12, hq]
  left
  unfold perfM
  rw [if_neg k1]
  by_cases k2 : o.k = 2
  · rw [if_pos k2]
  rw [if_neg k2]
  by_cases k3 : o.k = 3
  · rw [if_pos k3]
  rw [if_neg k3]
  by_cases k4 : o.k = 4
  · rw [if_pos k4]
  rw [if_neg k4]
  by_cases k5 : o.k = 5
  · rw [if_pos k5]
  rw [if_neg k5]
  by_cases k6 : o.k = 6
  · rw [if_pos k6]
  rw [if_neg k6]
  by_cases k7 : o.k = 7
  · rw [if_pos k7]
  rw [if_neg k7]
  by_cases k8 : o.k = 8
  · rw [if_pos k8]
  rw [if_neg k8]
  by_cases k9 : o.k = 9
  · rw [if_pos k9]
  rw [if_neg k9]
  by_cases k10 : o.k = 10
  · rw [if_pos k10]
  rw [if_neg k10]
  by_cases k11 : o.k = 11
  · rw [if_pos k11]
  rw [if_neg k11, if_neg k12]
  by_cases k13 : o.k = 13
  · rw [if_pos k13]
  rw [if_neg k13]
  by_cases k14 : o.k = 14
  · rw [if_pos k14]
  rw [if_neg k14]
theorem gives_zero (s : Md) (o : Ox) : givesM s o 0 = false := by simp [givesM]
/-- What Do returns is accepted, and leads to the same state. -/
theorem acc_do {s : Md} (t : Int) (o : Ox) : acceptM s t o (doM s t o).1 = (true, (doM s t o).2) := by
  by_cases hr : refM s t o = 0
  · obtain ⟨t, x, rfl, hx, hc, hre, hd⟩ := refM_zero hr
    rw [hd]
    unfold acceptM
    rw [if_neg (fun h => h hr), Int.toNat_natCast, hx]
    simp only
    rcases perf_err s t x o with h0 | ⟨k1, hp⟩ | ⟨k12, hp⟩
    · rw [if_neg (by rw [h0, gives_zero]; simp)]
      by_cases k12 : o.k = 12
      · rw [if_pos k12]
        have e14 : ((perfM s t x o).1.err == 14) = false := by rw [h0]; rfl
        rw [if_neg (by rw [e14]; simp)]
        cases hq : nextL x.lo x.hi s.l with
        | none =>
          exfalso
          have : (perfM s t x o).1.err = 14 := by unfold perfM; simp [k12, hq]
          omega
        | some q =>
          have hp : perfM s t x o = (⟨0, true, q.1, q.2, 0⟩, { s with th := s.th.set t (x.after q.1) }) := by unfold perfM; simp [k12, hq]
          have hm := nextL_mem hq
          rw [hp]
          rw [if_pos ⟨rfl, rfl, rfl, hm.2.1, hm.2.2⟩]
      rw [if_neg k12]
      by_cases k15 : o.k = 15
      · rw [if_pos k15]
        have hp : perfM s t x o = (⟨0, false, 0, 0, 0⟩, s) := by unfold perfM; simp [k15]
        rw [hp]
        rfl
      rw [if_neg k15]
      simp
    · rw [hp]
      have : (aloneR (⟨10, false, 0, 0, 0⟩ : Rs) && givesM s o 10) = true := by simp [alone_iff, givesM, k1]
      rw [if_pos this]
    · rw [hp]
      have h1 : ¬ ((aloneR (⟨14, false, 0, 0, 0⟩ : Rs) && givesM s o 14) = true) := by simp [givesM]
      rw [if_neg h1, if_pos k12]
      have h2 : (aloneR (⟨14, false, 0, 0, 0⟩ : Rs) && ((14 : Int) == 14)) = true := by simp [alone_iff]
      rw [if_pos h2]
  · have e : doM s t o = (⟨refM s t o, false, 0, 0, 0⟩, s) := by unfold doM; rw [if_pos hr]
    rw [e]
    unfold acceptM
    rw [if_pos hr]
    simp [alone_iff]
/-- A result that is not accepted changes nothing. -/
theorem acc_false {s : Md} {t : Int} {o : Ox} {r : Rs} (h : (acceptM s t o r).1 = false) : (acceptM s t o r).2 = s := by
  unfold acceptM at h ⊢
  by_cases hr : refM s t o = 0
  · rw [if_neg (fun h => h hr)] at h ⊢
    cases hx : s.th[t.toNat]? with
    | none => rfl
    | some x =>
      rw [hx] at h
      simp only at h ⊢
      by_cases h1 : (aloneR r && givesM s o r.err) = true
      · rw [if_pos h1]
      rw [if_neg h1] at h ⊢
      by_cases k12 : o.k = 12
      · rw [if_pos k12] at h ⊢
        by_cases h2 : (aloneR r && (r.err == 14)) = true
        · rw [if_pos h2] at h; cases h
        rw [if_neg h2] at h ⊢
        by_cases h3 : r.err = 0 ∧ r.fd = true ∧ r.cnt = 0 ∧ x.lo ≤ r.key ∧ r.key ≤ x.hi
        · rw [if_pos h3] at h; cases h
        rw [if_neg h3]
      rw [if_neg k12] at h ⊢
      by_cases k15 : o.k = 15
      · rw [if_pos k15]
      rw [if_neg k15] at h ⊢
      by_cases h4 : (perfM s t.toNat x o).1 = r
      · rw [if_pos h4] at h; cases h
      rw [if_neg h4]
  · rw [if_pos hr]
/-- An accepted result leaves the pairs, or they are those after Do; an error leaves them. -/
theorem acc_pairs (s : Md) (t : Int) (o : Ox) (r : Rs) : (acceptM s t o r).2.l = s.l ∨ (r.err = 0 ∧ (acceptM s t o r).2.l = (doM s t o).2.l) := by
  by_cases hr : refM s t o = 0
  · obtain ⟨t, x, rfl, hx, hc, hre, hd⟩ := refM_zero hr
    rw [hd]
    unfold acceptM
    rw [if_neg (fun h => h hr), Int.toNat_natCast, hx]
    simp only
    by_cases h1 : (aloneR r && givesM s o r.err) = true
    · rw [if_pos h1]; exact .inl rfl
    rw [if_neg h1]
    by_cases k12 : o.k = 12
    · rw [if_pos k12]
      left
      split
      · rfl
      · split <;> rfl
    rw [if_neg k12]
    by_cases k15 : o.k = 15
    · rw [if_pos k15]; exact .inl rfl
    rw [if_neg k15]
    by_cases h4 : (perfM s t x o).1 = r
    · rw [if_pos h4]
      rcases perf_err s t x o with h0 | ⟨k1, hp⟩ | ⟨k, hp⟩
      · exact .inr ⟨by rw [← h4]; exact h0, rfl⟩
      · left; rw [hp]
      · exact absurd k k12
    rw [if_neg h4]; exact .inl rfl
  · unfold acceptM; rw [if_pos hr]; exact .inl rfl
/-- An error changes neither pairs nor sessions, and comes alone. -/
theorem do_err {s : Md} {t : Int} {o : Ox} (h : (doM s t o).1.err ≠ 0) : (doM s t o).2.l = s.l ∧ (∀ i : Int, (ofM (doM s t o).2 i).se = (ofM s i).se) ∧ (doM s t o).1 = ⟨(doM s t o).1.err, false, 0, 0, 0⟩ := by
  by_cases hr : refM s t o = 0
  · obtain ⟨t, x, rfl, hx, hc, hre, hd⟩ := refM_zero hr
    rw [hd] at h ⊢
    rcases perf_err s t x o with h0 | ⟨k1, hp⟩ | ⟨k, hp⟩
    · exact absurd h0 h
    · rw [hp]; exact ⟨rfl, fun _ => rfl, rfl⟩
    · rw [hp]
      refine ⟨rfl, fun i => ?_, rfl⟩
      unfold ofM
      simp only [List.length_set]
      by_cases h0 : i < 0 ∨ (s.th.length : Int) ≤ i
      · rw [if_pos h0, if_pos h0]
      · rw [if_neg h0, if_neg h0]
        by_cases hi : t = i.toNat
        · rw [← hi, set_at hx, hx]; rfl
        · rw [List.getElem?_set_ne hi]
  · have e : doM s t o = (⟨refM s t o, false, 0, 0, 0⟩, s) := by unfold doM; rw [if_pos hr]
    rw [e]; exact ⟨rfl, fun _ => rfl, rfl⟩
/-- Only the six operations that write change the pairs. -/
theorem do_still {s : Md} {t : Int} {o : Ox} (h : ¬ (4 ≤ o.k ∧ o.k ≤ 9)) : (doM s t o).2.l = s.l := by
  by_cases hr : refM s t o = 0
  · obtain ⟨t, x, rfl, hx, hc, hre, hd⟩ := refM_zero hr
    rw [hd]
    by_cases k1 : o.k = 1
    · unfold perfM; rw [if_pos k1]
      show (openM s t x).l = s.l
      unfold openM; split <;> rfl
    by_cases k12 : o.k = 12
    · cases hq : nextL x.lo x.hi s.l with
      | none => unfold perfM; simp [k12, hq]
      | some q => unfold perfM; simp [k12, hq]
    have hk := (chk_formed hc).1
    rcases (by omega : o.k = 2 ∨ o.k = 3 ∨ o.k = 10 ∨ o.k = 11 ∨ o.k = 13 ∨ o.k = 14 ∨ o.k = 15) with k | k | k | k | k | k | k <;> (unfold perfM; simp [k])
  · have e : doM s t o = (⟨refM s t o, false, 0, 0, 0⟩, s) := by unfold doM; rw [if_pos hr]
    rw [e]
abbrev rRetry : Rs := ⟨11, false, 0, 0, 0⟩
theorem refM_not11 (s : Md) (t : Int) (o : Ox) : refM s t o ≠ 11 := by
  unfold refM
  split
  · omega
  · split
    · unfold chkO
      repeat' split
      all_goals omega
    · split
      · unfold refE
        repeat' split
        all_goals omega
      · omega
/-- ErrRetry is accepted of an operation that uses the map and is not refused, and changes nothing. -/
theorem acc_retry (s : Md) (t : Int) (o : Ox) : acceptM s t o rRetry = ((decide (refM s t o = 0) && ((decide (3 ≤ o.k) && decide (o.k ≤ 10)) || decide (o.k = 12))), s) := by
  by_cases hr : refM s t o = 0
  · obtain ⟨t, x, rfl, hx, hc, hre, hd⟩ := refM_zero hr
    have hk := (chk_formed hc).1
    unfold acceptM
    rw [if_neg (fun h => h hr), Int.toNat_natCast, hx]
    simp only
    have ha : aloneR rRetry = true := by simp [alone_iff]
    have hg : givesM s o 11 = ((decide (3 ≤ o.k) && decide (o.k ≤ 10)) || decide (o.k = 12)) := by simp [givesM]
    rw [ha, hg, decide_eq_true hr]
    simp only [Bool.true_and]
    cases hu : ((decide (3 ≤ o.k) && decide (o.k ≤ 10)) || decide (o.k = 12)) with
    | true => rw [if_pos rfl]
    | false =>
      have h12 : o.k ≠ 12 := by intro h; simp [h] at hu
      rw [if_neg (by simp), if_neg h12]
      by_cases k15 : o.k = 15
      · rw [if_pos k15]; rfl
      rw [if_neg k15]
      have hne : ¬ (perfM s t x o).1 = rRetry := by
        intro h
        rcases perf_err s t x o with h0 | ⟨_, hp⟩ | ⟨_, hp⟩
        · rw [h] at h0; exact absurd h0 (by decide)
        · rw [hp] at h; simp at h
        · rw [hp] at h; simp at h
      rw [if_neg hne]
  · unfold acceptM
    rw [if_pos hr, decide_eq_false hr]
    have := refM_not11 s t o
    have e : ((11 : Int) == refM s t o) = false := by simp; omega
    simp [e]
end Go.Proofs.YtahagplegmcaaaaDoor
