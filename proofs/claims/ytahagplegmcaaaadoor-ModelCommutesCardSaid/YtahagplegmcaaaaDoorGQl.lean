import Derived.Test.YtahagplegmcaaaaDoorGQj
set_option linter.unusedVariables false
set_option linter.unusedSimpArgs false
set_option linter.unnecessarySimpa false
namespace Go.Proofs.YtahagplegmcaaaaDoor
open Go.RowKit Go.Xt
/-! The model, plain: what every operation keeps; a scan. -/
theorem set_all {P : Th → Prop} {l : List Th} (h : ∀ x ∈ l, P x) {k : Nat} {y : Th} (hy : P y) : ∀ x ∈ l.set k y, P x := fun x hx => by
  rcases List.mem_or_eq_of_mem_set hx with h1 | rfl
  · exact h x h1
  · exact hy
theorem Md.Ok.mono {s : Md} {N N' : Nat} (h : s.Ok N) (hn : N ≤ N') : s.Ok N' := ⟨Nat.le_trans h.len hn, h.asc, h.u64, h.thn, h.th⟩
theorem Md.Ok.setT {s : Md} {N : Nat} (h : s.Ok N) (t : Nat) {y : Th} (hy : y.Ok) : Md.Ok { s with th := s.th.set t y } N :=
  ⟨h.len, h.asc, h.u64, by show (s.th.set t y).length ≤ 1000; rw [List.length_set]; exact h.thn, set_all h.th hy⟩
theorem Md.Ok.setL {s : Md} {N N' : Nat} (h : s.Ok N) {l : List (Int × Int)} (h1 : _root_.Go.Proofs.YtahagplegmcaaaaDoor.asc l) (h2 : U64s l) (h3 : l.length ≤ N') : Md.Ok { s with l := l } N' :=
  ⟨h3, h1, h2, h.thn, h.th⟩
theorem Th.Ok.fin {x : Th} (h : x.Ok) : x.fin.Ok := ⟨fun h => (by cases h), h.2.1, fun h => (by cases h)⟩
theorem Th.Ok.from_ {x : Th} (h : x.Ok) (k : Int) (hk : 0 ≤ k) : (x.from_ k).Ok := by
  unfold Th.from_
  split
  · rename_i hc
    have h1 := h.1 hc.1
    exact ⟨fun _ => ⟨by show 0 ≤ max x.lo k; omega, by show max x.lo k ≤ x.hi; omega, h1.2.2⟩, h.2.1, h.2.2⟩
  · exact h.fin
theorem Th.Ok.after {x : Th} (h : x.Ok) (k : Int) (hk : 0 ≤ k) : (x.after k).Ok := by
  unfold Th.after
  split
  · exact h.fin
  · exact h.from_ _ (by omega)
theorem U64s.put {l : List (Int × Int)} (h : U64s l) {k x : Int} (hk : 0 ≤ k ∧ k < 18446744073709551616) (hx : 0 ≤ x ∧ x < 18446744073709551616) : U64s (putL k x l) := fun z hz => by
  rcases put_mem hz with h1 | rfl
  · exact h z h1
  · exact ⟨hk, hx⟩
theorem U64s.sub {l m : List (Int × Int)} (h : U64s l) (hs : m.Sublist l) : U64s m := fun z hz => h z (hs.subset hz)
theorem U64s.mv {b : Int} : ∀ (r : List (Int × Int)) {l : List (Int × Int)}, U64s l → (∀ p ∈ r, (0 ≤ p.1 + b ∧ p.1 + b < 18446744073709551616) ∧ 0 ≤ p.2 ∧ p.2 < 18446744073709551616) → U64s (mvL b r l)
  | [], l, h, _ => h
  | p :: r, l, h, hr => U64s.mv r (h.put (hr p (by simp)).1 (hr p (by simp)).2) (fun q hq => hr q (by simp [hq]))
theorem perfM_ok {s : Md} {N : Nat} (hok : s.Ok N) {t : Nat} {x : Th} (ht : s.th[t]? = some x) {o : Ox} (hw : o.Wf) (hc : chkO o = 0) (hr : refE x o = 0) : (perfM s t x o).2.Ok (N + 1) := by
  have hx := hok.th x (List.mem_of_getElem? ht)
  obtain ⟨hk, hab, hby⟩ := chk_formed hc
  have w1 := hw.key
  have w2 := hw.hi
  have w3 := hw.val
  have w5 := hw.by_
  have hl1 : s.l.length ≤ N + 1 := Nat.le_succ_of_le hok.len
  unfold perfM
  by_cases k1 : o.k = 1
  · rw [if_pos k1]
    show (openM s t x).Ok (N + 1)
    unfold openM
    split
    · exact hok.mono (Nat.le_succ N)
    · exact (hok.mono (Nat.le_succ N)).setT t ⟨hx.1, fun _ => rfl, hx.2.2⟩
  rw [if_neg k1]
  by_cases k2 : o.k = 2
  · rw [if_pos k2]
    have hop : x.op = false := by
      cases hop : x.op with
      | false => rfl
      | true =>
        exfalso
        unfold refE at hr
        rw [if_neg k1, if_neg (by rw [hx.2.1 hop]; simp), if_pos ⟨.inl k2, hop⟩] at hr
        cases hr
    refine (hok.mono (Nat.le_succ N)).setT t ⟨hx.1, fun h => ?_, hx.2.2⟩
    have h : x.op = true := h
    rw [hop] at h; cases h
  rw [if_neg k2]
  by_cases k3 : o.k = 3
  · rw [if_pos k3]; exact hok.mono (Nat.le_succ N)
  rw [if_neg k3]
  by_cases k4 : o.k = 4
  · rw [if_pos k4]
    exact hok.setL (put_asc _ _ hok.asc) (hok.u64.put w1 w3) (Nat.le_trans (put_le _ _ _) (Nat.succ_le_succ hok.len))
  rw [if_neg k4]
  by_cases k5 : o.k = 5
  · rw [if_pos k5]
    show Md.Ok { s with l := addL o.key o.val s.l } (N + 1)
    unfold addL
    split
    · exact hok.mono (Nat.le_succ N)
    · exact hok.setL (put_asc _ _ hok.asc) (hok.u64.put w1 w3) (Nat.le_trans (put_le _ _ _) (Nat.succ_le_succ hok.len))
  rw [if_neg k5]
  by_cases k6 : o.k = 6
  · rw [if_pos k6]
    exact hok.setL (asc_sub hok.asc (del_sub _ _)) (hok.u64.sub (del_sub _ _)) (Nat.le_trans (del_sub _ _).length_le hl1)
  rw [if_neg k6]
  by_cases k7 : o.k = 7
  · rw [if_pos k7]
    show Md.Ok { s with l := casL o.key o.old o.val s.l } (N + 1)
    unfold casL
    split
    · exact hok.setL (put_asc _ _ hok.asc) (hok.u64.put w1 w3) (Nat.le_trans (put_le _ _ _) (Nat.succ_le_succ hok.len))
    · exact hok.mono (Nat.le_succ N)
  rw [if_neg k7]
  by_cases k8 : o.k = 8
  · rw [if_pos k8]
    have hb := hby k8
    refine hok.setL (mvL_asc _ _ _ (asc_sub hok.asc (outR_sub _ _ _))) (U64s.mv _ (hok.u64.sub (outR_sub _ _ _)) fun q hq => ?_) ?_
    · have h1 := List.mem_filter.1 hq
      have h2 := hok.u64 q h1.1
      have h3 : o.key ≤ q.1 ∧ q.1 ≤ o.hi := by simpa using h1.2
      exact ⟨by omega, h2.2⟩
    · have h1 := mvL_len o.by_ (inR o.key o.hi s.l) (outR o.key o.hi s.l)
      have h2 := outR_inR o.key o.hi s.l
      exact Nat.le_trans h1 (by omega)
  rw [if_neg k8]
  by_cases k9 : o.k = 9
  · rw [if_pos k9]
    exact hok.setL (asc_sub hok.asc (outR_sub _ _ _)) (hok.u64.sub (outR_sub _ _ _)) (Nat.le_trans (outR_sub _ _ _).length_le hl1)
  rw [if_neg k9]
  by_cases k10 : o.k = 10
  · rw [if_pos k10]; exact hok.mono (Nat.le_succ N)
  rw [if_neg k10]
  by_cases k11 : o.k = 11
  · rw [if_pos k11]
    have hse : x.se = true := by
      cases hse : x.se with
      | true => rfl
      | false =>
        exfalso
        unfold refE at hr
        rw [if_neg k1, if_pos hse] at hr
        cases hr
    exact (hok.mono (Nat.le_succ N)).setT t ⟨fun _ => ⟨w1.1, hab (by unfold uH; simp [k11]), w2.2⟩, fun _ => hse, fun _ => rfl⟩
  rw [if_neg k11]
  by_cases k12 : o.k = 12
  · rw [if_pos k12]
    cases hq : nextL x.lo x.hi s.l with
    | none => exact (hok.mono (Nat.le_succ N)).setT t hx.fin
    | some q => exact (hok.mono (Nat.le_succ N)).setT t (hx.after _ (hok.u64 q (nextL_mem hq).1).1.1)
  rw [if_neg k12]
  by_cases k13 : o.k = 13
  · rw [if_pos k13]; exact (hok.mono (Nat.le_succ N)).setT t (hx.from_ _ w1.1)
  rw [if_neg k13]
  by_cases k14 : o.k = 14
  · rw [if_pos k14]
    exact (hok.mono (Nat.le_succ N)).setT t ⟨fun h => (by cases h), fun h => (by cases h), fun h => (by cases h)⟩
  rw [if_neg k14]
  exact hok.mono (Nat.le_succ N)
theorem refM_zero {s : Md} {t : Int} {o : Ox} (hr : refM s t o = 0) : ∃ (n : Nat) (x : Th), t = n ∧ s.th[n]? = some x ∧ chkO o = 0 ∧ refE x o = 0 ∧ doM s t o = perfM s n x o := by
  have h0 : ¬ (t < 0 ∨ (s.th.length : Int) ≤ t) := fun h0 => by unfold refM at hr; rw [if_pos h0] at hr; cases hr
  have hc : chkO o = 0 := by
    rcases Decidable.em (chkO o = 0) with h1 | h1
    · exact h1
    · unfold refM at hr; rw [if_neg h0, if_pos h1] at hr; exact hr
  obtain ⟨t, rfl⟩ : ∃ n : Nat, t = n := ⟨t.toNat, by omega⟩
  obtain ⟨x, hx⟩ : ∃ x, s.th[t]? = some x := ⟨_, List.getElem?_eq_getElem (by omega)⟩
  refine ⟨t, x, rfl, hx, hc, ?_, ?_⟩
  · unfold refM at hr; rw [if_neg h0, if_neg (by simpa using hc), Int.toNat_natCast, hx] at hr; exact hr
  · unfold doM; rw [if_neg (by simpa using hr), Int.toNat_natCast, hx]
theorem doM_ok {s : Md} {N : Nat} (hok : s.Ok N) (t : Int) {o : Ox} (hw : o.Wf) : (doM s t o).2.Ok (N + 1) := by
  by_cases hr : refM s t o = 0
  · obtain ⟨n, x, rfl, hx, hc, h2, e⟩ := refM_zero hr
    rw [e]; exact perfM_ok hok hx hw hc h2
  · unfold doM; rw [if_pos hr]; exact hok.mono (Nat.le_succ N)
theorem perfM_len (s : Md) (t : Nat) (x : Th) (o : Ox) : (perfM s t x o).2.th.length = s.th.length ∧ (perfM s t x o).2.slots = s.slots := by
  have hs : ∀ y : Th, (s.th.set t y).length = s.th.length := fun y => List.length_set ..
  unfold perfM
  by_cases k1 : o.k = 1
  · rw [if_pos k1]
    show (openM s t x).th.length = s.th.length ∧ (openM s t x).slots = s.slots
    unfold openM
    split
    · exact ⟨rfl, rfl⟩
    · exact ⟨hs _, rfl⟩
  rw [if_neg k1]
  by_cases k2 : o.k = 2
  · rw [if_pos k2]; first | exact ⟨rfl, rfl⟩ | exact ⟨hs _, rfl⟩
  rw [if_neg k2]
  by_cases k3 : o.k = 3
  · rw [if_pos k3]; first | exact ⟨rfl, rfl⟩ | exact ⟨hs _, rfl⟩
  rw [if_neg k3]
  by_cases k4 : o.k = 4
  · rw [if_pos k4]; first | exact ⟨rfl, rfl⟩ | exact ⟨hs _, rfl⟩
  rw [if_neg k4]
  by_cases k5 : o.k = 5
  · rw [if_pos k5]; first | exact ⟨rfl, rfl⟩ | exact ⟨hs _, rfl⟩
  rw [if_neg k5]
  by_cases k6 : o.k = 6
  · rw [if_pos k6]; first | exact ⟨rfl, rfl⟩ | exact ⟨hs _, rfl⟩
  rw [if_neg k6]
  by_cases k7 : o.k = 7
  · rw [if_pos k7]; first | exact ⟨rfl, rfl⟩ | exact ⟨hs _, rfl⟩
  rw [if_neg k7]
  by_cases k8 : o.k = 8
  · rw [if_pos k8]; first | exact ⟨rfl, rfl⟩ | exact ⟨hs _, rfl⟩
  rw [if_neg k8]
  by_cases k9 : o.k = 9
  · rw [if_pos k9]; first | exact ⟨rfl, rfl⟩ | exact ⟨hs _, rfl⟩
  rw [if_neg k9]
  by_cases k10 : o.k = 10
  · rw [if_pos k10]; first | exact ⟨rfl, rfl⟩ | exact ⟨hs _, rfl⟩
  rw [if_neg k10]
  by_cases k11 : o.k = 11
  · rw [if_pos k11]; first | exact ⟨rfl, rfl⟩ | exact ⟨hs _, rfl⟩
  rw [if_neg k11]
  by_cases k12 : o.k = 12
  · rw [if_pos k12]
    cases nextL x.lo x.hi s.l with
    | none => exact ⟨hs _, rfl⟩
    | some q => exact ⟨hs _, rfl⟩
  rw [if_neg k12]
  by_cases k13 : o.k = 13
  · rw [if_pos k13]; first | exact ⟨rfl, rfl⟩ | exact ⟨hs _, rfl⟩
  rw [if_neg k13]
  by_cases k14 : o.k = 14
  · rw [if_pos k14]; first | exact ⟨rfl, rfl⟩ | exact ⟨hs _, rfl⟩
  rw [if_neg k14]
  exact ⟨rfl, rfl⟩
theorem doM_len (s : Md) (t : Int) (o : Ox) : (doM s t o).2.th.length = s.th.length ∧ (doM s t o).2.slots = s.slots := by
  by_cases hr : refM s t o = 0
  · obtain ⟨n, x, rfl, hx, hc, h2, e⟩ := refM_zero hr
    rw [e]; exact perfM_len _ _ _ _
  · unfold doM; rw [if_pos hr]; exact ⟨rfl, rfl⟩
theorem doM_at {s : Md} {t : Nat} {x : Th} (hx : s.th[t]? = some x) {o : Ox} (hc : chkO o = 0) : doM s t o = if refE x o ≠ 0 then (⟨refE x o, false, 0, 0, 0⟩, s) else perfM s t x o := by
  obtain ⟨p, _⟩ := List.getElem?_eq_some_iff.1 hx
  have e1 : refM s t o = refE x o := by
    unfold refM; rw [if_neg (by omega), if_neg (by simpa using hc), Int.toNat_natCast, hx]
  unfold doM
  rw [e1, Int.toNat_natCast, hx]
end Go.Proofs.YtahagplegmcaaaaDoor
namespace Go.Proofs.YtahagplegmcaaaaDoor
open Go.RowKit Go.Xt
/-! A scan, plain. -/
abbrev oEnd : Ox := ⟨14, 0, 0, 0, 0, 0, 0⟩
abbrev oOpen : Ox := ⟨1, 0, 0, 0, 0, 0, 0⟩
abbrev oNext : Ox := ⟨12, 0, 0, 0, 0, 0, 0⟩
abbrev oScan (lo hi : Int) : Ox := ⟨11, lo, hi, 0, 0, 0, 0⟩
abbrev oSeek (k : Int) : Ox := ⟨13, k, 0, 0, 0, 0, 0⟩
abbrev r0 : Rs := ⟨0, false, 0, 0, 0⟩
abbrev rEnd : Rs := ⟨14, false, 0, 0, 0⟩
theorem chk_end : chkO oEnd = 0 := by decide
theorem chk_open : chkO oOpen = 0 := by decide
theorem chk_next : chkO oNext = 0 := by decide
theorem chk_scan {lo hi : Int} (h : lo ≤ hi) : chkO (oScan lo hi) = 0 := by
  have h2 : ¬ hi < lo := by omega
  simp [chkO, Ox.formed, uK, uH, uV, uO, uB, uD, h2]
theorem chk_seek (k : Int) : chkO (oSeek k) = 0 := by
  simp [chkO, Ox.formed, uK, uH, uV, uO, uB, uD]
/-- No iterator is open. -/
def Shut (s : Md) : Prop := ∃ x, s.th[0]? = some x ∧ x.op = false
theorem shut_end {s : Md} {N : Nat} (hok : s.Ok N) (hn : 0 < s.th.length) : Shut (doM s 0 oEnd).2 := by
  obtain ⟨x, hx⟩ : ∃ x, s.th[0]? = some x := ⟨_, List.getElem?_eq_getElem hn⟩
  have ho := hok.th x (List.mem_of_getElem? hx)
  have e := doM_at (t := 0) hx chk_end
  have e : doM s 0 oEnd = _ := e
  rw [e]
  split
  · rename_i hr
    refine ⟨x, hx, ?_⟩
    cases hop : x.op with
    | false => rfl
    | true =>
      exfalso
      refine hr ?_
      have hse := ho.2.1 hop
      simp [refE, hse, hop]
  · refine ⟨⟨false, false, 0, 0, x.se⟩, ?_, rfl⟩
    simp only [perfM]
    exact set_at hx _
theorem shut_open {s : Md} (h : Shut s) : Shut (doM s 0 oOpen).2 := by
  obtain ⟨x, hx, hop⟩ := h
  have e : doM s 0 oOpen = _ := doM_at (t := 0) hx chk_open
  rw [e]
  split
  · exact ⟨x, hx, hop⟩
  · show Shut (openM s 0 x)
    unfold openM
    split
    · exact ⟨x, hx, hop⟩
    · exact ⟨_, set_at hx _, hop⟩
/-- An iterator from a key on, or at its end. -/
def itAt (L hi : Int) : Th := if L ≤ hi then ⟨true, true, L, hi, true⟩ else ⟨true, false, 0, 0, true⟩
theorem scan_do {s : Md} (h : Shut s) (hse : (ofM s 0).se = true) {lo hi : Int} (hlh : lo ≤ hi) : (doM s 0 (oScan lo hi)).1 = r0 ∧ (doM s 0 (oScan lo hi)).2.l = s.l ∧ (doM s 0 (oScan lo hi)).2.th[0]? = some (itAt lo hi) := by
  obtain ⟨x, hx, hop⟩ := h
  have e : doM s 0 (oScan lo hi) = _ := doM_at (t := 0) hx (chk_scan hlh)
  have e2 : ofM s ((0 : Nat) : Int) = x := ofM_in hx
  have hse : x.se = true := by rw [← e2]; exact hse
  have e3 : perfM s 0 x (oScan lo hi) = (r0, { s with th := s.th.set 0 ⟨true, true, lo, hi, x.se⟩ }) := by simp [perfM]
  rw [e, if_neg (by simp [refE, hse, hop]), e3]
  refine ⟨rfl, rfl, ?_⟩
  have := set_at hx (⟨true, true, lo, hi, x.se⟩ : Th)
  unfold itAt
  rw [if_pos hlh]
  rw [hse] at this ⊢
  exact this
theorem seek_do {s : Md} {lo hi k : Int} (hlh : lo ≤ hi) (hs : s.th[0]? = some (itAt lo hi)) (hk : lo ≤ k) : (doM s 0 (oSeek k)).1 = r0 ∧ (doM s 0 (oSeek k)).2.l = s.l ∧ (doM s 0 (oSeek k)).2.th[0]? = some (itAt k hi) := by
  have hx : s.th[0]? = some ⟨true, true, lo, hi, true⟩ := by rw [hs]; unfold itAt; rw [if_pos hlh]
  have e : doM s 0 (oSeek k) = _ := doM_at (t := 0) hx (chk_seek k)
  have hk2 : ¬ k < lo := by omega
  have e2 : perfM s 0 ⟨true, true, lo, hi, true⟩ (oSeek k) = (r0, { s with th := s.th.set 0 (Th.from_ ⟨true, true, lo, hi, true⟩ k) }) := by simp [perfM]
  rw [e, if_neg (by simp [refE, hk2]), e2]
  refine ⟨rfl, rfl, ?_⟩
  have := set_at hx (Th.from_ ⟨true, true, lo, hi, true⟩ k)
  have e3 : Th.from_ ⟨true, true, lo, hi, true⟩ k = itAt k hi := by
    unfold Th.from_ itAt
    by_cases h : k ≤ hi
    · rw [if_pos ⟨rfl, h⟩, if_pos h]
      have : max lo k = k := by omega
      simp [this]
    · rw [if_neg (fun c => h c.2), if_neg h]; rfl
  show (s.th.set 0 (Th.from_ ⟨true, true, lo, hi, true⟩ k))[0]? = _
  rw [e3] at this ⊢
  exact this
/-- What was returned so far, and what is still to come. -/
structure Sc (l : List (Int × Int)) (L0 hi : Int) (i : Nat) (L : Int) : Prop where
  ge : L0 ≤ L
  done : ∀ (j : Nat) (p : Int × Int), l[j]? = some p → j < i → ¬ (L ≤ p.1 ∧ p.1 ≤ hi)
  todo : ∀ (j : Nat) (p : Int × Int), l[j]? = some p → i ≤ j → L0 ≤ p.1 → p.1 ≤ hi → L ≤ p.1
theorem Sc.start (l : List (Int × Int)) (L0 hi : Int) : Sc l L0 hi 0 L0 := ⟨Int.le_refl _, fun j p _ h => by omega, fun j p _ _ h _ => h⟩
theorem Sc.skip {l : List (Int × Int)} {L0 hi L : Int} {i : Nat} (h : Sc l L0 hi i L) {p : Int × Int} (hp : l[i]? = some p) (hn : ¬ (L0 ≤ p.1 ∧ p.1 ≤ hi)) : Sc l L0 hi (i + 1) L :=
  ⟨h.ge, fun j q hq hj hc => by
    rcases (by omega : j < i ∨ j = i) with h1 | rfl
    · exact h.done j q hq h1 hc
    · rw [hp] at hq; cases hq
      exact hn ⟨by have := h.ge; omega, hc.2⟩, fun j q hq hj h1 h2 => h.todo j q hq (by omega) h1 h2⟩
theorem asc_lt {l : List (Int × Int)} (ha : asc l) {i j : Nat} {p q : Int × Int} (hp : l[i]? = some p) (hq : l[j]? = some q) (hij : i < j) : p.1 < q.1 := by
  obtain ⟨h1, rfl⟩ := List.getElem?_eq_some_iff.1 hp
  obtain ⟨h2, rfl⟩ := List.getElem?_eq_some_iff.1 hq
  exact List.pairwise_iff_getElem.1 ha i j h1 h2 hij
theorem Sc.take {l : List (Int × Int)} {L0 hi L : Int} {i : Nat} (ha : asc l) (h : Sc l L0 hi i L) {p : Int × Int} (hp : l[i]? = some p) (h0 : L0 ≤ p.1) : Sc l L0 hi (i + 1) (p.1 + 1) :=
  ⟨by omega, fun j q hq hj hc => by
    rcases (by omega : j < i ∨ j = i) with h1 | rfl
    · have := asc_lt ha hq hp h1; omega
    · rw [hp] at hq; cases hq; omega, fun j q hq hj h1 h2 => by have := asc_lt ha hp hq (by omega); omega⟩
theorem nextL_first {L hi : Int} : ∀ (l : List (Int × Int)) (i : Nat) (p : Int × Int), (∀ j q, l[j]? = some q → j < i → ¬ (L ≤ q.1 ∧ q.1 ≤ hi)) → l[i]? = some p → L ≤ p.1 → p.1 ≤ hi → nextL L hi l = some p
  | [], i, p, _, h, _, _ => by simp at h
  | y :: l, 0, p, _, h, h1, h2 => by
    simp at h; subst h
    unfold nextL inR
    rw [List.filter_cons_of_pos (by simp; omega)]; rfl
  | y :: l, i + 1, p, hd, h, h1, h2 => by
    have hy := hd 0 y rfl (by omega)
    unfold nextL inR
    rw [List.filter_cons_of_neg (by simp; omega)]
    exact nextL_first l i p (fun j q hq hj => hd (j + 1) q (by simpa using hq) (by omega)) (by simpa using h) h1 h2
theorem next_do {s : Md} {L0 hi L : Int} {i : Nat} (hs : s.th[0]? = some (itAt L hi)) (hh : hi < 18446744073709551616) (h : Sc s.l L0 hi i L) {p : Int × Int} (hp : s.l[i]? = some p) (h0 : L0 ≤ p.1) (h1 : p.1 ≤ hi) : (doM s 0 oNext).1 = ⟨0, true, p.1, p.2, 0⟩ ∧ (doM s 0 oNext).2.l = s.l ∧ (doM s 0 oNext).2.th[0]? = some (itAt (p.1 + 1) hi) := by
  have hLp := h.todo i p hp (Nat.le_refl _) h0 h1
  have hx : s.th[0]? = some ⟨true, true, L, hi, true⟩ := by rw [hs]; unfold itAt; rw [if_pos (by omega)]
  have e : doM s 0 oNext = _ := doM_at (t := 0) hx chk_next
  have hn := nextL_first s.l i p h.done hp hLp h1
  rw [e, if_neg (by simp [refE])]
  have e2 : perfM s 0 ⟨true, true, L, hi, true⟩ oNext = (⟨0, true, p.1, p.2, 0⟩, { s with th := s.th.set 0 (Th.after ⟨true, true, L, hi, true⟩ p.1) }) := by simp [perfM, hn]
  rw [e2]
  refine ⟨rfl, rfl, ?_⟩
  have e3 : Th.after ⟨true, true, L, hi, true⟩ p.1 = itAt (p.1 + 1) hi := by
    unfold Th.after itAt
    by_cases hq : p.1 = 18446744073709551615
    · rw [if_pos hq, if_neg (by omega)]; rfl
    · rw [if_neg hq]
      unfold Th.from_
      by_cases h3 : p.1 + 1 ≤ hi
      · rw [if_pos ⟨rfl, h3⟩, if_pos h3]
        have : max L (p.1 + 1) = p.1 + 1 := by omega
        simp [this]
      · rw [if_neg (fun c => h3 c.2), if_neg h3]; rfl
  rw [← e3]
  exact set_at hx _
theorem nextL_none {L hi : Int} {l : List (Int × Int)} (h : ∀ p ∈ l, ¬ (L ≤ p.1 ∧ p.1 ≤ hi)) : nextL L hi l = none := by
  unfold nextL
  have : inR L hi l = [] := List.filter_eq_nil_iff.2 fun p hp => by have := h p hp; simp; omega
  rw [this]; rfl
/-- The iterator's end. -/
abbrev itF : Th := ⟨true, false, 0, 0, true⟩
theorem end_do {s : Md} {hi L : Int} (hs : s.th[0]? = some (itAt L hi)) (h : ∀ p ∈ s.l, ¬ (L ≤ p.1 ∧ p.1 ≤ hi)) : (doM s 0 oNext).1 = rEnd ∧ (doM s 0 oNext).2.l = s.l ∧ (doM s 0 oNext).2.th[0]? = some itF := by
  by_cases hL : L ≤ hi
  · have hx : s.th[0]? = some ⟨true, true, L, hi, true⟩ := by rw [hs]; unfold itAt; rw [if_pos hL]
    have e : doM s 0 oNext = _ := doM_at (t := 0) hx chk_next
    have hn := nextL_none h
    rw [e, if_neg (by simp [refE])]
    have e2 : perfM s 0 ⟨true, true, L, hi, true⟩ oNext = (rEnd, { s with th := s.th.set 0 (Th.fin ⟨true, true, L, hi, true⟩) }) := by simp [perfM, hn]
    rw [e2]
    exact ⟨rfl, rfl, set_at hx _⟩
  · have hx : s.th[0]? = some itF := by rw [hs]; unfold itAt; rw [if_neg hL]
    have e : doM s 0 oNext = _ := doM_at (t := 0) hx chk_next
    rw [e, if_pos (by simp [refE])]
    exact ⟨by simp [refE], rfl, hx⟩
theorem itF_at (hi : Int) : itF = itAt (hi + 1) hi := by unfold itAt; rw [if_neg (by omega)]
theorem close_do {s : Md} (hs : s.th[0]? = some itF) : (doM s 0 oEnd).1 = r0 := by
  have e : doM s 0 oEnd = _ := doM_at (t := 0) hs chk_end
  rw [e, if_neg (by simp [refE])]
  rfl
end Go.Proofs.YtahagplegmcaaaaDoor
namespace Go.Proofs.YtahagplegmcaaaaDoor
open Go.RowKit Go.Xt
/-! A model of the law's own: known. -/
/-- A model that lies in new memory. -/
def LS (w : World) (gm : Nat) (s : Md) (N : Nat) (W : World) : Prop := ∃ p : Pl, p.gm = gm ∧ MAt W p s ∧ s.Ok N ∧ (∀ g ∈ p.foot, w.heap.size ≤ g) ∧ Nw w W
theorem nw_chg2 {w W W' : World} {X : List Nat} (h : Nw w W) (hc : Chg X W W') (hx : ∀ k ∈ X, w.heap.size ≤ k) : Nw w W' :=
  .of ⟨hc.os.trans h.grown.os, hc.tape.trans h.grown.tape, hc.output.trans h.grown.output, Nat.le_trans h.grown.size hc.size, fun k hk _ => (hc.block k (Nat.lt_of_lt_of_le hk h.grown.size) (fun e => by have := hx k e; omega)).trans (h.grown.block k hk (by simp))⟩
theorem LS.nw {w W : World} {gm : Nat} {s : Md} {N : Nat} (h : LS w gm s N W) : Nw w W := by
  obtain ⟨p, _, _, _, _, h⟩ := h; exact h
theorem LS.ok {w W : World} {gm : Nat} {s : Md} {N : Nat} (h : LS w gm s N W) : s.Ok N := by
  obtain ⟨p, _, _, h, _, _⟩ := h; exact h
theorem LS.im {w W : World} {gm : Nat} {s : Md} {N : Nat} (h : LS w gm s N W) : gm < W.heap.size := by
  obtain ⟨p, rfl, h, _, _, _⟩ := h; exact h.im
theorem LS.grow {w W W' : World} {gm : Nat} {s : Md} {N : Nat} (h : LS w gm s N W) (hn : Nw W W') : LS w gm s N W' := by
  obtain ⟨p, rfl, h1, h2, h3, h4⟩ := h; exact ⟨p, rfl, h1.nw hn, h2, h3, h4.trans hn⟩
theorem LS.up {w W W' : World} {gm : Nat} {s' : Md} {N' : Nat} {p p' : Pl} (hp : p.gm = gm) (h3 : ∀ g ∈ p.foot, w.heap.size ≤ g) (h4 : Nw w W) (hu : MUp W p s' p' W') (hok : s'.Ok N') : LS w gm s' N' W' :=
  ⟨p', hu.gm.trans hp, hu.at', hok, fun g hg => by
    rcases hu.mv g hg with h | h
    · exact h3 g h
    · exact Nat.le_trans h4.grown.size h, nw_chg2 h4 hu.chg h3⟩
/-- Do. -/
theorem do_LS {w W : World} {gm : Nat} {s : Md} {N : Nat} (h : LS w gm s N W) (hN : N ≤ 500000) (t : Int) (o : Ox) (hw : o.Wf) :
    Calls Tryd.prog 9 #[.pointer (some ⟨gm, 0, none⟩), .int .i64 t, opV o] W fun e W' => e = .returned (resV (doM s t o).1) ∧ LS w gm (doM s t o).2 (N + 1) W' := by
  obtain ⟨p, rfl, h1, h2, h3, h4⟩ := h
  refine (do_any W p s h1 h2 hN t o hw).mono ?_
  rintro e W' ⟨rfl, p', hu⟩
  exact ⟨rfl, LS.up rfl h3 h4 hu (doM_ok h2 t hw)⟩
theorem new_LS (n : Nat) (sl : Int) (w W : World) (hw : Nw w W) (hn : 1 ≤ n ∧ n ≤ 8) (hs : 1 ≤ sl ∧ sl ≤ 64) :
    Calls Tryd.prog 13 #[cfgV n sl] W fun e W' => ∃ gm, e = .returned (.tuple #[.pointer (some ⟨gm, 0, none⟩), .int .i64 0]) ∧ LS w gm ⟨sl, [], List.replicate n Th0⟩ 0 W' := by
  refine (new_M n sl W hn hs).mono ?_
  rintro e W' ⟨⟨p, rfl, h1, h2⟩, hn2⟩
  exact ⟨p.gm, rfl, p, rfl, h1, ⟨Nat.le_refl _, List.Pairwise.nil, fun _ h => (by cases h), (by simp; omega), fun x hx => (by rw [List.eq_of_mem_replicate hx]; exact ⟨fun h => (by cases h), fun h => (by cases h), fun h => (by cases h)⟩)⟩, fun g hg => Nat.le_trans hw.grown.size (h2 g hg), hw.trans hn2⟩
theorem wf_small {k a b c d e f : Int} (h0 : 0 ≤ k ∧ k < 256) (h1 : 0 ≤ a ∧ a < 18446744073709551616) (h2 : 0 ≤ b ∧ b < 18446744073709551616) (h3 : 0 ≤ c ∧ c < 18446744073709551616) (h4 : 0 ≤ d ∧ d < 18446744073709551616) (h5 : 0 ≤ e ∧ e < 18446744073709551616) (h6 : 0 ≤ f ∧ f < 18446744073709551616) : Ox.Wf ⟨k, a, b, c, d, e, f⟩ := ⟨h0, h1, h2, h3, h4, h5, h6⟩
abbrev kn0 : Md := ⟨1, [], [Th0]⟩
abbrev oPut4 : Ox := ⟨4, 4, 0, 2, 0, 0, 0⟩
abbrev oDel4 : Ox := ⟨6, 4, 0, 0, 0, 0, 0⟩
abbrev oLen : Ox := ⟨10, 0, 0, 0, 0, 0, 0⟩
theorem kn_1 : doM kn0 0 oOpen = (r0, ⟨1, [], [⟨false, false, 0, 0, true⟩]⟩) := by rfl
theorem kn_2 : doM ⟨1, [], [⟨false, false, 0, 0, true⟩]⟩ 0 oPut4 = (r0, ⟨1, [(4, 2)], [⟨false, false, 0, 0, true⟩]⟩) := by rfl
theorem kn_3 : doM ⟨1, [(4, 2)], [⟨false, false, 0, 0, true⟩]⟩ 0 oDel4 = (⟨0, true, 0, 2, 0⟩, ⟨1, [], [⟨false, false, 0, 0, true⟩]⟩) := by rfl
theorem kn_4 : doM ⟨1, [], [⟨false, false, 0, 0, true⟩]⟩ 0 oLen = (r0, ⟨1, [], [⟨false, false, 0, 0, true⟩]⟩) := by rfl
set_option maxRecDepth 20000 in
set_option maxHeartbeats 8000000 in
theorem known_M (w : World) : Calls Tryd.prog 6 #[] w fun e w' => e = .returned (.bool true) ∧ Nw w w' := by
  have HD := Lib.hid (fun (W : World) gm s N (h : LS w gm s N W) (hN : N ≤ 500000) (o : Ox) (hw : o.Wf) => do_LS h hN 0 o hw)
  unfold opV resV at HD
  go_enter Tryd.func6, Tryd.ntmps6
  go_wp2_with fail
  refine (fixed_any 1 1 _).mono ?_
  rintro e w' ⟨rfl, dF, rfl⟩
  go_wp2_with fail
  refine (new_LS 1 1 w _ ((by repeat (first | exact Xt.Nw.refl _ | refine Xt.Nw.drew ?_ | refine Xt.Nw.drewN ?_ _ | refine Xt.Nw.alloc ?_ _ | refine Xt.Nw.joined ?_ | refine Xt.Nw.drewd ?_ | refine Xt.Nw.drewdN ?_ | refine Xt.Nw.ext ?_ | refine Xt.Nw.ext_some ?_ (by assumption) | refine Xt.Nw.setCell ?_ (by simp [go_sem] <;> omega) _))) (by omega) (by omega)).mono ?_
  rintro e W3 ⟨gm, rfl, h3⟩
  have H3 := Lib.hid h3
  clear h3
  go_wp2_with fail
  have c4 := HD.out W3 gm kn0 0 H3.out (by omega) oOpen (by constructor <;> simp)
  rw [kn_1] at c4
  refine c4.mono ?_
  rintro e W4 ⟨rfl, h4⟩
  have H4 := Lib.hid h4
  clear h4 c4
  go_wp2_with fail
  have c5 := HD.out W4 gm _ _ H4.out (by omega) oPut4 (by constructor <;> simp)
  rw [kn_2] at c5
  refine c5.mono ?_
  rintro e W5 ⟨rfl, h5⟩
  have H5 := Lib.hid h5
  clear h5 c5
  go_wp2_with fail
  have c6 := HD.out W5 gm _ _ H5.out (by omega) oDel4 (by constructor <;> simp)
  rw [kn_3] at c6
  refine c6.mono ?_
  rintro e W6 ⟨rfl, h6⟩
  have H6 := Lib.hid h6
  clear h6 c6
  go_wp2_with fail
  have c7 := HD.out W6 gm _ _ H6.out (by omega) oLen (by constructor <;> simp)
  rw [kn_4] at c7
  refine c7.mono ?_
  rintro e W7 ⟨rfl, h7⟩
  have H7 := Lib.hid h7
  clear h7 c7
  go_wp2
  go_ret
  exact ⟨rfl, H7.out.nw⟩
end Go.Proofs.YtahagplegmcaaaaDoor
