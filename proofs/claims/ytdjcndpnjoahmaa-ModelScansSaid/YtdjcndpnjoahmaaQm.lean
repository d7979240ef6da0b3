import Derived.Test.YtdjcndpnjoahmaaQl
namespace Go.Proofs.Ytdjcndpnjoahmaa
open Go.RowKit Go.Xt
/-! A scan, plain. -/
abbrev oEnd : Ox := ⟨14, 0, 0, 0, 0, 0, 0⟩
abbrev oOpen : Ox := ⟨1, 0, 0, 0, 0, 0, 0⟩
abbrev oNext : Ox := ⟨12, 0, 0, 0, 0, 0, 0⟩
abbrev oScan (lo hi : Int) : Ox := ⟨11, lo, hi, 0, 0, 0, 0⟩
abbrev oSeek (k : Int) : Ox := ⟨13, k, 0, 0, 0, 0, 0⟩
abbrev r0 : Rs := ⟨0, false, 0, 0, 0⟩
abbrev rEnd : Rs := ⟨14, false, 0, 0, 0⟩
theorem chk_end : chkO oEnd = 0 := by decide
theorem chk_open : chkO oOpen = 0 := by decide
theorem chk_next : chkO oNext = 0 := by decide
theorem chk_scan {lo hi : Int} (h : lo ≤ hi) : chkO (oScan lo hi) = 0 := by
  have h2 : ¬ hi < lo := by omega
  simp [chkO, Ox.formed, uK, uH, uV, uO, uB, uD, h2]
theorem chk_seek (k : Int) : chkO (oSeek k) = 0 := by
  simp [chkO, Ox.formed, uK, uH, uV, uO, uB, uD]
/-- No iterator is open. -/
def Shut (s : Md) : Prop := ∃ x, s.th[0]? = some x ∧ x.op = false
theorem shut_end {s : Md} {N : Nat} (hok : s.Ok N) (hn : 0 < s.th.length) : Shut (doM s 0 oEnd).2 := by
  obtain ⟨x, hx⟩ : ∃ x, s.th[0]? = some x := ⟨_, List.getElem?_eq_getElem hn⟩
  have ho := hok.th x (List.mem_of_getElem? hx)
  have e := doM_at (t := 0) hx chk_end
  have e : doM s 0 oEnd = _ := e
  rw [e]
  split
  · rename_i hr
    refine ⟨x, hx, ?_⟩
    cases hop : x.op with
    | false => rfl
    | true =>
      exfalso
      refine hr ?_
      have hse := ho.2.1 hop
      simp [refE, hse, hop]
  · refine ⟨⟨false, false, 0, 0, x.se⟩, ?_, rfl⟩
    simp only [perfM]
    exact set_at hx _
theorem shut_open {s : Md} (h : Shut s) : Shut (doM s 0 oOpen).2 := by
  obtain ⟨x, hx, hop⟩ := h
  have e : doM s 0 oOpen = _ := doM_at (t := 0) hx chk_open
  rw [e]
  split
  · exact ⟨x, hx, hop⟩
  · show Shut (openM s 0 x)
    unfold openM
    split
    · exact ⟨x, hx, hop⟩
    · exact ⟨_, set_at hx _, hop⟩
/-- An iterator from a key on, or at its end. -/
def itAt (L hi : Int) : Th := if L ≤ hi then ⟨true, true, L, hi, true⟩ else ⟨true, false, 0, 0, true⟩
theorem scan_do {s : Md} (h : Shut s) (hse : (ofM s 0).se = true) {lo hi : Int} (hlh : lo ≤ hi) : (doM s 0 (oScan lo hi)).1 = r0 ∧ (doM s 0 (oScan lo hi)).2.l = s.l ∧ (doM s 0 (oScan lo hi)).2.th[0]? = some (itAt lo hi) := by
  obtain ⟨x, hx, hop⟩ := h
  have e : doM s 0 (oScan lo hi) = _ := doM_at (t := 0) hx (chk_scan hlh)
  have e2 : ofM s ((0 : Nat) : Int) = x := ofM_in hx
  have hse : x.se = true := by rw [← e2]; exact hse
  have e3 : perfM s 0 x (oScan lo hi) = (r0, { s with th := s.th.set 0 ⟨true, true, lo, hi, x.se⟩ }) := by simp [perfM]
  rw [e, if_neg (by simp [refE, hse, hop]), e3]
  refine ⟨rfl, rfl, ?_⟩
  have := set_at hx (⟨true, true, lo, hi, x.se⟩ : Th)
  unfold itAt
  rw [if_pos hlh]
  rw [hse] at this ⊢
  exact this
theorem seek_do {s : Md} {lo hi k : Int} (hlh : lo ≤ hi) (hs : s.th[0]? = some (itAt lo hi)) (hk : lo ≤ k) : (doM s 0 (oSeek k)).1 = r0 ∧ (doM s 0 (oSeek k)).2.l = s.l ∧ (doM s 0 (oSeek k)).2.th[0]? = some (itAt k hi) := by
  have hx : s.th[0]? = some ⟨true, true, lo, hi, true⟩ := by rw [hs]; unfold itAt; rw [if_pos hlh]
  have e : doM s 0 (oSeek k) = _ := doM_at (t := 0) hx (chk_seek k)
  have hk2 : ¬ k < lo := by omega
  have e2 : perfM s 0 ⟨true, true, lo, hi, true⟩ (oSeek k) = (r0, { s with th := s.th.set 0 (Th.from_ ⟨true, true, lo, hi, true⟩ k) }) := by simp [perfM]
  rw [e, if_neg (by simp [refE, hk2]), e2]
  refine ⟨rfl, rfl, ?_⟩
  have := set_at hx (Th.from_ ⟨true, true, lo, hi, true⟩ k)
  have e3 : Th.from_ ⟨true, true, lo, hi, true⟩ k = itAt k hi := by
    unfold Th.from_ itAt
    by_cases h : k ≤ hi
    · rw [if_pos ⟨rfl, h⟩, if_pos h]
      have : max lo k = k := by omega
      simp [this]
    · rw [if_neg (fun c => h c.2), if_neg h]; rfl
  show (s.th.set 0 (Th.from_ ⟨true, true, lo, hi, true⟩ k))[0]? = _
  rw [e3] at this ⊢
  exact this
/-- What was returned so far, and what is still to come. -/
structure Sc (l : List (Int × Int)) (L0 hi : Int) (i : Nat) (L : Int) : Prop where
  ge : L0 ≤ L
  done : ∀ (j : Nat) (p : Int × Int), l[j]? = some p → j < i → ¬ (L ≤ p.1 ∧ p.1 ≤ hi)
  todo : ∀ (j : Nat) (p : Int × Int), l[j]? = some p → i ≤ j → L0 ≤ p.1 → p.1 ≤ hi → L ≤ p.1
theorem Sc.start (l : List (Int × Int)) (L0 hi : Int) : Sc l L0 hi 0 L0 := ⟨Int.le_refl _, fun j p _ h => by omega, fun j p _ _ h _ => h⟩
theorem Sc.skip {l : List (Int × Int)} {L0 hi L : Int} {i : Nat} (h : Sc l L0 hi i L) {p : Int × Int} (hp : l[i]? = some p) (hn : ¬ (L0 ≤ p.1 ∧ p.1 ≤ hi)) : Sc l L0 hi (i + 1) L :=
  ⟨h.ge, fun j q hq hj hc => by
    rcases (by omega : j < i ∨ j = i) with h1 | rfl
    · exact h.done j q hq h1 hc
    · rw [hp] at hq; cases hq
      exact hn ⟨by have := h.ge; omega, hc.2⟩, fun j q hq hj h1 h2 => h.todo j q hq (by omega) h1 h2⟩
theorem asc_lt {l : List (Int × Int)} (ha : asc l) {i j : Nat} {p q : Int × Int} (hp : l[i]? = some p) (hq : l[j]? = some q) (hij : i < j) : p.1 < q.1 := by
  obtain ⟨h1, rfl⟩ := List.getElem?_eq_some_iff.1 hp
  obtain ⟨h2, rfl⟩ := List.getElem?_eq_some_iff.1 hq
  exact List.pairwise_iff_getElem.1 ha i j h1 h2 hij
theorem Sc.take {l : List (Int × Int)} {L0 hi L : Int} {i : Nat} (ha : asc l) (h : Sc l L0 hi i L) {p : Int × Int} (hp : l[i]? = some p) (h0 : L0 ≤ p.1) : Sc l L0 hi (i + 1) (p.1 + 1) :=
  ⟨by omega, fun j q hq hj hc => by
    rcases (by omega : j < i ∨ j = i) with h1 | rfl
    · have := asc_lt ha hq hp h1; omega
    · rw [hp] at hq; cases hq; omega, fun j q hq hj h1 h2 => by have := asc_lt ha hp hq (by omega); omega⟩
theorem nextL_first {L hi : Int} : ∀ (l : List (Int × Int)) (i : Nat) (p : Int × Int), (∀ j q, l[j]? = some q → j < i → ¬ (L ≤ q.1 ∧ q.1 ≤ hi)) → l[i]? = some p → L ≤ p.1 → p.1 ≤ hi → nextL L hi l = some p
  | [], i, p, _, h, _, _ => by simp at h
  | y :: l, 0, p, _, h, h1, h2 => by
    simp at h; subst h
    unfold nextL inR
    rw [List.filter_cons_of_pos (by simp; omega)]; rfl
  | y :: l, i + 1, p, hd, h, h1, h2 => by
    have hy := hd 0 y rfl (by omega)
    unfold nextL inR
    rw [List.filter_cons_of_neg (by simp; omega)]
    exact nextL_first l i p (fun j q hq hj => hd (j + 1) q (by simpa using hq) (by omega)) (by simpa using h) h1 h2
theorem next_do {s : Md} {L0 hi L : Int} {i : Nat} (hs : s.th[0]? = some (itAt L hi)) (hh : hi < 18446744073709551616) (h : Sc s.l L0 hi i L) {p : Int × Int} (hp : s.l[i]? = some p) (h0 : L0 ≤ p.1) (h1 : p.1 ≤ hi) : (doM s 0 oNext).1 = ⟨0, true, p.1, p.2, 0⟩ ∧ (doM s 0 oNext).2.l = s.l ∧ (doM s 0 oNext).2.th[0]? = some (itAt (p.1 + 1) hi) := by
  have hLp := h.todo i p hp (Nat.le_refl _) h0 h1
  have hx : s.th[0]? = some ⟨true, true, L, hi, true⟩ := by rw [hs]; unfold itAt; rw [if_pos (by omega)]
  have e : doM s 0 oNext = _ := doM_at (t := 0) hx chk_next
  have hn := nextL_first s.l i p h.done hp hLp h1
  rw [e, if_neg (by simp [refE])]
  have e2 : perfM s 0 ⟨true, true, L, hi, true⟩ oNext = (⟨0, true, p.1, p.2, 0⟩, { s with th := s.th.set 0 (Th.after ⟨true, true, L, hi, true⟩ p.1) }) := by simp [perfM, hn]
  rw [e2]
  refine ⟨rfl, rfl, ?_⟩
  have e3 : Th.after ⟨true, true, L, hi, true⟩ p.1 = itAt (p.1 + 1) hi := by
    unfold Th.after itAt
    by_cases hq : p.1 = 18446744073709551615
    · rw [if_pos hq, if_neg (by omega)]; rfl
    · rw [if_neg hq]
      unfold Th.from_
      by_cases h3 : p.1 + 1 ≤ hi
      · rw [if_pos ⟨rfl, h3⟩, if_pos h3]
        have : max L (p.1 + 1) = p.1 + 1 := by omega
        simp [this]
      · rw [if_neg (fun c => h3 c.2), if_neg h3]; rfl
  rw [← e3]
  exact set_at hx _
theorem nextL_none {L hi : Int} {l : List (Int × Int)} (h : ∀ p ∈ l, ¬ (L ≤ p.1 ∧ p.1 ≤ hi)) : nextL L hi l = none := by
  unfold nextL
  have : inR L hi l = [] := List.filter_eq_nil_iff.2 fun p hp => by have := h p hp; simp; omega
  rw [this]; rfl
/-- The iterator's end. -/
abbrev itF : Th := ⟨true, false, 0, 0, true⟩
theorem end_do {s : Md} {hi L : Int} (hs : s.th[0]? = some (itAt L hi)) (h : ∀ p ∈ s.l, ¬ (L ≤ p.1 ∧ p.1 ≤ hi)) : (doM s 0 oNext).1 = rEnd ∧ (doM s 0 oNext).2.l = s.l ∧ (doM s 0 oNext).2.th[0]? = some itF := by
  by_cases hL : L ≤ hi
  · have hx : s.th[0]? = some ⟨true, true, L, hi, true⟩ := by rw [hs]; unfold itAt; rw [if_pos hL]
    have e : doM s 0 oNext = _ := doM_at (t := 0) hx chk_next
    have hn := nextL_none h
    rw [e, if_neg (by simp [refE])]
    have e2 : perfM s 0 ⟨true, true, L, hi, true⟩ oNext = (rEnd, { s with th := s.th.set 0 (Th.fin ⟨true, true, L, hi, true⟩) }) := by simp [perfM, hn]
    rw [e2]
    exact ⟨rfl, rfl, set_at hx _⟩
  · have hx : s.th[0]? = some itF := by rw [hs]; unfold itAt; rw [if_neg hL]
    have e : doM s 0 oNext = _ := doM_at (t := 0) hx chk_next
    rw [e, if_pos (by simp [refE])]
    exact ⟨by simp [refE], rfl, hx⟩
theorem itF_at (hi : Int) : itF = itAt (hi + 1) hi := by unfold itAt; rw [if_neg (by omega)]
theorem close_do {s : Md} (hs : s.th[0]? = some itF) : (doM s 0 oEnd).1 = r0 := by
  have e : doM s 0 oEnd = _ := doM_at (t := 0) hs chk_end
  rw [e, if_neg (by simp [refE])]
  rfl
end Go.Proofs.Ytdjcndpnjoahmaa
