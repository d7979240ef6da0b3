import Derived.Test.YtahagplegmcaaaaGreatDoorGRi
import Derived.Test.YtahagplegmcaaaaGreatDoorGWp
set_option linter.unusedVariables false
set_option linter.unusedSimpArgs false
set_option linter.unnecessarySimpa false
namespace Go.Proofs.YtahagplegmcaaaaGreatDoor
open Go.RowKit Go.Xt
/-! What Do and Accept keep of the numbers; several models of a law's own. -/
theorem Th.U.fin {x : Th} : x.fin.U := ⟨⟨by show (0 : Int) ≤ 0; omega, by show (0 : Int) < _; omega⟩, by show (0 : Int) ≤ 0; omega, by show (0 : Int) < _; omega⟩
theorem Th.U.from_ {x : Th} (h : x.U) (k : Int) (hk : 0 ≤ k ∧ k < 18446744073709551616) : (x.from_ k).U := by
  unfold Th.from_
  split
  · have := h.1
    exact ⟨⟨by show 0 ≤ max x.lo k; omega, by show max x.lo k < _; omega⟩, h.2⟩
  · exact Th.U.fin
theorem Th.U.after {x : Th} (h : x.U) (k : Int) (hk : 0 ≤ k ∧ k < 18446744073709551616) : (x.after k).U := by
  unfold Th.after
  split
  · exact Th.U.fin
  · exact h.from_ _ (by omega)
theorem Md.Nums.setT {s : Md} (h : s.Nums) (t : Nat) {y : Th} (hy : y.U) : Md.Nums { s with th := s.th.set t y } := ⟨h.1, set_all h.2 hy⟩
theorem Md.Nums.setL {s : Md} (h : s.Nums) (l : List (Int × Int)) : Md.Nums { s with l := l } := h
theorem perfM_nums {s : Md} {N : Nat} (hok : s.Ok N) (h : s.Nums) {t : Nat} {x : Th} (ht : s.th[t]? = some x) {o : Ox} (hw : o.Wf) : (perfM s t x o).2.Nums := by
  have hx := h.2 x (List.mem_of_getElem? ht)
  unfold perfM
  by_cases k1 : o.k = 1
  · rw [if_pos k1]
    show (openM s t x).Nums
    unfold openM
    split
    · exact h
    · exact h.setT t (y := { x with se := true }) hx
  rw [if_neg k1]
  by_cases k2 : o.k = 2
  · rw [if_pos k2]; exact h.setT t (y := { x with se := false }) hx
  rw [if_neg k2]
  by_cases k3 : o.k = 3
  · rw [if_pos k3]; exact h
  rw [if_neg k3]
  by_cases k4 : o.k = 4
  · rw [if_pos k4]; exact h
  rw [if_neg k4]
  by_cases k5 : o.k = 5
  · rw [if_pos k5]; exact h
  rw [if_neg k5]
  by_cases k6 : o.k = 6
  · rw [if_pos k6]; exact h
  rw [if_neg k6]
  by_cases k7 : o.k = 7
  · rw [if_pos k7]; exact h
  rw [if_neg k7]
  by_cases k8 : o.k = 8
  · rw [if_pos k8]; exact h
  rw [if_neg k8]
  by_cases k9 : o.k = 9
  · rw [if_pos k9]; exact h
  rw [if_neg k9]
  by_cases k10 : o.k = 10
  · rw [if_pos k10]; exact h
  rw [if_neg k10]
  by_cases k11 : o.k = 11
  · rw [if_pos k11]; exact h.setT t (y := ⟨true, true, o.key, o.hi, x.se⟩) ⟨hw.key, hw.hi⟩
  rw [if_neg k11]
  by_cases k12 : o.k = 12
  · rw [if_pos k12]
    cases hq : nextL x.lo x.hi s.l with
    | none => exact h.setT t Th.U.fin
    | some q => exact h.setT t (hx.after _ (hok.u64 q (nextL_mem hq).1).1)
  rw [if_neg k12]
  by_cases k13 : o.k = 13
  · rw [if_pos k13]; exact h.setT t (hx.from_ _ hw.key)
  rw [if_neg k13]
  by_cases k14 : o.k = 14
  · rw [if_pos k14]; exact h.setT t (y := ⟨false, false, 0, 0, x.se⟩) (Th.U.fin (x := x))
  rw [if_neg k14]
  exact h
theorem doM_nums {s : Md} {N : Nat} (hok : s.Ok N) (h : s.Nums) (t : Int) {o : Ox} (hw : o.Wf) : (doM s t o).2.Nums := by
  by_cases hr : refM s t o = 0
  · obtain ⟨t, x, rfl, hx, hc, hre, hd⟩ := refM_zero hr
    rw [hd]; exact perfM_nums hok h hx hw
  · have e : doM s t o = (⟨refM s t o, false, 0, 0, 0⟩, s) := by unfold doM; rw [if_pos hr]
    rw [e]; exact h
/-- Models in new memory, none touching another, beside blocks of the law's own. -/
def Lw (w : World) (N : Nat) (ms : List (Nat × Md)) (K : List (Nat × Obj)) (W : World) : Prop :=
  Nw w W ∧ ∃ ps : List Pl, ps.length = ms.length ∧
    (∀ (i : Nat) (p : Pl) (m : Nat × Md), ps[i]? = some p → ms[i]? = some m → p.gm = m.1 ∧ MAt W p m.2 ∧ m.2.Ok N ∧ m.2.Nums ∧ (0 < m.2.th.length) ∧ ∀ g ∈ p.foot, w.heap.size ≤ g) ∧
    (∀ (i j : Nat) (p q : Pl), ps[i]? = some p → ps[j]? = some q → i ≠ j → ∀ g ∈ p.foot, g ∉ q.foot) ∧
    (∀ x ∈ K, W.heap[x.1]? = some x.2 ∧ ∀ p ∈ ps, x.1 ∉ p.foot)
section
variable {w W W' : World} {N : Nat} {ms : List (Nat × Md)} {K : List (Nat × Obj)}
theorem Lw.nw (h : Lw w N ms K W) : Nw w W := h.1
theorem Lw.block (h : Lw w N ms K W) {b : Nat} {o : Obj} (hb : (b, o) ∈ K) : W.heap[b]? = some o := by
  obtain ⟨_, ps, _, _, _, hK⟩ := h; exact (hK _ hb).1
theorem Lw.cell (h : Lw w N ms K W) {b : Nat} {c : Array Value} {T : TypeId} {fz : Nat × Nat} (hb : (b, .cells c T fz) ∈ K) (i : Nat) : W.cell? ⟨b, i, none⟩ = c[i]? := Lib.cell_of_heap (h.block hb) i
theorem Lw.at (h : Lw w N ms K W) {i gm : Nat} {s : Md} (hi : ms[i]? = some (gm, s)) : ∃ p : Pl, p.gm = gm ∧ MAt W p s ∧ s.Ok N ∧ s.Nums ∧ 0 < s.th.length ∧ ∀ g ∈ p.foot, w.heap.size ≤ g := by
  obtain ⟨_, ps, hl, hA, _, _⟩ := h
  have hlt := (List.getElem?_eq_some_iff.1 hi).1
  obtain ⟨p, hp⟩ : ∃ p, ps[i]? = some p := ⟨_, List.getElem?_eq_getElem (by omega)⟩
  exact ⟨p, hA i p _ hp hi⟩
theorem Lw.im (h : Lw w N ms K W) {i gm : Nat} {s : Md} (hi : ms[i]? = some (gm, s)) : gm < W.heap.size := by
  obtain ⟨p, rfl, h1, _⟩ := h.at hi; exact h1.im
theorem Lw.low {ps : List Pl} (hl : ps.length = ms.length) (hA : ∀ (i : Nat) (p : Pl) (m : Nat × Md), ps[i]? = some p → ms[i]? = some m → p.gm = m.1 ∧ MAt W p m.2 ∧ m.2.Ok N ∧ m.2.Nums ∧ (0 < m.2.th.length) ∧ ∀ g ∈ p.foot, w.heap.size ≤ g) {p : Pl} (hp : p ∈ ps) {g : Nat} (hg : g ∈ p.foot) : g < W.heap.size := by
  obtain ⟨i, hi⟩ := List.mem_iff_getElem?.1 hp
  have hlt2 := (List.getElem?_eq_some_iff.1 hi).1
  obtain ⟨m, hm⟩ : ∃ m, ms[i]? = some m := ⟨_, List.getElem?_eq_getElem (by omega)⟩
  exact (hA i p m hi hm).2.1.lt hg
theorem Lw.grow (h : Lw w N ms K W) (hn : Nw W W') : Lw w N ms K W' := by
  obtain ⟨h0, ps, hl, hA, hD, hK⟩ := h
  exact ⟨h0.trans hn, ps, hl, fun i p m hp hm => by
    obtain ⟨a, b, c, d, e, f⟩ := hA i p m hp hm
    exact ⟨a, b.nw hn, c, d, e, f⟩, hD, fun x hx => ⟨nw_cells hn (hK x hx).1, (hK x hx).2⟩⟩
/-- One block more that is kept. -/
theorem Lw.keep (h : Lw w N ms K W) (hn : Nw W W') {b : Nat} {o : Obj} (hb : W'.heap[b]? = some o) (hlt : W.heap.size ≤ b) : Lw w N ms ((b, o) :: K) W' := by
  obtain ⟨h0, ps, hl, hA, hD, hK⟩ := h
  refine ⟨h0.trans hn, ps, hl, fun i p m hp hm => by
    obtain ⟨a, b, c, d, e, f⟩ := hA i p m hp hm
    exact ⟨a, b.nw hn, c, d, e, f⟩, hD, fun x hx => ?_⟩
  rcases List.mem_cons.1 hx with rfl | hx
  · exact ⟨hb, fun p hp hg => by have := Lw.low hl hA hp hg; simp only at this; omega⟩
  · exact ⟨nw_cells hn (hK x hx).1, (hK x hx).2⟩
/-- A block that was there all along is kept, too. -/
theorem Lw.old (h : Lw w N ms K W) {b : Nat} {o : Obj} (hb : w.heap[b]? = some o) : Lw w N ms ((b, o) :: K) W := by
  obtain ⟨h0, ps, hl, hA, hD, hK⟩ := h
  refine ⟨h0, ps, hl, hA, hD, fun x hx => ?_⟩
  rcases List.mem_cons.1 hx with rfl | hx
  · refine ⟨nw_cells h0 hb, fun p hp hg => ?_⟩
    obtain ⟨i, hi⟩ := List.mem_iff_getElem?.1 hp
    have hlt2 := (List.getElem?_eq_some_iff.1 hi).1
    obtain ⟨m, hm⟩ : ∃ m, ms[i]? = some m := ⟨_, List.getElem?_eq_getElem (by omega)⟩
    have h1 := (hA i p m hi hm).2.2.2.2.2 _ hg
    have h2 := (Array.getElem?_eq_some_iff.1 hb).1
    simp only at h1 h2
    omega
  · exact hK x hx
/-- One of the models is worked on. -/
theorem Lw.run (h : Lw w N ms K W) {i gm : Nat} {s : Md} (hi : ms[i]? = some (gm, s)) :
    ∃ p : Pl, p.gm = gm ∧ MAt W p s ∧ s.Ok N ∧ s.Nums ∧ 0 < s.th.length ∧ ∀ (s' : Md) (p' : Pl) (W' : World) (N' : Nat), MUp W p s' p' W' → N ≤ N' → s'.Ok N' → s'.Nums → 0 < s'.th.length → Lw w N' (ms.set i (gm, s')) K W' := by
  obtain ⟨h0, ps, hl, hA, hD, hK⟩ := h
  have hlt := (List.getElem?_eq_some_iff.1 hi).1
  obtain ⟨p, hp⟩ : ∃ p, ps[i]? = some p := ⟨_, List.getElem?_eq_getElem (by omega)⟩
  obtain ⟨a, b, c, d, e, f⟩ := hA i p _ hp hi
  refine ⟨p, a, b, c, d, e, fun s' p' W' N' hu hN hok hnu hth => ⟨nw_chg2 h0 hu.chg f, ps.set i p', by simp [hl], fun j q m hq hm => ?_, fun j k q r hq hr hjk g hg => ?_, fun x hx => ?_⟩⟩
  · by_cases hij : i = j
    · subst hij
      rw [List.getElem?_set_self (by omega)] at hq hm
      cases hq; cases hm
      refine ⟨hu.gm.trans a, hu.at', hok, hnu, hth, fun g hg => ?_⟩
      rcases hu.mv g hg with h1 | h1
      · exact f g h1
      · exact Nat.le_trans h0.grown.size h1
    · rw [List.getElem?_set_ne hij] at hq hm
      obtain ⟨a2, b2, c2, d2, e2, f2⟩ := hA j q m hq hm
      exact ⟨a2, b2.chg hu.chg (fun g hg => hD j i q p hq hp (Ne.symm hij) g hg), c2.mono hN, d2, e2, f2⟩
  · by_cases hij : i = j
    · subst hij
      rw [List.getElem?_set_self (by omega)] at hq
      rw [List.getElem?_set_ne hjk] at hr
      cases hq
      rcases hu.mv g hg with h1 | h1
      · exact hD i k p r hp hr hjk g h1
      · intro h2
        have := Lw.low hl hA (List.mem_of_getElem? hr) h2
        omega
    · rw [List.getElem?_set_ne hij] at hq
      by_cases hik : i = k
      · subst hik
        rw [List.getElem?_set_self (by omega)] at hr
        cases hr
        intro h2
        rcases hu.mv g h2 with h1 | h1
        · exact hD j i q p hq hp hjk g hg h1
        · have := Lw.low hl hA (List.mem_of_getElem? hq) hg
          omega
      · rw [List.getElem?_set_ne hik] at hr
        exact hD j k q r hq hr hjk g hg
  · have hxl := (Array.getElem?_eq_some_iff.1 (hK x hx).1).1
    refine ⟨(hu.chg.block x.1 hxl ((hK x hx).2 p (List.mem_of_getElem? hp))).trans (hK x hx).1, fun q hq hg => ?_⟩
    rcases List.mem_or_eq_of_mem_set hq with h1 | rfl
    · exact (hK x hx).2 q h1 hg
    · rcases hu.mv _ hg with h1 | h1
      · exact (hK x hx).2 p (List.mem_of_getElem? hp) h1
      · omega
/-- One model more. -/
theorem Lw.add (h : Lw w N ms K W) (hn : Nw W W') {p : Pl} {s : Md} (hp : MAt W' p s) (hf : ∀ g ∈ p.foot, W.heap.size ≤ g) (hok : s.Ok N) (hnu : s.Nums) (hth : 0 < s.th.length) : Lw w N (ms ++ [(p.gm, s)]) K W' := by
  obtain ⟨h0, ps, hl, hA, hD, hK⟩ := h
  refine ⟨h0.trans hn, ps ++ [p], by simp [hl], fun j q m hq hm => ?_, fun j k q r hq hr hjk g hg => ?_, fun x hx => ?_⟩
  · by_cases hj : j < ps.length
    · rw [List.getElem?_append_left hj] at hq
      rw [List.getElem?_append_left (by omega)] at hm
      obtain ⟨a, b, c, d, e, f⟩ := hA j q m hq hm
      exact ⟨a, b.nw hn, c, d, e, f⟩
    · rw [List.getElem?_append_right (by omega)] at hq
      rw [List.getElem?_append_right (by omega)] at hm
      have e1 : j - ps.length = 0 := by have := (List.getElem?_eq_some_iff.1 hq).1; simp at this; omega
      rw [e1] at hq
      rw [← hl, e1] at hm
      simp at hq hm
      subst hq hm
      exact ⟨rfl, hp, hok, hnu, hth, fun g hg => Nat.le_trans h0.grown.size (hf g hg)⟩
  · have hend : ∀ (z : Nat) (y : Pl), (ps ++ [p])[z]? = some y → (z < ps.length ∧ ps[z]? = some y) ∨ (z = ps.length ∧ y = p) := fun z y hz => by
      by_cases hj : z < ps.length
      · rw [List.getElem?_append_left hj] at hz; exact .inl ⟨hj, hz⟩
      · rw [List.getElem?_append_right (by omega)] at hz
        have e1 : z - ps.length = 0 := by have := (List.getElem?_eq_some_iff.1 hz).1; simp at this; omega
        rw [e1] at hz
        simp at hz
        exact .inr ⟨by omega, hz.symm⟩
    rcases hend j q hq with ⟨hj, hq'⟩ | ⟨hj, hqp⟩
    · rcases hend k r hr with ⟨hk, hr'⟩ | ⟨hk, hrp⟩
      · exact hD j k q r hq' hr' hjk g hg
      · intro h2
        have h3 := Lw.low hl hA (List.mem_of_getElem? hq') hg
        have h4 := hf g (hrp ▸ h2)
        omega
    · rcases hend k r hr with ⟨hk, hr'⟩ | ⟨hk, hrp⟩
      · intro h2
        have h3 := Lw.low hl hA (List.mem_of_getElem? hr') h2
        have h4 := hf g (hqp ▸ hg)
        omega
      · omega
  · refine ⟨nw_cells hn (hK x hx).1, fun q hq hg => ?_⟩
    have hxl := (Array.getElem?_eq_some_iff.1 (hK x hx).1).1
    rcases List.mem_append.1 hq with h1 | h1
    · exact (hK x hx).2 q h1 hg
    · simp at h1; subst h1
      have := hf _ hg; omega
/-- A slice of pairs that is kept. -/
def PV (K : List (Nat × Obj)) (A : Option Addr) (n : Nat) (l : List (Int × Int)) : Prop := n = l.length ∧ (n = 0 ∨ ∃ g cap cur, A = some ⟨g, 0, none⟩ ∧ (g, Obj.cells cur 106) ∈ K ∧ n ≤ cap ∧ cur.size = cap * 2 ∧ cur.toList.take (n * 2) = pcells l)
theorem PV.more {K K' : List (Nat × Obj)} {A : Option Addr} {n : Nat} {l : List (Int × Int)} (h : PV K A n l) (hs : ∀ x ∈ K, x ∈ K') : PV K' A n l := by
  refine ⟨h.1, h.2.imp id ?_⟩
  rintro ⟨g, cap, cur, h1, h2, h3⟩
  exact ⟨g, cap, cur, h1, hs _ h2, h3⟩
end
end Go.Proofs.YtahagplegmcaaaaGreatDoor
namespace Go.Proofs.YtahagplegmcaaaaGreatDoor
open Go.RowKit Go.Xt
/-! Key and ModelRefuses, plain. -/
/-- ErrRetry is accepted exactly of an operation that uses the map and is done. -/
def usesK (k : Int) : Bool := decide (k = 3) || (decide (4 ≤ k) && decide (k ≤ 9)) || decide (k = 10) || decide (k = 12)
def doneM (s : Md) (t : Int) (o : Ox) : Bool := decide ((doM s t o).1.err = 0) || (decide ((doM s t o).1.err = 14) && decide (keyB (doM s t o).2 ≠ keyB s))
end Go.Proofs.YtahagplegmcaaaaGreatDoor
namespace Go.Proofs.YtahagplegmcaaaaGreatDoor
open Go.RowKit Go.Xt
/-! Key tells the state, plain. -/
/-- No blank. -/
def nbl (w : List UInt8) : Prop := ∀ c ∈ w, c ≠ 32
theorem nbl_cut : ∀ {a b : List UInt8} {x y : List UInt8}, nbl a → nbl b → a ++ 32 :: x = b ++ 32 :: y → a = b ∧ x = y
  | [], [], x, y, _, _, h => ⟨rfl, by simpa using h⟩
  | [], c :: b, x, y, _, hb, h => by
    simp only [List.nil_append, List.cons_append, List.cons.injEq] at h
    exact absurd h.1.symm (hb c (by simp))
  | c :: a, [], x, y, ha, _, h => by
    simp only [List.nil_append, List.cons_append, List.cons.injEq] at h
    exact absurd h.1 (ha c (by simp))
  | c :: a, d :: b, x, y, ha, hb, h => by
    simp only [List.cons_append, List.cons.injEq] at h
    obtain ⟨rfl, h⟩ := h
    obtain ⟨rfl, h2⟩ := nbl_cut (fun e he => ha e (by simp [he])) (fun e he => hb e (by simp [he])) h
    exact ⟨rfl, h2⟩
theorem dgt_val {d : Nat} (hd : d < 10) : (UInt8.ofNat (48 + d)).toNat = 48 + d := by
  rw [UInt8.toNat_ofNat']; omega
theorem dec_nbl (u : Nat) : nbl (Lib.decDigits u) := by
  induction u using Nat.strongRecOn with
  | ind u ih =>
    have hd : ∀ d, d < 10 → UInt8.ofNat (48 + d) ≠ 32 := fun d hd e => by
      have := congrArg UInt8.toNat e
      rw [dgt_val hd] at this
      simp at this; omega
    intro c hc
    by_cases h : u < 10
    · rw [Lib.decDigits_one h, List.mem_singleton] at hc; subst hc; exact hd u h
    · rw [Lib.decDigits, dif_neg h] at hc
      rcases List.mem_append.1 hc with hc | hc
      · exact ih (u / 10) (by omega) c hc
      · rw [List.mem_singleton] at hc; subst hc; exact hd (u % 10) (by omega)
/-- The value of digits. -/
def valD (l : List UInt8) : Nat := l.foldl (fun n c => 10 * n + (c.toNat - 48)) 0
theorem val_decD (u : Nat) : valD (Lib.decDigits u) = u := by
  induction u using Nat.strongRecOn with
  | ind u ih =>
    by_cases h : u < 10
    · rw [Lib.decDigits_one h]
      simp only [valD, List.foldl_cons, List.foldl_nil]
      rw [dgt_val h]; omega
    · rw [Lib.decDigits, dif_neg h]
      unfold valD
      rw [List.foldl_append]
      have := ih (u / 10) (by omega)
      unfold valD at this
      rw [this]
      simp only [List.foldl_cons, List.foldl_nil]
      rw [dgt_val (by omega)]; omega
theorem numK_inj {a b : Int} {x y : List UInt8} (ha : 0 ≤ a) (hb : 0 ≤ b) (h : numK a ++ x = numK b ++ y) : a = b ∧ x = y := by
  unfold numK at h
  simp only [List.append_assoc, List.singleton_append] at h
  obtain ⟨h1, h2⟩ := nbl_cut (dec_nbl _) (dec_nbl _) h
  have h3 := congrArg valD h1
  rw [val_decD, val_decD] at h3
  exact ⟨by omega, h2⟩
theorem boolK_inj {a b : Bool} {x y : List UInt8} (h : boolK a ++ x = boolK b ++ y) : a = b ∧ x = y := by
  cases a <;> cases b <;> simp [boolK, strB] at h ⊢ <;> exact h
theorem thK_inj {a b : Th} {x y : List UInt8} (ha : a.U) (hb : b.U) (h : thK a ++ x = thK b ++ y) : a = b ∧ x = y := by
  obtain ⟨a1, a2, a3, a4, a5⟩ := a
  obtain ⟨b1, b2, b3, b4, b5⟩ := b
  unfold thK at h
  simp only [List.append_assoc] at h
  obtain ⟨g1, h⟩ := boolK_inj h
  obtain ⟨g2, h⟩ := boolK_inj h
  obtain ⟨g3, h⟩ := boolK_inj h
  obtain ⟨e1, h⟩ := numK_inj ha.1.1 hb.1.1 h
  obtain ⟨e2, hxy⟩ := numK_inj ha.2.1 hb.2.1 h
  clear h
  simp only at e1 e2 g1 g2 g3
  subst e1 e2 g1 g2 g3
  exact ⟨rfl, hxy⟩
theorem ths_inj : ∀ {a b : List Th} {x y : List UInt8}, a.length = b.length → (∀ t ∈ a, t.U) → (∀ t ∈ b, t.U) → a.flatMap thK ++ x = b.flatMap thK ++ y → a = b ∧ x = y
  | [], [], _, _, _, _, _, h => ⟨rfl, by simpa using h⟩
  | [], _ :: _, _, _, h, _, _, _ => by simp at h
  | _ :: _, [], _, _, h, _, _, _ => by simp at h
  | p :: a, q :: b, x, y, hl, ha, hb, h => by
    rw [List.flatMap_cons, List.flatMap_cons, List.append_assoc, List.append_assoc] at h
    obtain ⟨e1, h⟩ := thK_inj (ha p (by simp)) (hb q (by simp)) h
    obtain ⟨e2, h⟩ := ths_inj (by simpa using hl) (fun t ht => ha t (by simp [ht])) (fun t ht => hb t (by simp [ht])) h
    exact ⟨by rw [e1, e2], h⟩
theorem prs_inj : ∀ {a b : List (Int × Int)}, U64s a → U64s b → a.flatMap prK = b.flatMap prK → a = b
  | [], [], _, _, _ => rfl
  | [], q :: b, _, _, h => by
    have := congrArg List.length h
    rw [List.flatMap_cons] at this
    simp [prK, numK] at this
  | p :: a, [], _, _, h => by
    have := congrArg List.length h
    rw [List.flatMap_cons] at this
    simp [prK, numK] at this
  | p :: a, q :: b, ha, hb, h => by
    have hp := ha p (by simp)
    have hq := hb q (by simp)
    obtain ⟨p1, p2⟩ := p
    obtain ⟨q1, q2⟩ := q
    rw [List.flatMap_cons, List.flatMap_cons] at h
    unfold prK at h
    simp only [List.append_assoc] at h
    obtain ⟨e1, h⟩ := numK_inj hp.1.1 hq.1.1 h
    obtain ⟨e2, h⟩ := numK_inj hp.2.1 hq.2.1 h
    have h3 := prs_inj (a := a) (b := b) (fun z hz => ha z (by simp [hz])) (fun z hz => hb z (by simp [hz])) (by unfold prK; exact h)
    subst h3
    subst e1 e2
    rfl
/-- Keys are equal for equal states only. -/
theorem keyB_inj {s s' : Md} (hs : s.Nums) (hs' : s'.Nums) (hl : U64s s.l) (hl' : U64s s'.l) (h : keyB s = keyB s') : s.slots = s'.slots ∧ s.th = s'.th ∧ s.l = s'.l := by
  unfold keyB at h
  simp only [List.append_assoc] at h
  obtain ⟨e1, h⟩ := numK_inj hs.1.1 hs'.1.1 h
  obtain ⟨e2, h⟩ := numK_inj (by omega) (by omega) h
  obtain ⟨e3, h⟩ := ths_inj (by omega) hs.2 hs'.2 h
  exact ⟨e1, e3, prs_inj hl hl' h⟩
end Go.Proofs.YtahagplegmcaaaaGreatDoor
namespace Go.Proofs.YtahagplegmcaaaaGreatDoor
open Go.RowKit Go.Xt
/-! Models of the program and of the reference in new memory, none touching another. -/
structure En where
  gm : Nat
  cf : Option Cf
  s : Md
  N : Nat
def EAt (W : World) (p : Pl) (e : En) : Prop := match e.cf with
  | none => MAt W p e.s
  | some c => RAt W p c e.s
section
variable {W W' : World} {p : Pl} {e : En}
theorem EAt.nw (h : EAt W p e) (hn : Nw W W') : EAt W' p e := by
  unfold EAt at h ⊢; split at h
  · exact h.nw hn
  · exact h.nw hn
theorem EAt.chg {X : List Nat} (h : EAt W p e) (hc : Chg X W W') (hd : ∀ g ∈ p.foot, g ∉ X) : EAt W' p e := by
  unfold EAt at h ⊢; split at h
  · exact h.chg hc hd
  · exact h.chg hc hd
theorem EAt.lt (h : EAt W p e) {g : Nat} (hg : g ∈ p.foot) : g < W.heap.size := by
  unfold EAt at h; split at h
  · exact h.lt hg
  · exact h.lt hg
end
/-- Models that lie apart. -/
def Lg (w : World) (es : List En) (W : World) : Prop :=
  Nw w W ∧ ∃ ps : List Pl, ps.length = es.length ∧
    (∀ (i : Nat) (p : Pl) (e : En), ps[i]? = some p → es[i]? = some e → p.gm = e.gm ∧ EAt W p e ∧ e.s.Ok e.N ∧ e.s.Nums ∧ 0 < e.s.th.length ∧ ∀ g ∈ p.foot, w.heap.size ≤ g) ∧
    (∀ (i j : Nat) (p q : Pl), ps[i]? = some p → ps[j]? = some q → i ≠ j → ∀ g ∈ p.foot, g ∉ q.foot)
section
variable {w W W' : World} {es : List En}
theorem Lg.nw (h : Lg w es W) : Nw w W := h.1
theorem Lg.nil (h : Nw w W) : Lg w [] W := ⟨h, [], rfl, fun i p e hp => by simp at hp, fun i j p q hp => by simp at hp⟩
theorem Lg.at (h : Lg w es W) {i : Nat} {e : En} (hi : es[i]? = some e) : ∃ p : Pl, p.gm = e.gm ∧ EAt W p e ∧ e.s.Ok e.N ∧ e.s.Nums ∧ 0 < e.s.th.length ∧ ∀ g ∈ p.foot, w.heap.size ≤ g := by
  obtain ⟨_, ps, hl, hA, _⟩ := h
  have hlt := (List.getElem?_eq_some_iff.1 hi).1
  obtain ⟨p, hp⟩ : ∃ p, ps[i]? = some p := ⟨_, List.getElem?_eq_getElem (by omega)⟩
  exact ⟨p, hA i p _ hp hi⟩
theorem Lg.im (h : Lg w es W) {i : Nat} {e : En} (hi : es[i]? = some e) : e.gm < W.heap.size := by
  obtain ⟨p, hg, h1, _⟩ := h.at hi
  rw [← hg]
  exact h1.lt (Pl.mem.2 (.inl rfl))
theorem Lg.low {ps : List Pl} (hl : ps.length = es.length) (hA : ∀ (i : Nat) (p : Pl) (e : En), ps[i]? = some p → es[i]? = some e → p.gm = e.gm ∧ EAt W p e ∧ e.s.Ok e.N ∧ e.s.Nums ∧ 0 < e.s.th.length ∧ ∀ g ∈ p.foot, w.heap.size ≤ g) {p : Pl} (hp : p ∈ ps) {g : Nat} (hg : g ∈ p.foot) : g < W.heap.size := by
  obtain ⟨i, hi⟩ := List.mem_iff_getElem?.1 hp
  have hlt2 := (List.getElem?_eq_some_iff.1 hi).1
  obtain ⟨m, hm⟩ : ∃ m, es[i]? = some m := ⟨_, List.getElem?_eq_getElem (by omega)⟩
  exact (hA i p m hi hm).2.1.lt hg
theorem Lg.grow (h : Lg w es W) (hn : Nw W W') : Lg w es W' := by
  obtain ⟨h0, ps, hl, hA, hD⟩ := h
  exact ⟨h0.trans hn, ps, hl, fun i p m hp hm => by
    obtain ⟨a, b, c, d, e, f⟩ := hA i p m hp hm
    exact ⟨a, b.nw hn, c, d, e, f⟩, hD⟩
/-- One of the models is worked on. -/
theorem Lg.run (h : Lg w es W) {i : Nat} {e : En} (hi : es[i]? = some e) :
    ∃ p : Pl, p.gm = e.gm ∧ EAt W p e ∧ e.s.Ok e.N ∧ e.s.Nums ∧ 0 < e.s.th.length ∧ ∀ (e' : En) (p' : Pl) (W' : World), EAt W' p' e' → p'.gm = e'.gm → Chg p.foot W W' → (∀ g ∈ p'.foot, g ∈ p.foot ∨ W.heap.size ≤ g) → e'.s.Ok e'.N → e'.s.Nums → 0 < e'.s.th.length → Lg w (es.set i e') W' := by
  obtain ⟨h0, ps, hl, hA, hD⟩ := h
  have hlt := (List.getElem?_eq_some_iff.1 hi).1
  obtain ⟨p, hp⟩ : ∃ p, ps[i]? = some p := ⟨_, List.getElem?_eq_getElem (by omega)⟩
  obtain ⟨a, b, c, d, e9, f⟩ := hA i p _ hp hi
  refine ⟨p, a, b, c, d, e9, fun e' p' W' hat hgm hchg hmv hok hnu hth => ⟨nw_chg2 h0 hchg f, ps.set i p', by simp [hl], fun j q m hq hm => ?_, fun j k q r hq hr hjk g hg => ?_⟩⟩
  · by_cases hij : i = j
    · subst hij
      rw [List.getElem?_set_self (by omega)] at hq hm
      cases hq; cases hm
      refine ⟨hgm, hat, hok, hnu, hth, fun g hg => ?_⟩
      rcases hmv g hg with h1 | h1
      · exact f g h1
      · exact Nat.le_trans h0.grown.size h1
    · rw [List.getElem?_set_ne hij] at hq hm
      obtain ⟨a2, b2, c2, d2, e2, f2⟩ := hA j q m hq hm
      exact ⟨a2, b2.chg hchg (fun g hg => hD j i q p hq hp (Ne.symm hij) g hg), c2, d2, e2, f2⟩
  · by_cases hij : i = j
    · subst hij
      rw [List.getElem?_set_self (by omega)] at hq
      rw [List.getElem?_set_ne hjk] at hr
      cases hq
      rcases hmv g hg with h1 | h1
      · exact hD i k p r hp hr hjk g h1
      · intro h2
        have := Lg.low hl hA (List.mem_of_getElem? hr) h2
        omega
    · rw [List.getElem?_set_ne hij] at hq
      by_cases hik : i = k
      · subst hik
        rw [List.getElem?_set_self (by omega)] at hr
        cases hr
        intro h2
        rcases hmv g h2 with h1 | h1
        · exact hD j i q p hq hp hjk g hg h1
        · have := Lg.low hl hA (List.mem_of_getElem? hq) hg
          omega
      · rw [List.getElem?_set_ne hik] at hr
        exact hD j k q r hq hr hjk g hg
/-- One model more. -/
theorem Lg.add (h : Lg w es W) (hn : Nw W W') {p : Pl} {e : En} (hg : p.gm = e.gm) (hp : EAt W' p e) (hf : ∀ g ∈ p.foot, W.heap.size ≤ g) (hok : e.s.Ok e.N) (hnu : e.s.Nums) (hth : 0 < e.s.th.length) : Lg w (es ++ [e]) W' := by
  obtain ⟨h0, ps, hl, hA, hD⟩ := h
  refine ⟨h0.trans hn, ps ++ [p], by simp [hl], fun j q m hq hm => ?_, fun j k q r hq hr hjk g hg => ?_⟩
  · by_cases hj : j < ps.length
    · rw [List.getElem?_append_left hj] at hq
      rw [List.getElem?_append_left (by omega)] at hm
      obtain ⟨a, b, c, d, e, f⟩ := hA j q m hq hm
      exact ⟨a, b.nw hn, c, d, e, f⟩
    · rw [List.getElem?_append_right (by omega)] at hq
      rw [List.getElem?_append_right (by omega)] at hm
      have e1 : j - ps.length = 0 := by have := (List.getElem?_eq_some_iff.1 hq).1; simp at this; omega
      rw [e1] at hq
      rw [← hl, e1] at hm
      simp at hq hm
      subst hq hm
      exact ⟨hg, hp, hok, hnu, hth, fun g hg => Nat.le_trans h0.grown.size (hf g hg)⟩
  · have hend : ∀ (z : Nat) (y : Pl), (ps ++ [p])[z]? = some y → (z < ps.length ∧ ps[z]? = some y) ∨ (z = ps.length ∧ y = p) := fun z y hz => by
      by_cases hj : z < ps.length
      · rw [List.getElem?_append_left hj] at hz; exact .inl ⟨hj, hz⟩
      · rw [List.getElem?_append_right (by omega)] at hz
        have e1 : z - ps.length = 0 := by have := (List.getElem?_eq_some_iff.1 hz).1; simp at this; omega
        rw [e1] at hz
        simp at hz
        exact .inr ⟨by omega, hz.symm⟩
    rcases hend j q hq with ⟨hj, hq'⟩ | ⟨hj, hqp⟩
    · rcases hend k r hr with ⟨hk, hr'⟩ | ⟨hk, hrp⟩
      · exact hD j k q r hq' hr' hjk g hg
      · intro h2
        have h3 := Lg.low hl hA (List.mem_of_getElem? hq') hg
        have h4 := hf g (hrp ▸ h2)
        omega
    · rcases hend k r hr with ⟨hk, hr'⟩ | ⟨hk, hrp⟩
      · intro h2
        have h3 := Lg.low hl hA (List.mem_of_getElem? hr') h2
        have h4 := hf g (hqp ▸ hg)
        omega
      · omega
/-- The calls. -/
theorem do_Lm (h : Lg w es W) {i gm N : Nat} {s : Md} (hi : es[i]? = some ⟨gm, none, s, N⟩) (hN : N ≤ 300000) (t : Int) (o : Ox) (hw : o.Wf) :
    Calls Tryz.prog 8 #[.pointer (some ⟨gm, 0, none⟩), .int .i64 t, opV o] W fun e W' => e = .returned (resV (doM s t o).1) ∧ Lg w (es.set i ⟨gm, none, (doM s t o).2, N + 1⟩) W' := by
  obtain ⟨p, hg, h1, h2, h3, h4, h5⟩ := h.run hi
  have hg : p.gm = gm := hg
  subst hg
  refine (do_any W p s h1 h2 (by show N ≤ _; omega) t o hw).mono ?_
  rintro e W' ⟨rfl, p', hu⟩
  exact ⟨rfl, h5 ⟨p.gm, none, _, _⟩ p' W' hu.at' hu.gm hu.chg hu.mv (doM_ok h2 t hw) (doM_nums h2 h3 t hw) (by show 0 < (doM s t o).2.th.length; rw [(doM_len s t o).1]; exact h4)⟩
theorem do_Lr (h : Lg w es W) {i gm N : Nat} {c : Cf} {s : Md} (hi : es[i]? = some ⟨gm, some c, s, N⟩) (hN : N ≤ 300000) (t : Int) (o : Ox) (hw : o.Wf) :
    Calls Tryz.prog 9 #[.pointer (some ⟨gm, 0, none⟩), .int .i64 t, opV o] W fun e W' => e = .returned (resV (doM s t o).1) ∧ Lg w (es.set i ⟨gm, some c, (doM s t o).2, N + 1⟩) W' := by
  obtain ⟨p, hg, h1, h2, h3, h4, h5⟩ := h.run hi
  have hg : p.gm = gm := hg
  subst hg
  refine (rdo_any W p c s h1 h2 (by show N ≤ _; omega) t o hw).mono ?_
  rintro e W' ⟨rfl, p', hu⟩
  exact ⟨rfl, h5 ⟨p.gm, some c, _, _⟩ p' W' hu.at' hu.gm hu.chg hu.mv (doM_ok h2 t hw) (doM_nums h2 h3 t hw) (by show 0 < (doM s t o).2.th.length; rw [(doM_len s t o).1]; exact h4)⟩
theorem copy_Lg (h : Lg w es W) {i gm N : Nat} {s : Md} (hi : es[i]? = some ⟨gm, none, s, N⟩) (hN : N ≤ 300000) :
    Calls Tryz.prog 10 #[.pointer (some ⟨gm, 0, none⟩)] W fun e W' => ∃ gq, e = .returned (.pointer (some ⟨gq, 0, none⟩)) ∧ Lg w (es ++ [⟨gq, none, s, N⟩]) W' := by
  obtain ⟨p, hg, h1, h2, h3, h4, h5⟩ := h.at hi
  have hg : p.gm = gm := hg
  subst hg
  have h1 : MAt W p s := h1
  refine (copy_M W p s h1 (by have := h2.len; show s.l.length ≤ _; have h9 : s.l.length ≤ N := this; omega) h4 h2.thn).mono ?_
  rintro e W' ⟨gq, rfl, p', rfl, hm, hf, hn⟩
  exact ⟨_, rfl, h.add (e := ⟨p'.gm, none, s, N⟩) hn rfl hm hf h2 h3 h4⟩
theorem key_Lg (h : Lg w es W) (H : FmtAt w) {i gm N : Nat} {s : Md} (hi : es[i]? = some ⟨gm, none, s, N⟩) (hN : N ≤ 300000) :
    Calls Tryz.prog 11 #[.pointer (some ⟨gm, 0, none⟩)] W fun e W' => e = .returned (.string ⟨(keyB s).toArray⟩) ∧ Nw W W' := by
  obtain ⟨p, hg, h1, h2, h3, h4, h5⟩ := h.at hi
  have hg : p.gm = gm := hg
  subst hg
  exact key_M W p s h1 h2 (by show N ≤ _; omega) h3 (H.nw h.nw)
/-- The law's own comparison. -/
theorem same_Lg (h : Lg w es W) {i j gm gr N M : Nat} {c : Cf} {s : Md} (hi : es[i]? = some ⟨gm, none, s, N⟩) (hj : es[j]? = some ⟨gr, some c, s, M⟩) (hN : N ≤ 300000) :
    Calls Tryz.prog 13 #[.pointer (some ⟨gm, 0, none⟩), .pointer (some ⟨gr, 0, none⟩)] W fun e W' => e = .returned (.bool true) ∧ Nw W W' := by
  obtain ⟨p, hg, h1, h2, h3, h4, h5⟩ := h.at hi
  obtain ⟨q, hq, g1, g2, g3, g4, g5⟩ := h.at hj
  have hg : p.gm = gm := hg
  have hq : q.gm = gr := hq
  subst hg hq
  exact same_yes W p q c s h1 g1 (by have := h2.len; have h9 : s.l.length ≤ N := this; omega) h2.thn
end
end Go.Proofs.YtahagplegmcaaaaGreatDoor
