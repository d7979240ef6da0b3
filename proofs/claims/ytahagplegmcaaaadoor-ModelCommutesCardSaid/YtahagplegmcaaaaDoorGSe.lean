import Derived.Test.YtahagplegmcaaaaDoorGSd
set_option linter.unusedVariables false
set_option linter.unusedSimpArgs false
set_option linter.unnecessarySimpa false
namespace Go.Proofs.YtahagplegmcaaaaDoor
open Go.RowKit Go.Xt
/-! What Do and Accept keep of the numbers; several models of a law's own. -/
theorem Th.U.fin {x : Th} : x.fin.U := ⟨⟨by show (0 : Int) ≤ 0; omega, by show (0 : Int) < _; omega⟩, by show (0 : Int) ≤ 0; omega, by show (0 : Int) < _; omega⟩
theorem Th.U.from_ {x : Th} (h : x.U) (k : Int) (hk : 0 ≤ k ∧ k < 18446744073709551616) : (x.from_ k).U := by
  unfold Th.from_
  split
  · have := h.1
    exact ⟨⟨by show 0 ≤ max x.lo k; omega, by show max x.lo k < _; omega⟩, h.2⟩
  · exact Th.U.fin
theorem Th.U.after {x : Th} (h : x.U) (k : Int) (hk : 0 ≤ k ∧ k < 18446744073709551616) : (x.after k).U := by
  unfold Th.after
  split
  · exact Th.U.fin
  · exact h.from_ _ (by omega)
theorem Md.Nums.setT {s : Md} (h : s.Nums) (t : Nat) {y : Th} (hy : y.U) : Md.Nums { s with th := s.th.set t y } := ⟨h.1, set_all h.2 hy⟩
theorem Md.Nums.setL {s : Md} (h : s.Nums) (l : List (Int × Int)) : Md.Nums { s with l := l } := h
theorem perfM_nums {s : Md} {N : Nat} (hok : s.Ok N) (h : s.Nums) {t : Nat} {x : Th} (ht : s.th[t]? = some x) {o : Ox} (hw : o.Wf) : (perfM s t x o).2.Nums := by
  have hx := h.2 x (List.mem_of_getElem? ht)
  unfold perfM
  by_cases k1 : o.k = 1
  · rw [if_pos k1]
    show (openM s t x).Nums
    unfold openM
    split
    · exact h
    · exact h.setT t (y := { x with se := true }) hx
  rw [if_neg k1]
  by_cases k2 : o.k = 2
  · rw [if_pos k2]; exact h.setT t (y := { x with se := false }) hx
  rw [if_neg k2]
  by_cases k3 : o.k = 3
  · rw [if_pos k3]; exact h
  rw [if_neg k3]
  by_cases k4 : o.k = 4
  · rw [if_pos k4]; exact h
  rw [if_neg k4]
  by_cases k5 : o.k = 5
  · rw [if_pos k5]; exact h
  rw [if_neg k5]
  by_cases k6 : o.k = 6
  · rw [if_pos k6]; exact h
  rw [if_neg k6]
  by_cases k7 : o.k = 7
  · rw [if_pos k7]; exact h
  rw [if_neg k7]
  by_cases k8 : o.k = 8
  · rw [if_pos k8]; exact h
  rw [if_neg k8]
  by_cases k9 : o.k = 9
  · rw [if_pos k9]; exact h
  rw [if_neg k9]
  by_cases k10 : o.k = 10
  · rw [if_pos k10]; exact h
  rw [if_neg k10]
  by_cases k11 : o.k = 11
  · rw [if_pos k11]; exact h.setT t (y := ⟨true, true, o.key, o.hi, x.se⟩) ⟨hw.key, hw.hi⟩
  rw [if_neg k11]
  by_cases k12 : o.k = 12
  · rw [if_pos k12]
    cases hq : nextL x.lo x.hi s.l with
    | none => exact h.setT t Th.U.fin
    | some q => exact h.setT t (hx.after _ (hok.u64 q (nextL_mem hq).1).1)
  rw [if_neg k12]
  by_cases k13 : o.k = 13
  · rw [if_pos k13]; exact h.setT t (hx.from_ _ hw.key)
  rw [if_neg k13]
  by_cases k14 : o.k = 14
  · rw [if_pos k14]; exact h.setT t (y := ⟨false, false, 0, 0, x.se⟩) (Th.U.fin (x := x))
  rw [if_neg k14]
  exact h
theorem doM_nums {s : Md} {N : Nat} (hok : s.Ok N) (h : s.Nums) (t : Int) {o : Ox} (hw : o.Wf) : (doM s t o).2.Nums := by
  by_cases hr : refM s t o = 0
  · obtain ⟨t, x, rfl, hx, hc, hre, hd⟩ := refM_zero hr
    rw [hd]; exact perfM_nums hok h hx hw
  · have e : doM s t o = (⟨refM s t o, false, 0, 0, 0⟩, s) := by unfold doM; rw [if_pos hr]
    rw [e]; exact h
theorem acceptM_nums {s : Md} {N : Nat} (hok : s.Ok N) (h : s.Nums) (t : Int) {o : Ox} (hw : o.Wf) {r : Rs} (hk : 0 ≤ r.key ∧ r.key < 18446744073709551616) : (acceptM s t o r).2.Nums := by
  unfold acceptM
  by_cases hr : refM s t o = 0
  · obtain ⟨t, x, rfl, hx, hc, hre, -⟩ := refM_zero hr
    have hxo := h.2 x (List.mem_of_getElem? hx)
    rw [if_neg (by simpa using hr), Int.toNat_natCast, hx]
    simp only
    split
    · exact h
    · split
      · split
        · exact h.setT t Th.U.fin
        · split
          · exact h.setT t (hxo.after _ hk)
          · exact h
      · split
        · exact h
        · split
          · exact perfM_nums hok h hx hw
          · exact h
  · rw [if_pos hr]; exact h
theorem acceptM_len (s : Md) (t : Int) (o : Ox) (r : Rs) : (acceptM s t o r).2.th.length = s.th.length := by
  by_cases hr : refM s t o = 0
  · obtain ⟨t, x, rfl, hx, hc, hre, hd⟩ := refM_zero hr
    have hl := (doM_len s (t : Int) o).1
    rw [hd] at hl
    unfold acceptM
    rw [if_neg (by simpa using hr), Int.toNat_natCast, hx]
    simp only
    split
    · rfl
    · split
      · split
        · simp
        · split
          · simp
          · rfl
      · split
        · rfl
        · split
          · exact hl
          · rfl
  · unfold acceptM; rw [if_pos hr]
/-- Models in new memory, none touching another, beside blocks of the law's own. -/
def Lw (w : World) (N : Nat) (ms : List (Nat × Md)) (K : List (Nat × Obj)) (W : World) : Prop :=
  Nw w W ∧ ∃ ps : List Pl, ps.length = ms.length ∧
    (∀ (i : Nat) (p : Pl) (m : Nat × Md), ps[i]? = some p → ms[i]? = some m → p.gm = m.1 ∧ MAt W p m.2 ∧ m.2.Ok N ∧ m.2.Nums ∧ (0 < m.2.th.length) ∧ ∀ g ∈ p.foot, w.heap.size ≤ g) ∧
    (∀ (i j : Nat) (p q : Pl), ps[i]? = some p → ps[j]? = some q → i ≠ j → ∀ g ∈ p.foot, g ∉ q.foot) ∧
    (∀ x ∈ K, W.heap[x.1]? = some x.2 ∧ ∀ p ∈ ps, x.1 ∉ p.foot)
section
variable {w W W' : World} {N : Nat} {ms : List (Nat × Md)} {K : List (Nat × Obj)}
theorem Lw.nw (h : Lw w N ms K W) : Nw w W := h.1
theorem Lw.block (h : Lw w N ms K W) {b : Nat} {o : Obj} (hb : (b, o) ∈ K) : W.heap[b]? = some o := by
  obtain ⟨_, ps, _, _, _, hK⟩ := h; exact (hK _ hb).1
theorem Lw.cell (h : Lw w N ms K W) {b : Nat} {c : Array Value} {T : TypeId} {fz : Nat × Nat} (hb : (b, .cells c T fz) ∈ K) (i : Nat) : W.cell? ⟨b, i, none⟩ = c[i]? := Lib.cell_of_heap (h.block hb) i
theorem Lw.at (h : Lw w N ms K W) {i gm : Nat} {s : Md} (hi : ms[i]? = some (gm, s)) : ∃ p : Pl, p.gm = gm ∧ MAt W p s ∧ s.Ok N ∧ s.Nums ∧ 0 < s.th.length ∧ ∀ g ∈ p.foot, w.heap.size ≤ g := by
  obtain ⟨_, ps, hl, hA, _, _⟩ := h
  have hlt := (List.getElem?_eq_some_iff.1 hi).1
  obtain ⟨p, hp⟩ : ∃ p, ps[i]? = some p := ⟨_, List.getElem?_eq_getElem (by omega)⟩
  exact ⟨p, hA i p _ hp hi⟩
theorem Lw.im (h : Lw w N ms K W) {i gm : Nat} {s : Md} (hi : ms[i]? = some (gm, s)) : gm < W.heap.size := by
  obtain ⟨p, rfl, h1, _⟩ := h.at hi; exact h1.im
theorem Lw.low {ps : List Pl} (hl : ps.length = ms.length) (hA : ∀ (i : Nat) (p : Pl) (m : Nat × Md), ps[i]? = some p → ms[i]? = some m → p.gm = m.1 ∧ MAt W p m.2 ∧ m.2.Ok N ∧ m.2.Nums ∧ (0 < m.2.th.length) ∧ ∀ g ∈ p.foot, w.heap.size ≤ g) {p : Pl} (hp : p ∈ ps) {g : Nat} (hg : g ∈ p.foot) : g < W.heap.size := by
  obtain ⟨i, hi⟩ := List.mem_iff_getElem?.1 hp
  have hlt2 := (List.getElem?_eq_some_iff.1 hi).1
  obtain ⟨m, hm⟩ : ∃ m, ms[i]? = some m := ⟨_, List.getElem?_eq_getElem (by omega)⟩
  exact (hA i p m hi hm).2.1.lt hg
theorem Lw.grow (h : Lw w N ms K W) (hn : Nw W W') : Lw w N ms K W' := by
  obtain ⟨h0, ps, hl, hA, hD, hK⟩ := h
  exact ⟨h0.trans hn, ps, hl, fun i p m hp hm => by
    obtain ⟨a, b, c, d, e, f⟩ := hA i p m hp hm
    exact ⟨a, b.nw hn, c, d, e, f⟩, hD, fun x hx => ⟨nw_cells hn (hK x hx).1, (hK x hx).2⟩⟩
/-- One block more that is kept. -/
theorem Lw.keep (h : Lw w N ms K W) (hn : Nw W W') {b : Nat} {o : Obj} (hb : W'.heap[b]? = some o) (hlt : W.heap.size ≤ b) : Lw w N ms ((b, o) :: K) W' := by
  obtain ⟨h0, ps, hl, hA, hD, hK⟩ := h
  refine ⟨h0.trans hn, ps, hl, fun i p m hp hm => by
    obtain ⟨a, b, c, d, e, f⟩ := hA i p m hp hm
    exact ⟨a, b.nw hn, c, d, e, f⟩, hD, fun x hx => ?_⟩
  rcases List.mem_cons.1 hx with rfl | hx
  · exact ⟨hb, fun p hp hg => by have := Lw.low hl hA hp hg; simp only at this; omega⟩
  · exact ⟨nw_cells hn (hK x hx).1, (hK x hx).2⟩
/-- A block that was there all along is kept, too. -/
theorem Lw.old (h : Lw w N ms K W) {b : Nat} {o : Obj} (hb : w.heap[b]? = some o) : Lw w N ms ((b, o) :: K) W := by
  obtain ⟨h0, ps, hl, hA, hD, hK⟩ := h
  refine ⟨h0, ps, hl, hA, hD, fun x hx => ?_⟩
  rcases List.mem_cons.1 hx with rfl | hx
  · refine ⟨nw_cells h0 hb, fun p hp hg => ?_⟩
    obtain ⟨i, hi⟩ := List.mem_iff_getElem?.1 hp
    have hlt2 := (List.getElem?_eq_some_iff.1 hi).1
    obtain ⟨m, hm⟩ : ∃ m, ms[i]? = some m := ⟨_, List.getElem?_eq_getElem (by omega)⟩
    have h1 := (hA i p m hi hm).2.2.2.2.2 _ hg
    have h2 := (Array.getElem?_eq_some_iff.1 hb).1
    simp only at h1 h2
    omega
  · exact hK x hx
/-- One of the models is worked on. -/
theorem Lw.run (h : Lw w N ms K W) {i gm : Nat} {s : Md} (hi : ms[i]? = some (gm, s)) :
    ∃ p : Pl, p.gm = gm ∧ MAt W p s ∧ s.Ok N ∧ s.Nums ∧ 0 < s.th.length ∧ ∀ (s' : Md) (p' : Pl) (W' : World) (N' : Nat), MUp W p s' p' W' → N ≤ N' → s'.Ok N' → s'.Nums → 0 < s'.th.length → Lw w N' (ms.set i (gm, s')) K W' := by
  obtain ⟨h0, ps, hl, hA, hD, hK⟩ := h
  have hlt := (List.getElem?_eq_some_iff.1 hi).1
  obtain ⟨p, hp⟩ : ∃ p, ps[i]? = some p := ⟨_, List.getElem?_eq_getElem (by omega)⟩
  obtain ⟨a, b, c, d, e, f⟩ := hA i p _ hp hi
  refine ⟨p, a, b, c, d, e, fun s' p' W' N' hu hN hok hnu hth => ⟨nw_chg2 h0 hu.chg f, ps.set i p', by simp [hl], fun j q m hq hm => ?_, fun j k q r hq hr hjk g hg => ?_, fun x hx => ?_⟩⟩
  · by_cases hij : i = j
    · subst hij
      rw [List.getElem?_set_self (by omega)] at hq hm
      cases hq; cases hm
      refine ⟨hu.gm.trans a, hu.at', hok, hnu, hth, fun g hg => ?_⟩
      rcases hu.mv g hg with h1 | h1
      · exact f g h1
      · exact Nat.le_trans h0.grown.size h1
    · rw [List.getElem?_set_ne hij] at hq hm
      obtain ⟨a2, b2, c2, d2, e2, f2⟩ := hA j q m hq hm
      exact ⟨a2, b2.chg hu.chg (fun g hg => hD j i q p hq hp (Ne.symm hij) g hg), c2.mono hN, d2, e2, f2⟩
  · by_cases hij : i = j
    · subst hij
      rw [List.getElem?_set_self (by omega)] at hq
      rw [List.getElem?_set_ne hjk] at hr
      cases hq
      rcases hu.mv g hg with h1 | h1
      · exact hD i k p r hp hr hjk g h1
      · intro h2
        have := Lw.low hl hA (List.mem_of_getElem? hr) h2
        omega
    · rw [List.getElem?_set_ne hij] at hq
      by_cases hik : i = k
      · subst hik
        rw [List.getElem?_set_self (by omega)] at hr
        cases hr
        intro h2
        rcases hu.mv g h2 with h1 | h1
        · exact hD j i q p hq hp hjk g hg h1
        · have := Lw.low hl hA (List.mem_of_getElem? hq) hg
          omega
      · rw [List.getElem?_set_ne hik] at hr
        exact hD j k q r hq hr hjk g hg
  · have hxl := (Array.getElem?_eq_some_iff.1 (hK x hx).1).1
    refine ⟨(hu.chg.block x.1 hxl ((hK x hx).2 p (List.mem_of_getElem? hp))).trans (hK x hx).1, fun q hq hg => ?_⟩
    rcases List.mem_or_eq_of_mem_set hq with h1 | rfl
    · exact (hK x hx).2 q h1 hg
    · rcases hu.mv _ hg with h1 | h1
      · exact (hK x hx).2 p (List.mem_of_getElem? hp) h1
      · omega
/-- One model more. -/
theorem Lw.add (h : Lw w N ms K W) (hn : Nw W W') {p : Pl} {s : Md} (hp : MAt W' p s) (hf : ∀ g ∈ p.foot, W.heap.size ≤ g) (hok : s.Ok N) (hnu : s.Nums) (hth : 0 < s.th.length) : Lw w N (ms ++ [(p.gm, s)]) K W' := by
  obtain ⟨h0, ps, hl, hA, hD, hK⟩ := h
  refine ⟨h0.trans hn, ps ++ [p], by simp [hl], fun j q m hq hm => ?_, fun j k q r hq hr hjk g hg => ?_, fun x hx => ?_⟩
  · by_cases hj : j < ps.length
    · rw [List.getElem?_append_left hj] at hq
      rw [List.getElem?_append_left (by omega)] at hm
      obtain ⟨a, b, c, d, e, f⟩ := hA j q m hq hm
      exact ⟨a, b.nw hn, c, d, e, f⟩
    · rw [List.getElem?_append_right (by omega)] at hq
      rw [List.getElem?_append_right (by omega)] at hm
      have e1 : j - ps.length = 0 := by have := (List.getElem?_eq_some_iff.1 hq).1; simp at this; omega
      rw [e1] at hq
      rw [← hl, e1] at hm
      simp at hq hm
      subst hq hm
      exact ⟨rfl, hp, hok, hnu, hth, fun g hg => Nat.le_trans h0.grown.size (hf g hg)⟩
  · have hend : ∀ (z : Nat) (y : Pl), (ps ++ [p])[z]? = some y → (z < ps.length ∧ ps[z]? = some y) ∨ (z = ps.length ∧ y = p) := fun z y hz => by
      by_cases hj : z < ps.length
      · rw [List.getElem?_append_left hj] at hz; exact .inl ⟨hj, hz⟩
      · rw [List.getElem?_append_right (by omega)] at hz
        have e1 : z - ps.length = 0 := by have := (List.getElem?_eq_some_iff.1 hz).1; simp at this; omega
        rw [e1] at hz
        simp at hz
        exact .inr ⟨by omega, hz.symm⟩
    rcases hend j q hq with ⟨hj, hq'⟩ | ⟨hj, hqp⟩
    · rcases hend k r hr with ⟨hk, hr'⟩ | ⟨hk, hrp⟩
      · exact hD j k q r hq' hr' hjk g hg
      · intro h2
        have h3 := Lw.low hl hA (List.mem_of_getElem? hq') hg
        have h4 := hf g (hrp ▸ h2)
        omega
    · rcases hend k r hr with ⟨hk, hr'⟩ | ⟨hk, hrp⟩
      · intro h2
        have h3 := Lw.low hl hA (List.mem_of_getElem? hr') h2
        have h4 := hf g (hqp ▸ hg)
        omega
      · omega
  · refine ⟨nw_cells hn (hK x hx).1, fun q hq hg => ?_⟩
    have hxl := (Array.getElem?_eq_some_iff.1 (hK x hx).1).1
    rcases List.mem_append.1 hq with h1 | h1
    · exact (hK x hx).2 q h1 hg
    · simp at h1; subst h1
      have := hf _ hg; omega
/-- The calls. -/
theorem do_Lw (h : Lw w N ms K W) (hN : N ≤ 500000) {i gm : Nat} {s : Md} (hi : ms[i]? = some (gm, s)) (t : Int) (o : Ox) (hw : o.Wf) :
    Calls Tryd.prog 9 #[.pointer (some ⟨gm, 0, none⟩), .int .i64 t, opV o] W fun e W' => e = .returned (resV (doM s t o).1) ∧ Lw w (N + 1) (ms.set i (gm, (doM s t o).2)) K W' := by
  obtain ⟨p, rfl, h1, h2, h3, h4, h5⟩ := h.run hi
  refine (do_any W p s h1 h2 hN t o hw).mono ?_
  rintro e W' ⟨rfl, p', hu⟩
  exact ⟨rfl, h5 _ _ _ _ hu (Nat.le_succ N) (doM_ok h2 t hw) (doM_nums h2 h3 t hw) (by rw [(doM_len s t o).1]; exact h4)⟩
theorem copy_Lw (h : Lw w N ms K W) (hN : N ≤ 500000) {i gm : Nat} {s : Md} (hi : ms[i]? = some (gm, s)) :
    Calls Tryd.prog 8 #[.pointer (some ⟨gm, 0, none⟩)] W fun e W' => ∃ gq, e = .returned (.pointer (some ⟨gq, 0, none⟩)) ∧ Lw w N (ms ++ [(gq, s)]) K W' := by
  obtain ⟨p, rfl, h1, h2, h3, h4, h5⟩ := h.at hi
  refine (copy_M W p s h1 (by have := h2.len; omega) h4 h2.thn).mono ?_
  rintro e W' ⟨gq, rfl, p', rfl, hm, hf, hn⟩
  exact ⟨_, rfl, h.add hn hm hf h2 h3 h4⟩
theorem key_Lw (h : Lw w N ms K W) (hN : N ≤ 500000) (H : FmtAt w) {i gm : Nat} {s : Md} (hi : ms[i]? = some (gm, s)) :
    Calls Tryd.prog 10 #[.pointer (some ⟨gm, 0, none⟩)] W fun e W' => e = .returned (.string ⟨(keyB s).toArray⟩) ∧ Nw W W' := by
  obtain ⟨p, rfl, h1, h2, h3, h4, h5⟩ := h.at hi
  exact key_M W p s h1 h2 hN h3 (H.nw h.nw)
/-- A slice of pairs that is kept. -/
def PV (K : List (Nat × Obj)) (A : Option Addr) (n : Nat) (l : List (Int × Int)) : Prop := n = l.length ∧ (n = 0 ∨ ∃ g cap cur, A = some ⟨g, 0, none⟩ ∧ (g, Obj.cells cur 78) ∈ K ∧ n ≤ cap ∧ cur.size = cap * 2 ∧ cur.toList.take (n * 2) = pcells l)
theorem PV.more {K K' : List (Nat × Obj)} {A : Option Addr} {n : Nat} {l : List (Int × Int)} (h : PV K A n l) (hs : ∀ x ∈ K, x ∈ K') : PV K' A n l := by
  refine ⟨h.1, h.2.imp id ?_⟩
  rintro ⟨g, cap, cur, h1, h2, h3⟩
  exact ⟨g, cap, cur, h1, hs _ h2, h3⟩
theorem PV.rd {A : Option Addr} {n : Nat} {l : List (Int × Int)} (hp : PV K A n l) (h : Lw w N ms K W) : Rd W 2 A n (pcells l) := by
  obtain ⟨rfl, hp⟩ := hp
  refine ⟨pcells_len l, fun h0 => ?_⟩
  rcases hp with h1 | ⟨g, cap, cur, rfl, h2, h3, h4, h5⟩
  · omega
  · refine ⟨g, 0, rfl, (Array.getElem?_eq_some_iff.1 (h.block h2)).1, fun j u hu => ?_⟩
    rw [Nat.zero_add, h.cell h2 j]
    have hj := (List.getElem?_eq_some_iff.1 hu).1
    rw [← h5, List.getElem?_take] at hu
    split at hu
    · simpa using hu
    · cases hu
theorem pairs_Lw (h : Lw w N ms K W) (hN : N ≤ 500000) {i gm : Nat} {s : Md} (hi : ms[i]? = some (gm, s)) :
    Calls Tryd.prog 12 #[.pointer (some ⟨gm, 0, none⟩)] W fun e W' => ∃ A c K', e = .returned (.slice A s.l.length c) ∧ (∀ x ∈ K, x ∈ K') ∧ PV K' A s.l.length s.l ∧ Lw w N ms K' W' ∧ Nw W W' := by
  obtain ⟨p, rfl, h1, h2, h3, h4, h5⟩ := h.at hi
  refine (pairs_M W p s h1 (by have := h2.len; omega)).mono ?_
  rintro e W' ⟨v', rfl, hown, hn⟩
  rcases hown.2 with ⟨rfl, h0⟩ | ⟨g, cap, cur, rfl, hb, hg, hnc, hcm, hcs, ht⟩
  · exact ⟨none, 0, K, by rw [h0], fun x hx => hx, ⟨rfl, .inl h0⟩, h.grow hn, hn⟩
  · exact ⟨_, cap, (g, Obj.cells cur 78) :: K, rfl, fun x hx => List.mem_cons_of_mem _ hx, ⟨rfl, .inr ⟨g, cap, cur, rfl, by simp, hnc, hcs, ht⟩⟩, h.keep hn hg hb, hn⟩
end
end Go.Proofs.YtahagplegmcaaaaDoor
