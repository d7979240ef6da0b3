import Derived.Test.YtahagplegmcaaaaGreatDoorGVs
import Derived.Test.YtahagplegmcaaaaGreatDoorGVq
import Derived.Test.YtahagplegmcaaaaGreatDoorGQj
import Derived.Test.YtahagplegmcaaaaGreatDoorGQl
set_option linter.unusedVariables false
set_option linter.unusedSimpArgs false
set_option linter.unnecessarySimpa false
namespace Go.Proofs.YtahagplegmcaaaaGreatDoor
open Go.RowKit Go.Xt
/-! The reference's model: Do of kind 12; Do of any operation. -/
set_option maxRecDepth 20000 in
set_option maxHeartbeats 8000000 in
theorem rdo_k12 (w : World) (p : Pl) (cf : Cf) (s : Md) (h : RAt w p cf s) (t : Nat) (x : Th) (ht : s.th[t]? = some x) (a b c d e f : Int) (hw : Ox.Wf ⟨12, a, b, c, d, e, f⟩) (hr : refM s t ⟨12, a, b, c, d, e, f⟩ = 0) (er : Int) (fd : Bool) (ke va cn : Int) (st : Md) (HG : ∀ W, Nw w W → Calls Tryz.prog 29 #[.pointer (some ⟨p.gm, 0, none⟩), .pointer (some ⟨p.gt, t * 5, none⟩)] W fun q w' => q = .returned (res5 er fd ke va cn) ∧ ∃ p', RMUp W p cf st p' w') :
    Calls Tryz.prog 9 #[.pointer (some ⟨p.gm, 0, none⟩), .int .i64 t, opV ⟨12, a, b, c, d, e, f⟩] w fun q w' => q = .returned (resV ⟨er, fd, ke, va, cn⟩) ∧ ∃ p', RMUp w p cf st p' w' := by
  have HR := Lib.hid (fun W (hn : Nw w W) => rrefusal_any W p cf s (h.nw hn) t ⟨12, a, b, c, d, e, f⟩ hw)
  have H := Lib.hid h
  have HT := Lib.hid ht
  obtain ⟨p0, _⟩ := List.getElem?_eq_some_iff.1 ht
  have im := h.im
  have it := h.it
  rw [hr] at HR
  have HG := Lib.hid HG
  obtain ⟨gm, gt, gp, v⟩ := p
  unfold opV at HR ⊢
  unfold resV
  simp only at HR HG im it ⊢
  clear h hr hw ht
  obtain ⟨W2, hW2⟩ : ∃ W2, W2 = (w.alloc (.cells #[.int .u8 12, .int .u64 a, .int .u64 b, .int .u64 c, .int .u64 d, .int .u64 e, .int .u64 f] 45)).alloc (.cells #[.int .i64 0, .bool false, .int .u64 0, .int .u64 0, .int .i64 0] 42) := ⟨_, rfl⟩
  have hn2 : Nw w W2 := by rw [hW2]; exact (by repeat (first | exact Xt.Nw.refl _ | refine Xt.Nw.drew ?_ | refine Xt.Nw.drewN ?_ _ | refine Xt.Nw.alloc ?_ _ | refine Xt.Nw.joined ?_ | refine Xt.Nw.drewd ?_ | refine Xt.Nw.drewdN ?_ | refine Xt.Nw.ext ?_ | refine Xt.Nw.ext_some ?_ (by assumption) | refine Xt.Nw.setCell ?_ (by simp [go_sem] <;> omega) _))
  have hf2 : Fr w W2 ⟨12, a, b, c, d, e, f⟩ := by rw [hW2]; exact Fr.made w 12 a b c d e f
  have HF2 := Lib.hid hf2
  have HN2 := Lib.hid hn2
  have HW2 := Lib.hid hW2
  haveI : In gm w := ⟨im⟩
  clear hn2 hW2 hf2
  go_enter Tryz.func9, Tryz.ntmps9
  go_wp2_with fail
  rw [← HW2.out]
  refine (HR.out W2 HN2.out).mono ?_
  rintro r W3 ⟨rfl, hn3⟩
  have hn : Nw w W3 := HN2.out.trans hn3
  have h3 := H.out.nw hn
  obtain ⟨ct, m2⟩ := h3.m2
  have m1 : W3.cell? ⟨gm, 16, none⟩ = some (.pointer (some ⟨gp, 0, none⟩)) := h3.m1
  obtain ⟨c0, c1, c2, c3, c4⟩ := (h3.th : RThR W3 gt s.th).cells HT.out
  have y0 : W3.frozen? ⟨gt, t * 5, none⟩ = false := (h3.th : RThR W3 gt s.th).frozen _
  have y1 : W3.frozen? ⟨gt, t * 5 + 1, none⟩ = false := (h3.th : RThR W3 gt s.th).frozen _
  have y2 : W3.frozen? ⟨gt, t * 5 + 2, none⟩ = false := (h3.th : RThR W3 gt s.th).frozen _
  have y3 : W3.frozen? ⟨gt, t * 5 + 3, none⟩ = false := (h3.th : RThR W3 gt s.th).frozen _
  have y4 : W3.frozen? ⟨gt, t * 5 + 3 + 1, none⟩ = false := (h3.th : RThR W3 gt s.th).frozen _
  have HF3 := Lib.hid (HF2.out.nw hn3)
  obtain ⟨hs3, q0, q1, q2, q3, q4, q5, q6, r0, r1, r2, r3, r4, z0, z1, z2, z3, z4⟩ := HF2.out.nw hn3
  have im3 : gm < W3.heap.size := h3.im
  have it3 : gt < W3.heap.size := h3.it
  have HN3 := Lib.hid hn
  have HS3 := Lib.hid hs3
  have H3 := Lib.hid h3
  have ne1 : gt ≠ w.heap.size := Nat.ne_of_lt it
  have ne2 : gt ≠ w.heap.size + 1 := by omega
  haveI : In gm W3 := ⟨im3⟩
  haveI : In gt W3 := ⟨it3⟩
  haveI : In w.heap.size W3 := ⟨by omega⟩
  haveI : In (w.heap.size + 1) W3 := ⟨hs3⟩
  have t1 : (t : Int) < (s.th.length : Int) := by omega
  have t0 : (0 : Int) ≤ (t : Int) := by omega
  simp only at m2 q0 q1 q2 q3 q4 q5 q6
  clear hn h3 hn3 hs3 HR
  obtain ⟨W4, hW4⟩ : ∃ W4, W4 = (W3.alloc (.cells #[.int .i64 0, .bool false, .int .u64 0, .int .u64 0, .int .i64 0] 42)).alloc (.cells #[.int .u64 a, .int .u64 b] 71) := ⟨_, rfl⟩
  have hn4 : Nw W3 W4 := by rw [hW4]; exact (by repeat (first | exact Xt.Nw.refl _ | refine Xt.Nw.drew ?_ | refine Xt.Nw.drewN ?_ _ | refine Xt.Nw.alloc ?_ _ | refine Xt.Nw.joined ?_ | refine Xt.Nw.drewd ?_ | refine Xt.Nw.drewdN ?_ | refine Xt.Nw.ext ?_ | refine Xt.Nw.ext_some ?_ (by assumption) | refine Xt.Nw.setCell ?_ (by simp [go_sem] <;> omega) _))
  have v0 : W4.cell? ⟨W3.heap.size, 0, none⟩ = some (.int .i64 0) := by rw [hW4]; simp [go_sem]
  have v1 : W4.cell? ⟨W3.heap.size, 1, none⟩ = some (.bool false) := by rw [hW4]; simp [go_sem]
  have v2 : W4.cell? ⟨W3.heap.size, 2, none⟩ = some (.int .u64 0) := by rw [hW4]; simp [go_sem]
  have v3 : W4.cell? ⟨W3.heap.size, 3, none⟩ = some (.int .u64 0) := by rw [hW4]; simp [go_sem]
  have v4 : W4.cell? ⟨W3.heap.size, 4, none⟩ = some (.int .i64 0) := by rw [hW4]; simp [go_sem]
  have g1 := cell_nw m1 hn4
  have g2 := cell_nw q1 hn4
  have HB4 := Lib.hid (show W3.heap.size < W4.heap.size by rw [hW4]; simp [go_sem])
  have xz1 := Lib.hid (show W4.frozen? ⟨W3.heap.size, 1, none⟩ = false by rw [hW4]; simp [go_sem])
  have xz3 := Lib.hid (show W4.frozen? ⟨W3.heap.size, 3, none⟩ = false by rw [hW4]; simp [go_sem])
  have HW4 := Lib.hid hW4
  have HN4 := Lib.hid hn4
  clear hW4 hn4
  go_wp2_with fail
  rw [← HW4.out]
  refine (HG.out W4 (HN3.out.trans HN4.out)).mono ?_
  rintro r W5 ⟨rfl, p', hu⟩
  have hff : ∀ g, g ∈ (⟨gm, gt, gp, v⟩ : Pl).foot → g < w.heap.size := fun g hg => H.out.lt hg
  have hwf : w.heap.size ∉ (⟨gm, gt, gp, v⟩ : Pl).foot := fun e => Nat.lt_irrefl _ (hff _ e)
  have hwf1 : w.heap.size + 1 ∉ (⟨gm, gt, gp, v⟩ : Pl).foot := fun e => by have := hff _ e; omega
  obtain ⟨hs5, -, -, -, -, -, -, -, r0, r1, r2, r3, r4, z0, z1, z2, z3, z4⟩ := (HF3.out.nw HN4.out).chg hu.chg hwf hwf1
  haveI : In (w.heap.size + 1) W5 := ⟨hs5⟩
  have HU := Lib.hid (RMUp.after HN4.out hu)
  clear hu hff hwf hwf1 v0 v1 v2 v3 v4 g1 g2
  go_wp2
  refine bodyPost_ret (v := res5 er fd ke va cn) ?_ rfl ⟨rfl, _, RMUp.res HN3.out (Nat.le_succ _) HS3.out H.out HU.out ⟨er, fd, ke, va, cn⟩⟩
  simp [results, Tryz.results9, go_sem, r0, r1, r2, r3, r4]
theorem rdo_done (w : World) (p : Pl) (cf : Cf) (s : Md) (h : RAt w p cf s) {N : Nat} (hok : s.Ok N) (hN : N ≤ 400000) (t : Nat) (x : Th) (ht : s.th[t]? = some x) (o : Ox) (hw : o.Wf) (hrm : refM s t o = 0) (hc : chkO o = 0) (hr : refE x o = 0) :
    Calls Tryz.prog 9 #[.pointer (some ⟨p.gm, 0, none⟩), .int .i64 t, opV o] w fun e w' => e = .returned (resV (perfM s t x o).1) ∧ ∃ p', RMUp w p cf (perfM s t x o).2 p' w' := by
  have hl : s.l.length ≤ 400000 := Nat.le_trans hok.len hN
  have hl5 : s.l.length ≤ 500000 := Nat.le_trans hl (by omega)
  obtain ⟨hk, hab, hby⟩ := chk_formed hc
  have hx := (hok.th x (List.mem_of_getElem? ht)).1
  obtain ⟨k, a, b, c, d, e, f⟩ := o
  have w1 := hw.key
  have w2 := hw.hi
  have w5 := hw.by_
  simp only at hk hab hby w1 w2 w5
  rcases (by omega : k = 1 ∨ k = 2 ∨ k = 3 ∨ k = 4 ∨ k = 5 ∨ k = 6 ∨ k = 7 ∨ k = 8 ∨ k = 9 ∨ k = 10 ∨ k = 11 ∨ k = 12 ∨ k = 13 ∨ k = 14 ∨ k = 15) with rfl | rfl | rfl | rfl | rfl | rfl | rfl | rfl | rfl | rfl | rfl | rfl | rfl | rfl | rfl
  · by_cases hs : s.slots ≤ (cntS s.th : Nat)
    · have e1 : perfM s t x ⟨1, a, b, c, d, e, f⟩ = (⟨10, false, 0, 0, 0⟩, s) := by simp [perfM, openE, openM, hs]
      rw [e1]; exact rdo_k1f w p cf s h t x ht a b c d e f hw hrm hok.thn hs
    · have e1 : perfM s t x ⟨1, a, b, c, d, e, f⟩ = (⟨0, false, 0, 0, 0⟩, { s with th := s.th.set t { x with se := true } }) := by simp [perfM, openE, openM, hs]
      rw [e1]; exact rdo_k1 w p cf s h t x ht a b c d e f hw hrm hok.thn hs
  · exact rdo_k2 w p cf s h t x ht a b c d e f hw hrm
  · exact rdo_k3 w p cf s h t x ht a b c d e f hw hrm hl5
  · exact rdo_k4 w p cf s h t x ht a b c d e f hw hrm hl5
  · exact rdo_k5 w p cf s h t x ht a b c d e f hw hrm hl5
  · exact rdo_k6 w p cf s h t x ht a b c d e f hw hrm hl5
  · cases hy : casB a d s.l with
    | true =>
      have e1 : perfM s t x ⟨7, a, b, c, d, e, f⟩ = (⟨0, hasK a s.l, 0, valL a s.l, 1⟩, { s with l := casL a d c s.l }) := by simp [perfM, hy]
      rw [e1]; exact rdo_k7t w p cf s h t x ht a b c d e f hw hrm hl hy
    | false =>
      have e1 : perfM s t x ⟨7, a, b, c, d, e, f⟩ = (⟨0, hasK a s.l, 0, valL a s.l, 0⟩, { s with l := casL a d c s.l }) := by simp [perfM, hy]
      rw [e1]; exact rdo_k7f w p cf s h t x ht a b c d e f hw hrm hl hy
  · exact rdo_k8 w p cf s h t x ht a b c d e f hw hrm hl (hab rfl) w1.1 (by have := (hby rfl).1; omega) (by have := (hby rfl).2; omega)
  · exact rdo_k9 w p cf s h t x ht a b c d e f hw hrm hl (hab rfl)
  · exact rdo_k10 w p cf s h t x ht a b c d e f hw hrm
  · exact rdo_k11 w p cf s h t x ht a b c d e f hw hrm
  · have hmo : x.mo = true := by
      cases hm : x.mo with
      | true => rfl
      | false =>
        exfalso
        unfold refE at hr
        simp only [hm] at hr
        revert hr
        cases x.se <;> cases x.op <;> simp
    have hlx := (hx hmo).2.1
    cases hq : nextL x.lo x.hi s.l with
    | none =>
      have e1 : perfM s t x ⟨12, a, b, c, d, e, f⟩ = (⟨14, false, 0, 0, 0⟩, { s with th := s.th.set t x.fin }) := by simp [perfM, hq]
      rw [e1]
      exact rdo_k12 w p cf s h t x ht a b c d e f hw hrm 14 false 0 0 0 _ (fun W hw => rnext0 W p cf s (h.nw hw) t x ht hl5 hlx hq)
    | some q =>
      obtain ⟨qk, qv⟩ := q
      have e1 : perfM s t x ⟨12, a, b, c, d, e, f⟩ = (⟨0, true, qk, qv, 0⟩, { s with th := s.th.set t (x.after qk) }) := by simp [perfM, hq]
      rw [e1]
      have hqm := nextL_mem hq
      have h0 := hx hmo
      exact rdo_k12 w p cf s h t x ht a b c d e f hw hrm 0 true qk qv 0 _ (fun W hw => rnext1 W p cf s (h.nw hw) t x ht hl5 hlx hmo h0.2.2 qk qv (by simp at hqm; omega) hq)
  · have hq : x.mo = true ∧ x.lo ≤ a := by
      unfold refE at hr
      simp only at hr
      revert hr
      cases x.se <;> cases x.op <;> cases x.mo <;> simp <;> omega
    have e1 : perfM s t x ⟨13, a, b, c, d, e, f⟩ = (⟨0, false, 0, 0, 0⟩, { s with th := s.th.set t (if x.hi < a then x.fin else { x with lo := a }) }) := by simp [perfM, Th.from_in hq.1 hq.2]
    rw [e1]; exact rdo_k13 w p cf s h t x ht a b c d e f hw hrm
  · exact rdo_k14 w p cf s h t x ht a b c d e f hw hrm
  · exact rdo_k15 w p cf s h t x ht a b c d e f hw hrm
/-- Do of the reference, of any operation of any thread. -/
theorem rdo_any (w : World) (p : Pl) (cf : Cf) (s : Md) (h : RAt w p cf s) {N : Nat} (hok : s.Ok N) (hN : N ≤ 400000) (t : Int) (o : Ox) (hw : o.Wf) :
    Calls Tryz.prog 9 #[.pointer (some ⟨p.gm, 0, none⟩), .int .i64 t, opV o] w fun e w' => e = .returned (resV (doM s t o).1) ∧ ∃ p', RMUp w p cf (doM s t o).2 p' w' := by
  by_cases hr : refM s t o = 0
  · have h0 : ¬ (t < 0 ∨ (s.th.length : Int) ≤ t) := fun h0 => by unfold refM at hr; rw [if_pos h0] at hr; cases hr
    have hc : chkO o = 0 := by
      rcases Decidable.em (chkO o = 0) with h1 | h1
      · exact h1
      · unfold refM at hr; rw [if_neg h0, if_pos h1] at hr; exact hr
    obtain ⟨t, rfl⟩ : ∃ n : Nat, t = n := ⟨t.toNat, by omega⟩
    obtain ⟨x, hx⟩ : ∃ x, s.th[t]? = some x := ⟨_, List.getElem?_eq_getElem (by omega)⟩
    have ett : ((t : Int)).toNat = t := rfl
    have hr2 : refE x o = 0 := by
      unfold refM at hr; rw [if_neg h0, if_neg (by simpa using hc), ett, hx] at hr; exact hr
    have e1 : doM s t o = perfM s t x o := by unfold doM; rw [if_neg (by simpa using hr), ett, hx]
    rw [e1]
    exact rdo_done w p cf s h hok hN t x hx o hw hr hc hr2
  · have e1 : doM s t o = (⟨refM s t o, false, 0, 0, 0⟩, s) := by unfold doM; rw [if_pos hr]
    rw [e1]
    refine (rdo_ref w p cf s h t o hw hr).mono ?_
    rintro e w' ⟨rfl, hn⟩
    exact ⟨rfl, _, RMUp.same h hn⟩
end Go.Proofs.YtahagplegmcaaaaGreatDoor
namespace Go.Proofs.YtahagplegmcaaaaGreatDoor
open Go.RowKit Go.Xt
/-! A scan, plain. -/
abbrev oEnd : Ox := ⟨14, 0, 0, 0, 0, 0, 0⟩
abbrev oOpen : Ox := ⟨1, 0, 0, 0, 0, 0, 0⟩
abbrev oNext : Ox := ⟨12, 0, 0, 0, 0, 0, 0⟩
abbrev oScan (lo hi : Int) : Ox := ⟨11, lo, hi, 0, 0, 0, 0⟩
abbrev oSeek (k : Int) : Ox := ⟨13, k, 0, 0, 0, 0, 0⟩
abbrev r0 : Rs := ⟨0, false, 0, 0, 0⟩
abbrev rEnd : Rs := ⟨14, false, 0, 0, 0⟩
/-- No iterator is open. -/
def Shut (s : Md) : Prop := ∃ x, s.th[0]? = some x ∧ x.op = false
/-- An iterator from a key on, or at its end. -/
def itAt (L hi : Int) : Th := if L ≤ hi then ⟨true, true, L, hi, true⟩ else ⟨true, false, 0, 0, true⟩
/-- What was returned so far, and what is still to come. -/
structure Sc (l : List (Int × Int)) (L0 hi : Int) (i : Nat) (L : Int) : Prop where
  ge : L0 ≤ L
  done : ∀ (j : Nat) (p : Int × Int), l[j]? = some p → j < i → ¬ (L ≤ p.1 ∧ p.1 ≤ hi)
  todo : ∀ (j : Nat) (p : Int × Int), l[j]? = some p → i ≤ j → L0 ≤ p.1 → p.1 ≤ hi → L ≤ p.1
theorem Sc.skip {l : List (Int × Int)} {L0 hi L : Int} {i : Nat} (h : Sc l L0 hi i L) {p : Int × Int} (hp : l[i]? = some p) (hn : ¬ (L0 ≤ p.1 ∧ p.1 ≤ hi)) : Sc l L0 hi (i + 1) L :=
  ⟨h.ge, fun j q hq hj hc => by
    rcases (by omega : j < i ∨ j = i) with h1 | rfl
    · exact h.done j q hq h1 hc
    · rw [hp] at hq; cases hq
      exact hn ⟨by have := h.ge; omega, hc.2⟩, fun j q hq hj h1 h2 => h.todo j q hq (by omega) h1 h2⟩
theorem asc_lt {l : List (Int × Int)} (ha : asc l) {i j : Nat} {p q : Int × Int} (hp : l[i]? = some p) (hq : l[j]? = some q) (hij : i < j) : p.1 < q.1 := by
  obtain ⟨h1, rfl⟩ := List.getElem?_eq_some_iff.1 hp
  obtain ⟨h2, rfl⟩ := List.getElem?_eq_some_iff.1 hq
  exact List.pairwise_iff_getElem.1 ha i j h1 h2 hij
theorem Sc.take {l : List (Int × Int)} {L0 hi L : Int} {i : Nat} (ha : asc l) (h : Sc l L0 hi i L) {p : Int × Int} (hp : l[i]? = some p) (h0 : L0 ≤ p.1) : Sc l L0 hi (i + 1) (p.1 + 1) :=
  ⟨by omega, fun j q hq hj hc => by
    rcases (by omega : j < i ∨ j = i) with h1 | rfl
    · have := asc_lt ha hq hp h1; omega
    · rw [hp] at hq; cases hq; omega, fun j q hq hj h1 h2 => by have := asc_lt ha hp hq (by omega); omega⟩
/-- The iterator's end. -/
abbrev itF : Th := ⟨true, false, 0, 0, true⟩
end Go.Proofs.YtahagplegmcaaaaGreatDoor
namespace Go.Proofs.YtahagplegmcaaaaGreatDoor
open Go.RowKit Go.Xt
/-! A model of the law's own: known. -/
/-- A model that lies in new memory. -/
def LS (w : World) (gm : Nat) (s : Md) (N : Nat) (W : World) : Prop := ∃ p : Pl, p.gm = gm ∧ MAt W p s ∧ s.Ok N ∧ (∀ g ∈ p.foot, w.heap.size ≤ g) ∧ Nw w W
theorem nw_chg2 {w W W' : World} {X : List Nat} (h : Nw w W) (hc : Chg X W W') (hx : ∀ k ∈ X, w.heap.size ≤ k) : Nw w W' :=
  .of ⟨hc.os.trans h.grown.os, hc.tape.trans h.grown.tape, hc.output.trans h.grown.output, Nat.le_trans h.grown.size hc.size, fun k hk _ => (hc.block k (Nat.lt_of_lt_of_le hk h.grown.size) (fun e => by have := hx k e; omega)).trans (h.grown.block k hk (by simp))⟩
theorem LS.nw {w W : World} {gm : Nat} {s : Md} {N : Nat} (h : LS w gm s N W) : Nw w W := by
  obtain ⟨p, _, _, _, _, h⟩ := h; exact h
theorem LS.ok {w W : World} {gm : Nat} {s : Md} {N : Nat} (h : LS w gm s N W) : s.Ok N := by
  obtain ⟨p, _, _, h, _, _⟩ := h; exact h
theorem LS.im {w W : World} {gm : Nat} {s : Md} {N : Nat} (h : LS w gm s N W) : gm < W.heap.size := by
  obtain ⟨p, rfl, h, _, _, _⟩ := h; exact h.im
theorem LS.grow {w W W' : World} {gm : Nat} {s : Md} {N : Nat} (h : LS w gm s N W) (hn : Nw W W') : LS w gm s N W' := by
  obtain ⟨p, rfl, h1, h2, h3, h4⟩ := h; exact ⟨p, rfl, h1.nw hn, h2, h3, h4.trans hn⟩
theorem LS.up {w W W' : World} {gm : Nat} {s' : Md} {N' : Nat} {p p' : Pl} (hp : p.gm = gm) (h3 : ∀ g ∈ p.foot, w.heap.size ≤ g) (h4 : Nw w W) (hu : MUp W p s' p' W') (hok : s'.Ok N') : LS w gm s' N' W' :=
  ⟨p', hu.gm.trans hp, hu.at', hok, fun g hg => by
    rcases hu.mv g hg with h | h
    · exact h3 g h
    · exact Nat.le_trans h4.grown.size h, nw_chg2 h4 hu.chg h3⟩
/-- Do. -/
theorem do_LS {w W : World} {gm : Nat} {s : Md} {N : Nat} (h : LS w gm s N W) (hN : N ≤ 500000) (t : Int) (o : Ox) (hw : o.Wf) :
    Calls Tryz.prog 8 #[.pointer (some ⟨gm, 0, none⟩), .int .i64 t, opV o] W fun e W' => e = .returned (resV (doM s t o).1) ∧ LS w gm (doM s t o).2 (N + 1) W' := by
  obtain ⟨p, rfl, h1, h2, h3, h4⟩ := h
  refine (do_any W p s h1 h2 hN t o hw).mono ?_
  rintro e W' ⟨rfl, p', hu⟩
  exact ⟨rfl, LS.up rfl h3 h4 hu (doM_ok h2 t hw)⟩
theorem new_LS (n : Nat) (sl : Int) (w W : World) (hw : Nw w W) (hn : 1 ≤ n ∧ n ≤ 8) (hs : 1 ≤ sl ∧ sl ≤ 64) :
    Calls Tryz.prog 6 #[cfgV n sl] W fun e W' => ∃ gm, e = .returned (.tuple #[.pointer (some ⟨gm, 0, none⟩), .int .i64 0]) ∧ LS w gm ⟨sl, [], List.replicate n Th0⟩ 0 W' := by
  refine (new_M n sl W hn hs).mono ?_
  rintro e W' ⟨⟨p, rfl, h1, h2⟩, hn2⟩
  exact ⟨p.gm, rfl, p, rfl, h1, ⟨Nat.le_refl _, List.Pairwise.nil, fun _ h => (by cases h), (by simp; omega), fun x hx => (by rw [List.eq_of_mem_replicate hx]; exact ⟨fun h => (by cases h), fun h => (by cases h), fun h => (by cases h)⟩)⟩, fun g hg => Nat.le_trans hw.grown.size (h2 g hg), hw.trans hn2⟩
abbrev kn0 : Md := ⟨1, [], [Th0]⟩
abbrev oPut4 : Ox := ⟨4, 4, 0, 2, 0, 0, 0⟩
abbrev oDel4 : Ox := ⟨6, 4, 0, 0, 0, 0, 0⟩
abbrev oLen : Ox := ⟨10, 0, 0, 0, 0, 0, 0⟩
theorem kn_1 : doM kn0 0 oOpen = (r0, ⟨1, [], [⟨false, false, 0, 0, true⟩]⟩) := by rfl
theorem kn_2 : doM ⟨1, [], [⟨false, false, 0, 0, true⟩]⟩ 0 oPut4 = (r0, ⟨1, [(4, 2)], [⟨false, false, 0, 0, true⟩]⟩) := by rfl
theorem kn_3 : doM ⟨1, [(4, 2)], [⟨false, false, 0, 0, true⟩]⟩ 0 oDel4 = (⟨0, true, 0, 2, 0⟩, ⟨1, [], [⟨false, false, 0, 0, true⟩]⟩) := by rfl
theorem kn_4 : doM ⟨1, [], [⟨false, false, 0, 0, true⟩]⟩ 0 oLen = (r0, ⟨1, [], [⟨false, false, 0, 0, true⟩]⟩) := by rfl
set_option maxRecDepth 20000 in
set_option maxHeartbeats 8000000 in
theorem known_M (w : World) : Calls Tryz.prog 5 #[] w fun e w' => e = .returned (.bool true) ∧ Nw w w' := by
  have HD := Lib.hid (fun (W : World) gm s N (h : LS w gm s N W) (hN : N ≤ 500000) (o : Ox) (hw : o.Wf) => do_LS h hN 0 o hw)
  unfold opV resV at HD
  go_enter Tryz.func5, Tryz.ntmps5
  go_wp2_with fail
  refine (fixed_any 1 1 _).mono ?_
  rintro e w' ⟨rfl, dF, rfl⟩
  go_wp2_with fail
  refine (new_LS 1 1 w _ ((by repeat (first | exact Xt.Nw.refl _ | refine Xt.Nw.drew ?_ | refine Xt.Nw.drewN ?_ _ | refine Xt.Nw.alloc ?_ _ | refine Xt.Nw.joined ?_ | refine Xt.Nw.drewd ?_ | refine Xt.Nw.drewdN ?_ | refine Xt.Nw.ext ?_ | refine Xt.Nw.ext_some ?_ (by assumption) | refine Xt.Nw.setCell ?_ (by simp [go_sem] <;> omega) _))) (by omega) (by omega)).mono ?_
  rintro e W3 ⟨gm, rfl, h3⟩
  have H3 := Lib.hid h3
  clear h3
  go_wp2_with fail
  have c4 := HD.out W3 gm kn0 0 H3.out (by omega) oOpen (by constructor <;> simp)
  rw [kn_1] at c4
  refine c4.mono ?_
  rintro e W4 ⟨rfl, h4⟩
  have H4 := Lib.hid h4
  clear h4 c4
  go_wp2_with fail
  have c5 := HD.out W4 gm _ _ H4.out (by omega) oPut4 (by constructor <;> simp)
  rw [kn_2] at c5
  refine c5.mono ?_
  rintro e W5 ⟨rfl, h5⟩
  have H5 := Lib.hid h5
  clear h5 c5
  go_wp2_with fail
  have c6 := HD.out W5 gm _ _ H5.out (by omega) oDel4 (by constructor <;> simp)
  rw [kn_3] at c6
  refine c6.mono ?_
  rintro e W6 ⟨rfl, h6⟩
  have H6 := Lib.hid h6
  clear h6 c6
  go_wp2_with fail
  have c7 := HD.out W6 gm _ _ H6.out (by omega) oLen (by constructor <;> simp)
  rw [kn_4] at c7
  refine c7.mono ?_
  rintro e W7 ⟨rfl, h7⟩
  have H7 := Lib.hid h7
  clear h7 c7
  go_wp2
  go_ret
  exact ⟨rfl, H7.out.nw⟩
end Go.Proofs.YtahagplegmcaaaaGreatDoor
namespace Go.Proofs.YtahagplegmcaaaaGreatDoor
open Go.RowKit Go.Xt
/-! The deeds of a law; played. -/
structure Dd where
  t : Int
  o : Ox
  j : Bool
  by_ : Int
  r : Rs
def dc (d : Dd) : List Value := [.int .i64 d.t, .int .u8 d.o.k, .int .u64 d.o.key, .int .u64 d.o.hi, .int .u64 d.o.val, .int .u64 d.o.old, .int .u64 d.o.by_, .int .u64 d.o.draw, .bool d.j, .int .u8 d.by_, .int .i64 d.r.err, .bool d.r.fd, .int .u64 d.r.key, .int .u64 d.r.val, .int .i64 d.r.cnt]
def dcells (l : List Dd) : List Value := l.flatMap dc
theorem dcells_len (l : List Dd) : (dcells l).length = l.length * 15 := by
  induction l with
  | nil => rfl
  | cons x l ih => rw [dcells, List.flatMap_cons, List.length_append, ← dcells, ih, List.length_cons]; simp [dc]; omega
theorem dcells_get : ∀ (l : List Dd) (i : Nat) (d : Dd), l[i]? = some d → ∀ j v, (dc d)[j]? = some v → (dcells l)[i * 15 + j]? = some v
  | [], i, d, h, _, _, _ => by simp at h
  | y :: l, 0, d, h, j, v, hj => by
    simp at h; subst h
    have hl := (List.getElem?_eq_some_iff.1 hj).1
    rw [dcells, List.flatMap_cons, Nat.zero_mul, Nat.zero_add, List.getElem?_append_left hl]; exact hj
  | y :: l, i + 1, d, h, j, v, hj => by
    have h2 := dcells_get l i d (by simpa using h) j v hj
    rw [dcells, List.flatMap_cons, List.getElem?_append_right (by simp [dc]; omega)]
    have e : (i + 1) * 15 + j - (dc y).length = i * 15 + j := by simp [dc]; omega
    rw [e]; exact h2
end Go.Proofs.YtahagplegmcaaaaGreatDoor
