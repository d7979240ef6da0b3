import Derived.Test.YtahagplegmcaaaaGreatGWm
import Derived.Test.YtahagplegmcaaaaGreatGWh
import Derived.Test.YtahagplegmcaaaaGreatGQp
set_option linter.unusedVariables false
set_option linter.unusedSimpArgs false
namespace Go.Proofs.YtahagplegmcaaaaGreat
open Go.RowKit Go.Xt
/-! The reference's Accept of any result of any operation. -/
theorem eqR_alone (er : Int) (fd : Bool) (ke va cn R : Int) : eqR er fd ke va cn R false 0 0 0 = (eqR er fd ke va cn er false 0 0 0 && (er == R)) := by
  rw [Bool.eq_iff_iff]
  simp [eqR]
  constructor
  · rintro ⟨rfl, h⟩; exact ⟨h, rfl⟩
  · rintro ⟨h, rfl⟩; exact ⟨rfl, h⟩
theorem raccept_any (w : World) (p : Pl) (cf : Cf) (s : Md) (h : RAt w p cf s) {N : Nat} (hok : s.Ok N) (hN : N ≤ 400000) (t : Int) (o : Ox) (hw : o.Wf) (r : Rs) (hk : 0 ≤ r.key ∧ r.key < 18446744073709551616) :
    Calls Tryz.prog 10 #[.pointer (some ⟨p.gm, 0, none⟩), .int .i64 t, opV o, resV r] w fun q w' => q = .returned (.bool (acceptM s t o r).1) ∧ ∃ p', RMUp w p cf (acceptM s t o r).2 p' w' := by
  have hl : s.l.length ≤ 400000 := Nat.le_trans hok.len hN
  obtain ⟨k, a, b, c, d, e, f⟩ := o
  obtain ⟨er, fd, ke, va, cn⟩ := r
  unfold opV resV
  simp only at hk ⊢
  by_cases hr : refM s t ⟨k, a, b, c, d, e, f⟩ = 0
  · obtain ⟨t, x, rfl, hx, hc, hre, -⟩ := refM_zero hr
    have hxo := (hok.th x (List.mem_of_getElem? hx)).1
    unfold acceptM
    rw [if_neg (by simpa using hr), Int.toNat_natCast, hx]
    simp only [aloneR]
    obtain ⟨al, hal⟩ : ∃ al, eqR er fd ke va cn er false 0 0 0 = al := ⟨_, rfl⟩
    obtain ⟨gv, hgv⟩ : ∃ gv, givesM s ⟨k, a, b, c, d, e, f⟩ er = gv := ⟨_, rfl⟩
    rw [hal, hgv]
    by_cases hag : (al && gv) = true
    · rw [if_pos hag]
      exact racc_gives w p cf s h hl t k a b c d e f er fd ke va cn hw x hx hr hc al gv hal hgv hag
    rw [if_neg hag]
    have hq : (al && gv) = false := by simpa using hag
    by_cases k12 : k = 12
    · subst k12
      rw [if_pos rfl]
      have hmo : x.mo = true := by
        cases hm : x.mo with
        | true => rfl
        | false =>
          exfalso
          unfold refE at hre
          simp only [hm] at hre
          revert hre
          cases x.se <;> cases x.op <;> simp
      by_cases he : (al && (er == 14)) = true
      · rw [if_pos he]
        simp only [Bool.and_eq_true, beq_iff_eq] at he
        exact racc_12e w p cf s h hl t a b c d e f er fd ke va cn hw x hx hr hc al gv hal hgv hq he.1 he.2
      rw [if_neg he]
      by_cases hz : er = 0 ∧ fd = true ∧ cn = 0
      · obtain ⟨h1, h2, h3⟩ := hz
        by_cases hh : x.lo ≤ ke ∧ ke ≤ x.hi
        · rw [if_pos ⟨h1, h2, h3, hh.1, hh.2⟩]
          exact racc_12p w p cf s h hl t a b c d e f er fd ke va cn hw x hx hr hc al gv hal hgv hq h1 h2 h3 hk hmo (hxo hmo).2.2 hh
        · rw [if_neg (fun q => hh ⟨q.2.2.2.1, q.2.2.2.2⟩)]
          exact racc_12c w p cf s h hl t a b c d e f er fd ke va cn hw x hx hr hc al gv hal hgv hq h1 h2 h3 (by
            cases hd : (decide (x.lo ≤ ke) && decide (ke ≤ x.hi)) with
            | false => rfl
            | true => simp only [Bool.and_eq_true, decide_eq_true_eq] at hd; exact absurd hd hh)
      · rw [if_neg (fun q => hz ⟨q.1, q.2.1, q.2.2.1⟩)]
        have hb2 : eqR er fd ke va cn 0 true ke va 0 = false := by
          cases hb : eqR er fd ke va cn 0 true ke va 0 with
          | false => rfl
          | true => simp [eqR] at hb; exact absurd ⟨hb.1, hb.2.1, hb.2.2⟩ hz
        cases hal2 : al with
        | false => exact racc_12af w p cf s h hl t a b c d e f er fd ke va cn hw x hx hr hc al gv hal hgv hq hal2 hb2
        | true =>
          have he14 : er ≠ 14 := fun h => he (by simp [hal2, h])
          exact racc_12at w p cf s h hl t a b c d e f er fd ke va cn hw x hx hr hc al gv hal hgv hq hal2 he14 hb2
    rw [if_neg k12]
    by_cases k15 : k = 15
    · subst k15
      rw [if_pos rfl]
      exact racc_15 w p cf s h hl t a b c d e f er fd ke va cn hw x hx hr hc al gv hal hgv hq
    rw [if_neg k15]
    obtain ⟨⟨e2, f2, k2, v2, c2⟩, s2, hP⟩ : ∃ r2 s2, perfM s t x ⟨k, a, b, c, d, e, f⟩ = (r2, s2) := ⟨_, _, rfl⟩
    rw [hP]
    have heq := eqR_iff ⟨e2, f2, k2, v2, c2⟩ ⟨er, fd, ke, va, cn⟩
    simp only at heq
    by_cases hb : (⟨e2, f2, k2, v2, c2⟩ : Rs) = ⟨er, fd, ke, va, cn⟩
    · rw [if_pos hb]
      rw [decide_eq_true hb] at heq
      exact racc_yes w p cf s h hl t k a b c d e f er fd ke va cn hw x hx hr hc al gv hal hgv hq hok hN k12 k15 hre e2 f2 k2 v2 c2 s2 hP heq
    · rw [if_neg hb]
      rw [decide_eq_false hb] at heq
      exact racc_no w p cf s h hl t k a b c d e f er fd ke va cn hw x hx hr hc al gv hal hgv hq hok hN k12 k15 hre e2 f2 k2 v2 c2 s2 hP heq
  · unfold acceptM
    rw [if_pos hr]
    refine (racc_ref w p cf s h hl t k a b c d e f er fd ke va cn hw hr).mono ?_
    rintro q w' ⟨rfl, hu⟩
    refine ⟨?_, hu⟩
    rw [eqR_alone]; rfl
end Go.Proofs.YtahagplegmcaaaaGreat
namespace Go.Proofs.YtahagplegmcaaaaGreat
open Go.RowKit Go.Xt
/-! The program's model beside the reference's, and boxes of the law's own. -/
structure L2 (w : World) (gm gr : Nat) (cf : Cf) (s r : Md) (N : Nat) (bs : List (Nat × List Value)) (W : World) : Prop where
  ex : ∃ p q : Pl, p.gm = gm ∧ q.gm = gr ∧ MAt W p s ∧ RAt W q cf r ∧ (∀ g ∈ p.foot, g ∉ q.foot) ∧ (∀ g ∈ p.foot, w.heap.size ≤ g) ∧ (∀ g ∈ q.foot, w.heap.size ≤ g) ∧ ∀ x ∈ bs, x.1 ∉ p.foot ∧ x.1 ∉ q.foot ∧ x.1 < W.heap.size ∧ ∀ j v, x.2[j]? = some v → W.cell? ⟨x.1, j, none⟩ = some v
  ok1 : s.Ok N
  ok2 : r.Ok N
  nw : Nw w W
section
variable {w W W' : World} {gm gr : Nat} {cf : Cf} {s r : Md} {N : Nat} {bs : List (Nat × List Value)}
theorem L2.grow (h : L2 w gm gr cf s r N bs W) (hn : Nw W W') : L2 w gm gr cf s r N bs W' := by
  obtain ⟨p, q, h1, h2, hm, hr, hd, hp, hq, hb⟩ := h.ex
  exact ⟨⟨p, q, h1, h2, hm.nw hn, hr.nw hn, hd, hp, hq, fun x hx => ⟨(hb x hx).1, (hb x hx).2.1, Nat.lt_of_lt_of_le (hb x hx).2.2.1 hn.grown.size, fun j v hv => cell_nw ((hb x hx).2.2.2 j v hv) hn⟩⟩, h.ok1, h.ok2, h.nw.trans hn⟩
theorem L2.box (h : L2 w gm gr cf s r N bs W) (cs : List Value) (T : TypeId) : L2 w gm gr cf s r N ((W.heap.size, cs) :: bs) (W.alloc (.cells cs.toArray T)) := by
  have hn : Nw W (W.alloc (.cells cs.toArray T)) := (Nw.refl _).alloc _
  obtain ⟨p, q, h1, h2, hm, hr, hd, hp, hq, hb⟩ := (h.grow hn).ex
  obtain ⟨p0, q0, a1, a2, am, ar, ad, ap, aq, ab⟩ := h.ex
  refine ⟨⟨p0, q0, a1, a2, am.nw hn, ar.nw hn, ad, ap, aq, fun x hx => ?_⟩, h.ok1, h.ok2, h.nw.trans hn⟩
  rcases List.mem_cons.1 hx with rfl | hx
  · exact ⟨fun e => Nat.lt_irrefl _ (am.lt e), fun e => Nat.lt_irrefl _ (ar.lt e), by simp, fun j v hv => by rw [World.cell?_alloc_new]; simpa using hv⟩
  · exact ⟨(ab x hx).1, (ab x hx).2.1, Nat.lt_of_lt_of_le (ab x hx).2.2.1 hn.grown.size, fun j v hv => cell_nw ((ab x hx).2.2.2 j v hv) hn⟩
theorem L2.cells (h : L2 w gm gr cf s r N bs W) {b : Nat} {cs : List Value} (hx : (b, cs) ∈ bs) {j : Nat} {v : Value} (hv : cs[j]? = some v) : W.cell? ⟨b, j, none⟩ = some v := by
  obtain ⟨p, q, h1, h2, hm, hr, hd, hp, hq, hb⟩ := h.ex
  exact (hb _ hx).2.2.2 j v hv
theorem L2.bl (h : L2 w gm gr cf s r N bs W) {b : Nat} {cs : List Value} (hx : (b, cs) ∈ bs) : b < W.heap.size := by
  obtain ⟨p, q, h1, h2, hm, hr, hd, hp, hq, hb⟩ := h.ex
  exact (hb _ hx).2.2.1
theorem L2.im (h : L2 w gm gr cf s r N bs W) : gm < W.heap.size := by
  obtain ⟨p, q, rfl, rfl, hm, hr, hd, hp, hq, hb⟩ := h.ex; exact hm.im
theorem L2.ir (h : L2 w gm gr cf s r N bs W) : gr < W.heap.size := by
  obtain ⟨p, q, rfl, rfl, hm, hr, hd, hp, hq, hb⟩ := h.ex; exact hr.im
theorem L2.drop (h : L2 w gm gr cf s r N bs W) : L2 w gm gr cf s r N [] W := by
  obtain ⟨p, q, h1, h2, hm, hr, hd, hp, hq, hb⟩ := h.ex
  exact ⟨⟨p, q, h1, h2, hm, hr, hd, hp, hq, fun x hx => by cases hx⟩, h.ok1, h.ok2, h.nw⟩
theorem L2.upm {p q p' : Pl} {s' : Md} {M : Nat} (h : L2 w p.gm q.gm cf s r N bs W) (hm : MAt W p s) (hr : RAt W q cf r) (hd : ∀ g ∈ p.foot, g ∉ q.foot) (hp : ∀ g ∈ p.foot, w.heap.size ≤ g) (hq : ∀ g ∈ q.foot, w.heap.size ≤ g) (hb : ∀ x ∈ bs, x.1 ∉ p.foot ∧ x.1 ∉ q.foot ∧ x.1 < W.heap.size ∧ ∀ j v, x.2[j]? = some v → W.cell? ⟨x.1, j, none⟩ = some v) (hu : MUp W p s' p' W') (hok : s'.Ok M) (hM : N ≤ M) : L2 w p.gm q.gm cf s' r M bs W' := by
  refine ⟨⟨p', q, hu.gm, rfl, hu.at', hr.chg hu.chg (fun g hg hx => hd g hx hg), fun g hg hx => ?_, fun g hg => ?_, hq, fun x hx => ⟨fun e => ?_, (hb x hx).2.1, Nat.lt_of_lt_of_le (hb x hx).2.2.1 hu.chg.size, fun j v hv => hu.chg.cell ((hb x hx).2.2.2 j v hv) (hb x hx).1⟩⟩, hok, h.ok2.mono hM, nw_chg2 h.nw hu.chg hp⟩
  · rcases hu.mv g hg with h1 | h1
    · exact hd g h1 hx
    · have := hr.lt hx; omega
  · rcases hu.mv g hg with h1 | h1
    · exact hp g h1
    · exact Nat.le_trans h.nw.grown.size h1
  · rcases hu.mv _ e with h1 | h1
    · exact (hb x hx).1 h1
    · have := (hb x hx).2.2.1; omega
theorem L2.upr {p q q' : Pl} {r' : Md} {M : Nat} (h : L2 w p.gm q.gm cf s r N bs W) (hm : MAt W p s) (hr : RAt W q cf r) (hd : ∀ g ∈ p.foot, g ∉ q.foot) (hp : ∀ g ∈ p.foot, w.heap.size ≤ g) (hq : ∀ g ∈ q.foot, w.heap.size ≤ g) (hb : ∀ x ∈ bs, x.1 ∉ p.foot ∧ x.1 ∉ q.foot ∧ x.1 < W.heap.size ∧ ∀ j v, x.2[j]? = some v → W.cell? ⟨x.1, j, none⟩ = some v) (hu : RMUp W q cf r' q' W') (hok : r'.Ok M) (hM : N ≤ M) : L2 w p.gm q.gm cf s r' M bs W' := by
  refine ⟨⟨p, q', rfl, hu.gm, hm.chg hu.chg hd, hu.at', fun g hg hx => ?_, hp, fun g hg => ?_, fun x hx => ⟨(hb x hx).1, fun e => ?_, Nat.lt_of_lt_of_le (hb x hx).2.2.1 hu.chg.size, fun j v hv => hu.chg.cell ((hb x hx).2.2.2 j v hv) (hb x hx).2.1⟩⟩, h.ok1.mono hM, hok, nw_chg2 h.nw hu.chg hq⟩
  · rcases hu.mv g hx with h1 | h1
    · exact hd g hg h1
    · have := hm.lt hg; omega
  · rcases hu.mv g hg with h1 | h1
    · exact hq g h1
    · exact Nat.le_trans h.nw.grown.size h1
  · rcases hu.mv _ e with h1 | h1
    · exact (hb x hx).2.1 h1
    · have := (hb x hx).2.2.1; omega
end
section
variable {w W : World} {gm gr : Nat} {cf : Cf} {s r : Md} {N : Nat} {bs : List (Nat × List Value)}
theorem do_L2m (h : L2 w gm gr cf s r N bs W) (hN : N ≤ 300000) (t : Int) (o : Ox) (hw : o.Wf) :
    Calls Tryz.prog 11 #[.pointer (some ⟨gm, 0, none⟩), .int .i64 t, opV o] W fun e W' => e = .returned (resV (doM s t o).1) ∧ L2 w gm gr cf (doM s t o).2 r (N + 1) bs W' := by
  obtain ⟨p, q, rfl, rfl, hm, hr, hd, hp, hq, hb⟩ := h.ex
  refine (do_any W p s hm h.ok1 (by omega) t o hw).mono ?_
  rintro e W' ⟨rfl, p', hu⟩
  exact ⟨rfl, h.upm hm hr hd hp hq hb hu (doM_ok h.ok1 t hw) (by omega)⟩
theorem do_L2r (h : L2 w gm gr cf s r N bs W) (hN : N ≤ 300000) (t : Int) (o : Ox) (hw : o.Wf) :
    Calls Tryz.prog 12 #[.pointer (some ⟨gr, 0, none⟩), .int .i64 t, opV o] W fun e W' => e = .returned (resV (doM r t o).1) ∧ L2 w gm gr cf s (doM r t o).2 (N + 1) bs W' := by
  obtain ⟨p, q, rfl, rfl, hm, hr, hd, hp, hq, hb⟩ := h.ex
  refine (rdo_any W q cf r hr h.ok2 (by omega) t o hw).mono ?_
  rintro e W' ⟨rfl, q', hu⟩
  exact ⟨rfl, h.upr hm hr hd hp hq hb hu (doM_ok h.ok2 t hw) (by omega)⟩
theorem acc_L2m (h : L2 w gm gr cf s r N bs W) (hN : N ≤ 300000) (t : Int) (o : Ox) (hw : o.Wf) (x : Rs) (hk : 0 ≤ x.key ∧ x.key < 18446744073709551616) :
    Calls Tryz.prog 9 #[.pointer (some ⟨gm, 0, none⟩), .int .i64 t, opV o, resV x] W fun e W' => e = .returned (.bool (acceptM s t o x).1) ∧ L2 w gm gr cf (acceptM s t o x).2 r (N + 1) bs W' := by
  obtain ⟨p, q, rfl, rfl, hm, hr, hd, hp, hq, hb⟩ := h.ex
  refine (accept_any W p s hm h.ok1 (by omega) t o hw x hk).mono ?_
  rintro e W' ⟨rfl, p', hu⟩
  exact ⟨rfl, h.upm hm hr hd hp hq hb hu (acceptM_ok h.ok1 t hw hk.1) (by omega)⟩
theorem acc_L2r (h : L2 w gm gr cf s r N bs W) (hN : N ≤ 300000) (t : Int) (o : Ox) (hw : o.Wf) (x : Rs) (hk : 0 ≤ x.key ∧ x.key < 18446744073709551616) :
    Calls Tryz.prog 10 #[.pointer (some ⟨gr, 0, none⟩), .int .i64 t, opV o, resV x] W fun e W' => e = .returned (.bool (acceptM r t o x).1) ∧ L2 w gm gr cf s (acceptM r t o x).2 (N + 1) bs W' := by
  obtain ⟨p, q, rfl, rfl, hm, hr, hd, hp, hq, hb⟩ := h.ex
  refine (raccept_any W q cf r hr h.ok2 (by omega) t o hw x hk).mono ?_
  rintro e W' ⟨rfl, q', hu⟩
  exact ⟨rfl, h.upr hm hr hd hp hq hb hu (acceptM_ok h.ok2 t hw hk.1) (by omega)⟩
end
end Go.Proofs.YtahagplegmcaaaaGreat
