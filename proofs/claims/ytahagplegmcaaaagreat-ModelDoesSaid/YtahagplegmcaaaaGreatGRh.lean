import Derived.Test.YtahagplegmcaaaaGreatGRg
import Derived.Test.YtahagplegmcaaaaGreatGWk
set_option linter.unusedVariables false
set_option linter.unusedSimpArgs false
namespace Go.Proofs.YtahagplegmcaaaaGreat
open Go.RowKit Go.Xt
/-! Accept of any result of any operation. -/
def aloneR (r : Rs) : Bool := eqR r.err r.fd r.key r.val r.cnt r.err false 0 0 0
/-- Accept. -/
def acceptM (s : Md) (t : Int) (o : Ox) (r : Rs) : Bool × Md :=
  if refM s t o ≠ 0 then (aloneR r && (r.err == refM s t o), s)
  else match s.th[t.toNat]? with
    | none => (false, s)
    | some x =>
      if (aloneR r && givesM s o r.err) = true then (true, s)
      else if o.k = 12 then
        if (aloneR r && (r.err == 14)) = true then (true, { s with th := s.th.set t.toNat x.fin })
        else if r.err = 0 ∧ r.fd = true ∧ r.cnt = 0 ∧ x.lo ≤ r.key ∧ r.key ≤ x.hi then (true, { s with th := s.th.set t.toNat (x.after r.key) }) else (false, s)
      else if o.k = 15 then (eqR r.err r.fd r.key r.val r.cnt 0 false 0 0 r.cnt && (decide (0 ≤ r.cnt) && decide (r.cnt ≤ 1024)), s)
      else if (perfM s t.toNat x o).1 = r then (true, (perfM s t.toNat x o).2) else (false, s)
theorem eqR_iff (a b : Rs) : eqR a.err a.fd a.key a.val a.cnt b.err b.fd b.key b.val b.cnt = decide (a = b) := by
  obtain ⟨a1, a2, a3, a4, a5⟩ := a
  obtain ⟨b1, b2, b3, b4, b5⟩ := b
  simp [eqR, Rs.mk.injEq]
theorem accept_any (w : World) (p : Pl) (s : Md) (h : MAt w p s) {N : Nat} (hok : s.Ok N) (hN : N ≤ 500000) (t : Int) (o : Ox) (hw : o.Wf) (r : Rs) (hk : 0 ≤ r.key ∧ r.key < 18446744073709551616) :
    Calls Tryz.prog 9 #[.pointer (some ⟨p.gm, 0, none⟩), .int .i64 t, opV o, resV r] w fun q w' => q = .returned (.bool (acceptM s t o r).1) ∧ ∃ p', MUp w p (acceptM s t o r).2 p' w' := by
  have hl : s.l.length ≤ 500000 := Nat.le_trans hok.len hN
  obtain ⟨k, a, b, c, d, e, f⟩ := o
  obtain ⟨er, fd, ke, va, cn⟩ := r
  unfold opV resV
  simp only at hk ⊢
  by_cases hr : refM s t ⟨k, a, b, c, d, e, f⟩ = 0
  · obtain ⟨t, x, rfl, hx, hc, hre, -⟩ := refM_zero hr
    have ht0 : 0 < s.th.length := by have := (List.getElem?_eq_some_iff.1 hx).1; omega
    unfold acceptM
    rw [if_neg (by simpa using hr), Int.toNat_natCast, hx]
    simp only [aloneR]
    obtain ⟨al, hal⟩ : ∃ al, eqR er fd ke va cn er false 0 0 0 = al := ⟨_, rfl⟩
    obtain ⟨gv, hgv⟩ : ∃ gv, givesM s ⟨k, a, b, c, d, e, f⟩ er = gv := ⟨_, rfl⟩
    rw [hal, hgv]
    by_cases hag : (al && gv) = true
    · rw [if_pos hag]
      simp only [Bool.and_eq_true] at hag
      exact acc_gives w p s h hl t k a b c d e f er fd ke va cn hw hr hc (by rw [hal, hag.1]) (by rw [hgv, hag.2])
    rw [if_neg hag]
    by_cases k12 : k = 12
    · subst k12
      rw [if_pos rfl]
      by_cases he : (al && (er == 14)) = true
      · rw [if_pos he]
        simp only [Bool.and_eq_true, beq_iff_eq] at he
        have hg : gv = false := by rw [← hgv, he.2]; simp [givesM]
        exact acc_12e w p s h hl t a b c d e f er fd ke va cn hw x hx hr hc (by rw [hal, he.1]) (by rw [hgv, hg]) he.2
      rw [if_neg he]
      by_cases hq : er = 0 ∧ fd = true ∧ cn = 0
      · obtain ⟨h1, h2, h3⟩ := hq
        by_cases hh : x.lo ≤ ke ∧ ke ≤ x.hi
        · rw [if_pos ⟨h1, h2, h3, hh.1, hh.2⟩]
          exact acc_12p w p s h hl t a b c d e f er fd ke va cn hw x hx hr hc h1 h2 h3 hk (by simp [hh.1, hh.2])
        · rw [if_neg (fun q => hh ⟨q.2.2.2.1, q.2.2.2.2⟩)]
          exact acc_12c w p s h hl t a b c d e f er fd ke va cn hw x hx hr hc h1 h2 h3 (by
            cases hd : (decide (x.lo ≤ ke) && decide (ke ≤ x.hi)) with
            | false => rfl
            | true => simp at hd; exact absurd hd hh)
      · rw [if_neg (fun q => hq ⟨q.1, q.2.1, q.2.2.1⟩)]
        have hb2 : eqR er fd ke va cn 0 true ke va 0 = false := by
          cases hd : eqR er fd ke va cn 0 true ke va 0 with
          | false => rfl
          | true => simp [eqR] at hd; exact absurd hd hq
        cases al with
        | true =>
          have hg : gv = false := by simpa using hag
          have he2 : er ≠ 14 := by simpa using he
          exact acc_12a w p s h hl t a b c d e f er fd ke va cn hw x hx hr hc hal (by rw [hgv, hg]) he2 hb2
        | false => exact acc_12b w p s h hl t a b c d e f er fd ke va cn hw x hx hr hc hal hb2
    rw [if_neg k12]
    by_cases k15 : k = 15
    · subst k15
      rw [if_pos rfl]
      exact acc_15 w p s h hl t a b c d e f er fd ke va cn hw hr hc (by
        rw [hal, hgv]
        cases al with
        | false => exact .inl rfl
        | true => exact .inr (by simpa using hag))
    rw [if_neg k15]
    obtain ⟨⟨⟨e2, f2, k2, v2, c2⟩, s2⟩, hP⟩ : ∃ q, perfM s t x ⟨k, a, b, c, d, e, f⟩ = q := ⟨_, rfl⟩
    rw [hP]
    simp only
    have hiff := eqR_iff ⟨e2, f2, k2, v2, c2⟩ ⟨er, fd, ke, va, cn⟩
    simp only at hiff
    by_cases hb : (⟨e2, f2, k2, v2, c2⟩ : Rs) = ⟨er, fd, ke, va, cn⟩
    · rw [if_pos hb]
      have hb2 : eqR e2 f2 k2 v2 c2 er fd ke va cn = true := by rw [hiff]; exact decide_eq_true hb
      cases al with
      | true => exact acc_yes1 w p s h hl t k a b c d e f er fd ke va cn hw x hx hr hc hok hN ht0 k12 k15 hre hal (by rw [hgv]; simpa using hag) e2 f2 k2 v2 c2 s2 hP hb2
      | false => exact acc_yes0 w p s h hl t k a b c d e f er fd ke va cn hw x hx hr hc hok hN ht0 k12 k15 hre hal e2 f2 k2 v2 c2 s2 hP hb2
    · rw [if_neg hb]
      have hb2 : eqR e2 f2 k2 v2 c2 er fd ke va cn = false := by rw [hiff]; exact decide_eq_false hb
      cases al with
      | true => exact acc_no1 w p s h hl t k a b c d e f er fd ke va cn hw x hx hr hc hok hN ht0 k12 k15 hre hal (by rw [hgv]; simpa using hag) e2 f2 k2 v2 c2 s2 hP hb2
      | false => exact acc_no0 w p s h hl t k a b c d e f er fd ke va cn hw x hx hr hc hok hN ht0 k12 k15 hre hal e2 f2 k2 v2 c2 s2 hP hb2
  · have e1 : acceptM s t ⟨k, a, b, c, d, e, f⟩ ⟨er, fd, ke, va, cn⟩ = (eqR er fd ke va cn er false 0 0 0 && (er == refM s t ⟨k, a, b, c, d, e, f⟩), s) := by unfold acceptM; rw [if_pos hr]; rfl
    rw [e1]
    exact acc_ref w p s h hl t k a b c d e f er fd ke va cn hw hr
theorem acceptM_ok {s : Md} {N : Nat} (hok : s.Ok N) (t : Int) {o : Ox} (hw : o.Wf) {r : Rs} (hk : 0 ≤ r.key) : (acceptM s t o r).2.Ok (N + 1) := by
  unfold acceptM
  by_cases hr : refM s t o = 0
  · obtain ⟨t, x, rfl, hx, hc, hre, -⟩ := refM_zero hr
    have hxo := hok.th x (List.mem_of_getElem? hx)
    rw [if_neg (by simpa using hr), Int.toNat_natCast, hx]
    simp only
    split
    · exact hok.mono (Nat.le_succ N)
    · split
      · split
        · exact (hok.mono (Nat.le_succ N)).setT t hxo.fin
        · split
          · exact (hok.mono (Nat.le_succ N)).setT t (hxo.after _ hk)
          · exact hok.mono (Nat.le_succ N)
      · split
        · exact hok.mono (Nat.le_succ N)
        · split
          · exact perfM_ok hok hx hw hc hre
          · exact hok.mono (Nat.le_succ N)
  · rw [if_pos hr]; exact hok.mono (Nat.le_succ N)
end Go.Proofs.YtahagplegmcaaaaGreat
namespace Go.Proofs.YtahagplegmcaaaaGreat
open Go.RowKit Go.Xt
/-! The reference's Accept: '*m = *c'. -/
def mcells (c : Cf) (gp gt n ct : Nat) : List Value := ccells c ++ [Value.pointer (some ⟨gp, 0, none⟩), Value.slice (some ⟨gt, 0, none⟩) n ct]
theorem mcells_len (c : Cf) (gp gt n ct : Nat) : (mcells c gp gt n ct).length = 18 := rfl
theorem Chg.setCells (g : Nat) : ∀ (vs : List Value) (o : Nat) (w : World), Chg [g] w (w.setCells g o vs)
  | [], _, w => ⟨rfl, rfl, rfl, Nat.le_refl _, fun _ _ _ => rfl⟩
  | v :: r, o, w => (Chg.set1 w g o v).trans (Chg.setCells g r (o + 1) (w.setCell ⟨g, o, none⟩ v))
theorem RAt.range {W : World} {p : Pl} {c : Cf} {s : Md} (h : RAt W p c s) : ∃ ct, W.rangeAt p.gm 0 (mcells c p.gp p.gt s.th.length ct) := by
  obtain ⟨ct, m2⟩ := h.m2
  refine ⟨ct, fun j v hv => ?_⟩
  rw [Nat.zero_add]
  have hj := (List.getElem?_eq_some_iff.1 hv).1
  rw [mcells_len] at hj
  unfold mcells at hv
  by_cases h16 : j < 16
  · rw [List.getElem?_append_left (by rw [ccells_len]; exact h16)] at hv
    exact h.cf j v hv
  · rcases (by omega : j = 16 ∨ j = 17) with rfl | rfl
    · injection hv with hv; rw [← hv]; exact h.m1
    · injection hv with hv; rw [← hv]; exact m2
theorem RAt.there {W : World} {p : Pl} {c : Cf} {s : Md} (h : RAt W p c s) : W.there p.gm 0 18 := by
  obtain ⟨ct, hr⟩ := h.range
  intro j hj
  have h1 := hr.isSome j (by rw [mcells_len]; exact hj)
  exact ⟨h1, h.mz _⟩
/-- The model is the copy's. -/
theorem racc_store {w W6 : World} {p p6 : Pl} {c : Cf} {s s2 : Md} {ct : Nat} (H : RAt w p c s) (hn : Nw w W6) (h6 : RAt W6 p6 c s2) (hf : ∀ g ∈ p6.foot, w.heap.size ≤ g) :
    RMUp w p c s2 ⟨p.gm, p6.gt, p6.gp, p6.v⟩ (W6.setCells p.gm 0 (mcells c p6.gp p6.gt s2.th.length ct)) := by
  have im := H.im
  have hch := Chg.setCells p.gm (mcells c p6.gp p6.gt s2.th.length ct) 0 W6
  have f1 := hf _ (Pl.mem.2 (.inr (.inl rfl)))
  have f2 := hf _ (Pl.mem.2 (.inr (.inr (.inl rfl))))
  have f3 : p6.v.ownBlock ≠ some p.gm := fun e => by have := hf _ (Pl.mem.2 (.inr (.inr (.inr e)))); omega
  have hr := World.rangeAt_setCells_same W6 p.gm 0 (mcells c p6.gp p6.gt s2.th.length ct) (by rw [mcells_len]; exact (H.nw hn).there)
  have hg : ∀ i v, (mcells c p6.gp p6.gt s2.th.length ct)[i]? = some v → (W6.setCells p.gm 0 (mcells c p6.gp p6.gt s2.th.length ct)).cell? ⟨p.gm, i, none⟩ = some v := fun i v hv => by have := hr i v hv; rwa [Nat.zero_add] at this
  refine ⟨⟨fun i v hv => hg i v ?_, h6.sl, hg 16 _ rfl, ⟨ct, hg 17 _ rfl⟩, fun o => ?_, h6.th.chg hch (by simp; omega), h6.om.chg hch (by simp; omega) (fun g hg hx => by simp at hx; subst hx; exact f3 hg), by show p.gm ≠ p6.gt; omega, by show p.gm ≠ p6.gp; omega, h6.ntp, f3, h6.ntv⟩, ?_, fun y hy => ?_, rfl⟩
  · have hi := (List.getElem?_eq_some_iff.1 hv).1
    unfold mcells
    rw [List.getElem?_append_left hi]; exact hv
  · rw [World.frozen?_setCells]
    exact (frozen_nw im hn).trans (H.mz o)
  · exact (Chg.of_nw hn : Chg p.foot w W6).then hch (fun y hy => by simp at hy; subst hy; exact .inl (Pl.mem.2 (.inl rfl)))
  · rcases Pl.mem.1 hy with h9 | h9 | h9 | h9
    · exact .inl (Pl.mem.2 (.inl h9))
    · exact .inr (by have h9 : y = p6.gt := h9; omega)
    · exact .inr (by have h9 : y = p6.gp := h9; omega)
    · exact .inr (hf _ (Pl.mem.2 (.inr (.inr (.inr h9)))))
theorem sizeRM : (Tryz.prog.info? 63).map (·.size) = some 18 := by kernel_rfl
/-- A model of the reference lies at a block: for the walk. -/
class RmAt (w : World) (b : Nat) (l : outParam (List Value)) : Prop where
  at_ : w.rangeAt b 0 l
  len : l.length = 18
class RmTo (w : World) (b : Nat) : Prop where
  to_ : w.there b 0 18
instance {w : World} {b : Nat} {l : List Value} {x : Obj} [h : RmAt w b l] : RmAt (w.alloc x) b l := ⟨fun j v hv => cell_nw (h.at_ j v hv) ((Nw.refl _).alloc _), h.len⟩
instance {w : World} {b : Nat} {x : Obj} [h : RmTo w b] : RmTo (w.alloc x) b := ⟨fun j hj => by
  have hn := (Nw.refl w).alloc x
  obtain ⟨u, hu⟩ := Option.isSome_iff_exists.1 (h.to_ j hj).1
  exact ⟨by rw [cell_nw hu hn]; rfl, (frozen_nw (World.block_lt_of_cell? _ _ hu) hn).trans (h.to_ j hj).2⟩⟩
/-- A load and a store of a whole model, kept shut in the walk. -/
def loadRM (p : Value) : Sem Value := Instr.loadAt 63 p
def storeRM (p v : Value) : Sem Unit := Instr.storeAt 63 p v
@[go_sem ↓] theorem loadRM_in (p : Value) : Instr.loadAt 63 p = loadRM p := rfl
@[go_sem ↓] theorem storeRM_in (p v : Value) : Instr.storeAt 63 p v = storeRM p v := rfl
def mval (l : List Value) : Value := .agg l.toArray
@[go_sem] theorem run_loadRM {w : World} {b : Nat} {l : List Value} [h : RmAt w b l] : (loadRM (.pointer (some ⟨b, 0, none⟩))).run Tryz.prog w = .ok (mval l) w :=
  run_loadAt_mid w b 0 63 l _ h.at_ Tryz.underlying63 rfl (by rw [h.len]; exact sizeRM)
theorem mcells_one (c : Cf) (gp gt n ct : Nat) : ∀ v ∈ mcells c gp gt n ct, v.oneCell' = true := by
  intro v hv
  simp [mcells, ccells] at hv
  rcases hv with rfl | rfl | rfl | rfl | rfl | rfl | rfl | rfl | rfl | rfl | rfl | rfl | rfl | rfl | rfl | rfl | rfl | rfl <;> rfl
@[go_sem] theorem run_storeRM {w : World} {b : Nat} {c : Cf} {gp gt n ct : Nat} [h : RmTo w b] : (storeRM (.pointer (some ⟨b, 0, none⟩)) (mval (mcells c gp gt n ct))).run Tryz.prog w = .ok () (w.setCells b 0 (mcells c gp gt n ct)) := by
  have := run_storeAt_mid (P := Tryz.prog) w b 0 63 (mcells c gp gt n ct).toArray h.to_ (by exact sizeRM) (all_oneCell_toArray (mcells_one c gp gt n ct))
  exact this
end Go.Proofs.YtahagplegmcaaaaGreat
