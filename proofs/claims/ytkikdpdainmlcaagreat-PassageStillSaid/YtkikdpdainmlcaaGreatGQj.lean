import Derived.Test.YtkikdpdainmlcaaGreatGQb
import Derived.Test.YtkikdpdainmlcaaGreatGQf
set_option linter.unusedVariables false
set_option linter.unusedSimpArgs false
set_option linter.unnecessarySimpa false
namespace Go.Proofs.YtkikdpdainmlcaaGreat
open Go.RowKit Go.Xt
/-! perform and Do at any operation. -/
def perfM (s : Md) (t : Nat) (x : Th) (o : Ox) : Rs × Md :=
  if o.k = 1 then (⟨openE s, false, 0, 0, 0⟩, openM s t x)
  else if o.k = 2 then (⟨0, false, 0, 0, 0⟩, { s with th := s.th.set t { x with se := false } })
  else if o.k = 3 then (⟨0, hasK o.key s.l, 0, valL o.key s.l, 0⟩, s)
  else if o.k = 4 then (⟨0, hasK o.key s.l, 0, valL o.key s.l, 0⟩, { s with l := putL o.key o.val s.l })
  else if o.k = 5 then (⟨0, hasK o.key s.l, 0, valL o.key s.l, 0⟩, { s with l := addL o.key o.val s.l })
  else if o.k = 6 then (⟨0, hasK o.key s.l, 0, valL o.key s.l, 0⟩, { s with l := delL o.key s.l })
  else if o.k = 7 then (⟨0, hasK o.key s.l, 0, valL o.key s.l, if casB o.key o.old s.l = true then 1 else 0⟩, { s with l := casL o.key o.old o.val s.l })
  else if o.k = 8 then (⟨0, false, 0, 0, (inR o.key o.hi s.l).length⟩, { s with l := moveL o.key o.hi o.by_ s.l })
  else if o.k = 9 then (⟨0, false, 0, 0, (inR o.key o.hi s.l).length⟩, { s with l := outR o.key o.hi s.l })
  else if o.k = 10 then (⟨0, false, 0, 0, s.l.length⟩, s)
  else if o.k = 11 then (⟨0, false, 0, 0, 0⟩, { s with th := s.th.set t ⟨true, true, o.key, o.hi, x.se⟩ })
  else if o.k = 12 then match nextL x.lo x.hi s.l with
    | none => (⟨14, false, 0, 0, 0⟩, { s with th := s.th.set t x.fin })
    | some q => (⟨0, true, q.1, q.2, 0⟩, { s with th := s.th.set t (x.after q.1) })
  else if o.k = 13 then (⟨0, false, 0, 0, 0⟩, { s with th := s.th.set t (x.from_ o.key) })
  else if o.k = 14 then (⟨0, false, 0, 0, 0⟩, { s with th := s.th.set t ⟨false, false, 0, 0, x.se⟩ })
  else (⟨0, false, 0, 0, 0⟩, s)
def doM (s : Md) (t : Int) (o : Ox) : Rs × Md :=
  if refM s t o ≠ 0 then (⟨refM s t o, false, 0, 0, 0⟩, s) else match s.th[t.toNat]? with
    | some x => perfM s t.toNat x o
    | none => (⟨refM s t o, false, 0, 0, 0⟩, s)
def Th.Ok (x : Th) : Prop := (x.mo = true → 0 ≤ x.lo ∧ x.lo ≤ x.hi ∧ x.hi < 18446744073709551616) ∧ (x.op = true → x.se = true) ∧ (x.mo = true → x.op = true)
structure Md.Ok (s : Md) (N : Nat) : Prop where
  len : s.l.length ≤ N
  asc : asc s.l
  u64 : U64s s.l
  thn : s.th.length ≤ 1000
  th : ∀ x ∈ s.th, x.Ok
theorem nextL_mem {lo hi : Int} {l : List (Int × Int)} {q : Int × Int} (h : nextL lo hi l = some q) : q ∈ l ∧ lo ≤ q.1 ∧ q.1 ≤ hi := by
  have h1 := List.mem_of_getElem? h
  have h2 := List.mem_filter.1 h1
  exact ⟨h2.1, by simpa using h2.2⟩
theorem chk_formed {o : Ox} (hc : chkO o = 0) : (1 ≤ o.k ∧ o.k ≤ 15) ∧ (uH o.k = true → o.key ≤ o.hi) ∧ (o.k = 8 → o.by_ ≠ 0 ∧ o.hi ≤ 18446744073709551615 - o.by_) := by
  have hf : o.formed = true := by
    cases hf : o.formed with
    | true => rfl
    | false => unfold chkO at hc; rw [if_pos hf] at hc; cases hc
  refine ⟨?_, ?_⟩
  · unfold Ox.formed at hf
    simp only [Bool.and_eq_true, decide_eq_true_eq] at hf
    exact ⟨hf.1.1.1.1.1.1.1, hf.1.1.1.1.1.1.2⟩
  · unfold chkO at hc
    rw [if_neg (by rw [hf]; simp)] at hc
    split at hc
    · cases hc
    · rename_i h1
      split at hc
      · cases hc
      · rename_i h2
        exact ⟨fun h => by
          have : ¬ o.hi < o.key := fun h3 => h1 (.inl ⟨h, h3⟩)
          omega, fun h => ⟨fun h3 => h1 (.inr ⟨h, h3⟩), by
          have : ¬ 18446744073709551615 - o.by_ < o.hi := fun h3 => h2 ⟨h, h3⟩
          omega⟩⟩
theorem perform_M (w : World) (p : Pl) (s : Md) (h : MAt w p s) {N : Nat} (hok : s.Ok N) (hN : N ≤ 500000) (t : Nat) (x : Th) (ht : s.th[t]? = some x) (o : Ox) (hw : o.Wf) (hc : chkO o = 0) (hr : refE x o = 0) :
    Calls Tryz.prog 103 #[.pointer (some ⟨p.gm, 0, none⟩), .int .i64 t, opV o] w fun e w' => e = .returned (resV (perfM s t x o).1) ∧ ∃ p', MUp w p (perfM s t x o).2 p' w' := by
  have hl : s.l.length ≤ 500000 := Nat.le_trans hok.len hN
  obtain ⟨hk, hab, hby⟩ := chk_formed hc
  have hx := (hok.th x (List.mem_of_getElem? ht)).1
  obtain ⟨k, a, b, c, d, e, f⟩ := o
  unfold opV
  have w1 := hw.key
  have w2 := hw.hi
  have w5 := hw.by_
  simp only at hk hab hby w1 w2 w5 ⊢
  rcases (by omega : k = 1 ∨ k = 2 ∨ k = 3 ∨ k = 4 ∨ k = 5 ∨ k = 6 ∨ k = 7 ∨ k = 8 ∨ k = 9 ∨ k = 10 ∨ k = 11 ∨ k = 12 ∨ k = 13 ∨ k = 14 ∨ k = 15) with rfl | rfl | rfl | rfl | rfl | rfl | rfl | rfl | rfl | rfl | rfl | rfl | rfl | rfl | rfl
  · exact perform_k1 w p s h t a b c d e f _ _ (fun W hw => m_open W p s (h.nw hw) hok.thn t x ht a b c d e f)
  · exact perform_k2 w p s h t a b c d e f _ _ (fun W hw => m_shut W p s (h.nw hw) t x ht a b c d e f)
  · exact perform_k3 w p s h t a b c d e f _ _ (fun W hw => m_get W p s (h.nw hw) hl t a b c d e f)
  · exact perform_k4 w p s h t a b c d e f _ _ (fun W hw => m_put W p s (h.nw hw) hl t a b c d e f)
  · exact perform_k5 w p s h t a b c d e f _ _ (fun W hw => m_add W p s (h.nw hw) hl t a b c d e f)
  · exact perform_k6 w p s h t a b c d e f _ _ (fun W hw => m_remove W p s (h.nw hw) hl t a b c d e f)
  · exact perform_k7 w p s h t a b c d e f _ _ (fun W hw => m_swap W p s (h.nw hw) hl t a b c d e f)
  · exact perform_k8 w p s h t a b c d e f _ _ (fun W hw => m_move W p s (h.nw hw) hl t a b c d e f (hab rfl) w1.1 (by have := (hby rfl).1; omega) (by have := (hby rfl).2; omega))
  · exact perform_k9 w p s h t a b c d e f _ _ (fun W hw => m_drop W p s (h.nw hw) hl t a b c d e f (hab rfl))
  · exact perform_k10 w p s h t a b c d e f _ _ (fun W hw => m_size W p s (h.nw hw) hl t a b c d e f)
  · exact perform_k11 w p s h t a b c d e f _ _ (fun W hw => m_scan W p s (h.nw hw) t x ht a b c d e f)
  · have hmo : x.mo = true := by
      cases hm : x.mo with
      | true => rfl
      | false =>
        exfalso
        unfold refE at hr
        simp only [hm] at hr
        revert hr
        cases x.se <;> cases x.op <;> simp
    have hlx := (hx hmo).2.1
    cases hq : nextL x.lo x.hi s.l with
    | none =>
      have e1 : perfM s t x ⟨12, a, b, c, d, e, f⟩ = (⟨14, false, 0, 0, 0⟩, { s with th := s.th.set t x.fin }) := by simp [perfM, hq]
      rw [e1]
      exact perform_k12 w p s h t a b c d e f _ _ (fun W hw => m_next0 W p s (h.nw hw) t x ht a b c d e f hl hlx hq)
    | some q =>
      obtain ⟨qk, qv⟩ := q
      have e1 : perfM s t x ⟨12, a, b, c, d, e, f⟩ = (⟨0, true, qk, qv, 0⟩, { s with th := s.th.set t (x.after qk) }) := by simp [perfM, hq]
      rw [e1]
      have hqm := nextL_mem hq
      have h0 := hx hmo
      exact perform_k12 w p s h t a b c d e f _ _ (fun W hw => m_next1 W p s (h.nw hw) t x ht a b c d e f hl hlx qk qv (by simp at hqm; omega) hq)
  · exact perform_k13 w p s h t a b c d e f _ _ (fun W hw => m_seek W p s (h.nw hw) t x ht a b c d e f)
  · exact perform_k14 w p s h t a b c d e f _ _ (fun W hw => m_close W p s (h.nw hw) t x ht a b c d e f)
  · exact perform_k15 w p s h t a b c d e f _ _ (fun W hw => m_reclaim W p s (h.nw hw) t a b c d e f)
set_option maxRecDepth 20000 in
set_option maxHeartbeats 8000000 in
theorem do_refused (w : World) (p : Pl) (s : Md) (h : MAt w p s) (t : Int) (o : Ox) (hw : o.Wf) (hr : refM s t o ≠ 0) :
    Calls Tryz.prog 86 #[.pointer (some ⟨p.gm, 0, none⟩), .int .i64 t, opV o] w fun e w' => e = .returned (resV ⟨refM s t o, false, 0, 0, 0⟩) ∧ ∃ p', MUp w p s p' w' := by
  have HR := Lib.hid (fun W (hn : Nw w W) => refusal_any W p s (h.nw hn) t o hw)
  have H := Lib.hid h
  have im := h.im
  obtain ⟨R, hR⟩ : ∃ R, R = refM s t o := ⟨_, rfl⟩
  rw [← hR] at HR hr ⊢
  obtain ⟨gm, hgm⟩ : ∃ g, g = p.gm := ⟨_, rfl⟩
  rw [← hgm] at im HR ⊢
  haveI : In gm w := ⟨im⟩
  have r0 : (R == 0) = false := by simp; omega
  have r1 : ¬ R = 0 := by omega
  unfold opV at HR ⊢
  unfold resV
  simp only
  clear h hR hgm im hr
  go_enter Tryz.func86, Tryz.ntmps86
  go_wp2_with (go_at_call 102; refine (HR.out _ (nwa)).mono ?_; rintro e w' ⟨rfl, dW, rfl⟩)
  refine bodyPost_ret (v := res5 R false 0 0 0) ?_ rfl ⟨rfl, _, MUp.same H.out nwa⟩
  simp [results, Tryz.results86, go_sem]
set_option maxRecDepth 20000 in
set_option maxHeartbeats 8000000 in
theorem do_done (w : World) (p : Pl) (s : Md) (h : MAt w p s) {N : Nat} (hok : s.Ok N) (hN : N ≤ 500000) (t : Nat) (x : Th) (ht : s.th[t]? = some x) (o : Ox) (hw : o.Wf) (hr : refM s t o = 0) (hc : chkO o = 0) (hr2 : refE x o = 0) :
    Calls Tryz.prog 86 #[.pointer (some ⟨p.gm, 0, none⟩), .int .i64 t, opV o] w fun e w' => e = .returned (resV (perfM s t x o).1) ∧ ∃ p', MUp w p (perfM s t x o).2 p' w' := by
  have HR := Lib.hid (fun W (hn : Nw w W) => refusal_any W p s (h.nw hn) t o hw)
  have HS := Lib.hid (fun W (hn : Nw w W) => perform_M W p s (h.nw hn) hok hN t x ht o hw hc hr2)
  have H := Lib.hid h
  have im := h.im
  rw [hr] at HR
  obtain ⟨gm, hgm⟩ : ∃ g, g = p.gm := ⟨_, rfl⟩
  rw [← hgm] at im HR HS ⊢
  haveI : In gm w := ⟨im⟩
  obtain ⟨Q, hQ⟩ : ∃ Q, Q = perfM s t x o := ⟨_, rfl⟩
  rw [← hQ] at HS ⊢
  obtain ⟨⟨er, fd, ke, va, cn⟩, s'⟩ := Q
  obtain ⟨k, a, b, c, d, e, f⟩ := o
  unfold opV at HR HS ⊢
  unfold resV at HS ⊢
  simp only at HR HS ⊢
  clear h hgm im hr hc hr2 hQ hok ht hw hN
  obtain ⟨W2, hW2⟩ : ∃ W2, W2 = (w.alloc (.cells #[.int .u8 k, .int .u64 a, .int .u64 b, .int .u64 c, .int .u64 d, .int .u64 e, .int .u64 f] 41)).alloc (.cells #[.int .i64 0, .bool false, .int .u64 0, .int .u64 0, .int .i64 0] 43) := ⟨_, rfl⟩
  have hn2 : Nw w W2 := by rw [hW2]; exact nwa
  have hf2 : Fr w W2 ⟨k, a, b, c, d, e, f⟩ := by rw [hW2]; exact Fr.made w k a b c d e f
  have HF2 := Lib.hid hf2
  obtain ⟨hs2, q0, q1, q2, q3, q4, q5, q6, -⟩ := hf2
  have HN2 := Lib.hid hn2
  have HW2 := Lib.hid hW2
  have HS2 := Lib.hid hs2
  simp only at q0 q1 q2 q3 q4 q5 q6
  clear hn2 hW2 hs2
  go_enter Tryz.func86, Tryz.ntmps86
  go_wp2_with fail
  rw [← HW2.out]
  refine (HR.out W2 HN2.out).mono ?_
  rintro r W3 ⟨rfl, hn3⟩
  replace q0 := cell_nw q0 hn3
  replace q1 := cell_nw q1 hn3
  replace q2 := cell_nw q2 hn3
  replace q3 := cell_nw q3 hn3
  replace q4 := cell_nw q4 hn3
  replace q5 := cell_nw q5 hn3
  replace q6 := cell_nw q6 hn3
  have HF3 := Lib.hid (HF2.out.nw hn3)
  have HN3 := Lib.hid (HN2.out.trans hn3)
  clear hn3
  go_wp2_with fail
  refine (HS.out W3 HN3.out).mono ?_
  rintro r W4 ⟨rfl, p', hu⟩
  obtain ⟨hs4, -, -, -, -, -, -, -, r0, r1, r2, r3, r4, z0, z1, z2, z3, z4⟩ := HF3.out.foot H.out hu.chg
  have HU := Lib.hid hu
  have HS3 := Lib.hid HF3.out.hs
  clear hu hs4
  go_wp2
  refine bodyPost_ret (v := res5 er fd ke va cn) ?_ rfl ⟨rfl, p', MUp.res HN3.out (Nat.le_succ _) HS3.out H.out HU.out ⟨er, fd, ke, va, cn⟩⟩
  simp [results, Tryz.results86, go_sem, r0, r1, r2, r3, r4]
theorem do_any (w : World) (p : Pl) (s : Md) (h : MAt w p s) {N : Nat} (hok : s.Ok N) (hN : N ≤ 500000) (t : Int) (o : Ox) (hw : o.Wf) :
    Calls Tryz.prog 86 #[.pointer (some ⟨p.gm, 0, none⟩), .int .i64 t, opV o] w fun e w' => e = .returned (resV (doM s t o).1) ∧ ∃ p', MUp w p (doM s t o).2 p' w' := by
  by_cases hr : refM s t o = 0
  · have h0 : ¬ (t < 0 ∨ (s.th.length : Int) ≤ t) := fun h0 => by unfold refM at hr; rw [if_pos h0] at hr; cases hr
    have hc : chkO o = 0 := by
      rcases Decidable.em (chkO o = 0) with h1 | h1
      · exact h1
      · unfold refM at hr; rw [if_neg h0, if_pos h1] at hr; exact hr
    obtain ⟨t, rfl⟩ : ∃ n : Nat, t = n := ⟨t.toNat, by omega⟩
    obtain ⟨x, hx⟩ : ∃ x, s.th[t]? = some x := ⟨_, List.getElem?_eq_getElem (by omega)⟩
    have ett : ((t : Int)).toNat = t := rfl
    have hr2 : refE x o = 0 := by
      unfold refM at hr; rw [if_neg h0, if_neg (by simpa using hc), ett, hx] at hr; exact hr
    have e1 : doM s t o = perfM s t x o := by unfold doM; rw [if_neg (by simpa using hr), ett, hx]
    rw [e1]
    exact do_done w p s h hok hN t x hx o hw hr hc hr2
  · have e1 : doM s t o = (⟨refM s t o, false, 0, 0, 0⟩, s) := by unfold doM; rw [if_pos hr]
    rw [e1]
    exact do_refused w p s h t o hw hr
end Go.Proofs.YtkikdpdainmlcaaGreat
namespace Go.Proofs.YtkikdpdainmlcaaGreat
open Go.RowKit Go.Xt
/-! New, of, Session, Iterator, Pairs. -/
def Th0 : Th := ⟨false, false, 0, 0, false⟩
def ofM (s : Md) (t : Int) : Th := if t < 0 ∨ (s.th.length : Int) ≤ t then Th0 else (s.th[t.toNat]?).getD Th0
abbrev thV (x : Th) : Value := .agg #[.bool x.op, .bool x.mo, .int .u64 x.lo, .int .u64 x.hi, .bool x.se]
set_option maxRecDepth 20000 in
set_option maxHeartbeats 4000000 in
theorem opairs_M {w : World} {gp : Nat} {v : Value} {l : List (Int × Int)} (h : OM w gp v l) (hn : l.length ≤ 1000000) :
    Calls Tryz.prog 75 #[.pointer (some ⟨gp, 0, none⟩)] w fun e w' => ∃ v', e = .returned v' ∧ w'.ownsRow w.heap.size 51 2 v' l.length (pcells l) ∧ Nw w w' := by
  have p0 := h.p0
  haveI : In gp w := ⟨h.lt⟩
  rcases h.form with ⟨rfl, rfl⟩ | ⟨g, c, rfl, -, -, hin⟩
  · have HR := Lib.hid (⟨rfl, fun h => by omega⟩ : Rd w 2 none 0 (pcells []))
    clear h
    go_enter Tryz.func75, Tryz.ntmps75
    go_wp2_with fail
    refine (clone_any none 0 0 [] w HR.out (by omega) (fun _ => ⟨rfl, rfl⟩)).mono ?_
    rintro e w' ⟨v', rfl, hown, dW, rfl⟩
    go_wp2
    exact bodyPost_ret (results_tmp rfl _ _ _) rfl ⟨v', rfl, hown, nwa⟩
  · have HR := Lib.hid (⟨pcells_len l, fun hl => ⟨g, 0, rfl, hin.lt, fun j u hu => by
        have := (List.getElem?_eq_some_iff.1 hu).1
        rw [pcells_len] at this
        rw [Nat.zero_add, h.row.cellAt _ this]; exact hu⟩⟩ : Rd w 2 (some ⟨g, 0, none⟩) l.length (pcells l))
    clear h
    go_enter Tryz.func75, Tryz.ntmps75
    go_wp2_with fail
    refine (clone_any _ l.length c l w HR.out hn (fun h => by cases h)).mono ?_
    rintro e w' ⟨v', rfl, hown, dW, rfl⟩
    go_wp2
    exact bodyPost_ret (results_tmp rfl _ _ _) rfl ⟨v', rfl, hown, nwa⟩
set_option maxRecDepth 20000 in
set_option maxHeartbeats 4000000 in
theorem pairs_M (w : World) (p : Pl) (s : Md) (h : MAt w p s) (hl : s.l.length ≤ 1000000) :
    Calls Tryz.prog 61 #[.pointer (some ⟨p.gm, 0, none⟩)] w fun e w' => ∃ v', e = .returned v' ∧ w'.ownsRow w.heap.size 51 2 v' s.l.length (pcells s.l) ∧ Nw w w' := by
  have HP := Lib.hid (opairs_M h.om hl)
  have m1 := h.m1
  have im := h.im
  obtain ⟨gm, gt, gp, v⟩ := p
  simp only at HP m1 im ⊢
  haveI : In gm w := ⟨im⟩
  clear h im
  go_enter Tryz.func61, Tryz.ntmps61
  go_wp2_with fail
  refine HP.out.mono ?_
  rintro e w' ⟨v', rfl, hown, dW, rfl⟩
  go_wp2
  exact bodyPost_ret (results_tmp rfl _ _ _) rfl ⟨v', rfl, hown, nwa⟩
end Go.Proofs.YtkikdpdainmlcaaGreat
namespace Go.Proofs.YtkikdpdainmlcaaGreat
open Go.RowKit Go.Xt
/-! The model, plain: what every operation keeps; a scan. -/
theorem set_all {P : Th → Prop} {l : List Th} (h : ∀ x ∈ l, P x) {k : Nat} {y : Th} (hy : P y) : ∀ x ∈ l.set k y, P x := fun x hx => by
  rcases List.mem_or_eq_of_mem_set hx with h1 | rfl
  · exact h x h1
  · exact hy
theorem Md.Ok.mono {s : Md} {N N' : Nat} (h : s.Ok N) (hn : N ≤ N') : s.Ok N' := ⟨Nat.le_trans h.len hn, h.asc, h.u64, h.thn, h.th⟩
theorem Md.Ok.setT {s : Md} {N : Nat} (h : s.Ok N) (t : Nat) {y : Th} (hy : y.Ok) : Md.Ok { s with th := s.th.set t y } N :=
  ⟨h.len, h.asc, h.u64, by show (s.th.set t y).length ≤ 1000; rw [List.length_set]; exact h.thn, set_all h.th hy⟩
theorem Md.Ok.setL {s : Md} {N N' : Nat} (h : s.Ok N) {l : List (Int × Int)} (h1 : _root_.Go.Proofs.YtkikdpdainmlcaaGreat.asc l) (h2 : U64s l) (h3 : l.length ≤ N') : Md.Ok { s with l := l } N' :=
  ⟨h3, h1, h2, h.thn, h.th⟩
theorem Th.Ok.fin {x : Th} (h : x.Ok) : x.fin.Ok := ⟨fun h => (by cases h), h.2.1, fun h => (by cases h)⟩
theorem Th.Ok.from_ {x : Th} (h : x.Ok) (k : Int) (hk : 0 ≤ k) : (x.from_ k).Ok := by
  unfold Th.from_
  split
  · rename_i hc
    have h1 := h.1 hc.1
    exact ⟨fun _ => ⟨by show 0 ≤ max x.lo k; omega, by show max x.lo k ≤ x.hi; omega, h1.2.2⟩, h.2.1, h.2.2⟩
  · exact h.fin
theorem Th.Ok.after {x : Th} (h : x.Ok) (k : Int) (hk : 0 ≤ k) : (x.after k).Ok := by
  unfold Th.after
  split
  · exact h.fin
  · exact h.from_ _ (by omega)
theorem U64s.put {l : List (Int × Int)} (h : U64s l) {k x : Int} (hk : 0 ≤ k ∧ k < 18446744073709551616) (hx : 0 ≤ x ∧ x < 18446744073709551616) : U64s (putL k x l) := fun z hz => by
  rcases put_mem hz with h1 | rfl
  · exact h z h1
  · exact ⟨hk, hx⟩
theorem U64s.sub {l m : List (Int × Int)} (h : U64s l) (hs : m.Sublist l) : U64s m := fun z hz => h z (hs.subset hz)
theorem U64s.mv {b : Int} : ∀ (r : List (Int × Int)) {l : List (Int × Int)}, U64s l → (∀ p ∈ r, (0 ≤ p.1 + b ∧ p.1 + b < 18446744073709551616) ∧ 0 ≤ p.2 ∧ p.2 < 18446744073709551616) → U64s (mvL b r l)
  | [], l, h, _ => h
  | p :: r, l, h, hr => U64s.mv r (h.put (hr p (by simp)).1 (hr p (by simp)).2) (fun q hq => hr q (by simp [hq]))
theorem perfM_ok {s : Md} {N : Nat} (hok : s.Ok N) {t : Nat} {x : Th} (ht : s.th[t]? = some x) {o : Ox} (hw : o.Wf) (hc : chkO o = 0) (hr : refE x o = 0) : (perfM s t x o).2.Ok (N + 1) := by
  have hx := hok.th x (List.mem_of_getElem? ht)
  obtain ⟨hk, hab, hby⟩ := chk_formed hc
  have w1 := hw.key
  have w2 := hw.hi
  have w3 := hw.val
  have w5 := hw.by_
  have hl1 : s.l.length ≤ N + 1 := Nat.le_succ_of_le hok.len
  unfold perfM
  by_cases k1 : o.k = 1
  · rw [if_pos k1]
    show (openM s t x).Ok (N + 1)
    unfold openM
    split
    · exact hok.mono (Nat.le_succ N)
    · exact (hok.mono (Nat.le_succ N)).setT t ⟨hx.1, fun _ => rfl, hx.2.2⟩
  rw [if_neg k1]
  by_cases k2 : o.k = 2
  · rw [if_pos k2]
    have hop : x.op = false := by
      cases hop : x.op with
      | false => rfl
      | true =>
        exfalso
        unfold refE at hr
        rw [if_neg k1, if_neg (by rw [hx.2.1 hop]; simp), if_pos ⟨.inl k2, hop⟩] at hr
        cases hr
    refine (hok.mono (Nat.le_succ N)).setT t ⟨hx.1, fun h => ?_, hx.2.2⟩
    have h : x.op = true := h
    rw [hop] at h; cases h
  rw [if_neg k2]
  by_cases k3 : o.k = 3
  · rw [if_pos k3]; exact hok.mono (Nat.le_succ N)
  rw [if_neg k3]
  by_cases k4 : o.k = 4
  · rw [if_pos k4]
    exact hok.setL (put_asc _ _ hok.asc) (hok.u64.put w1 w3) (Nat.le_trans (put_le _ _ _) (Nat.succ_le_succ hok.len))
  rw [if_neg k4]
  by_cases k5 : o.k = 5
  · rw [if_pos k5]
    show Md.Ok { s with l := addL o.key o.val s.l } (N + 1)
    unfold addL
    split
    · exact hok.mono (Nat.le_succ N)
    · exact hok.setL (put_asc _ _ hok.asc) (hok.u64.put w1 w3) (Nat.le_trans (put_le _ _ _) (Nat.succ_le_succ hok.len))
  rw [if_neg k5]
  by_cases k6 : o.k = 6
  · rw [if_pos k6]
    exact hok.setL (asc_sub hok.asc (del_sub _ _)) (hok.u64.sub (del_sub _ _)) (Nat.le_trans (del_sub _ _).length_le hl1)
  rw [if_neg k6]
  by_cases k7 : o.k = 7
  · rw [if_pos k7]
    show Md.Ok { s with l := casL o.key o.old o.val s.l } (N + 1)
    unfold casL
    split
    · exact hok.setL (put_asc _ _ hok.asc) (hok.u64.put w1 w3) (Nat.le_trans (put_le _ _ _) (Nat.succ_le_succ hok.len))
    · exact hok.mono (Nat.le_succ N)
  rw [if_neg k7]
  by_cases k8 : o.k = 8
  · rw [if_pos k8]
    have hb := hby k8
    refine hok.setL (mvL_asc _ _ _ (asc_sub hok.asc (outR_sub _ _ _))) (U64s.mv _ (hok.u64.sub (outR_sub _ _ _)) fun q hq => ?_) ?_
    · have h1 := List.mem_filter.1 hq
      have h2 := hok.u64 q h1.1
      have h3 : o.key ≤ q.1 ∧ q.1 ≤ o.hi := by simpa using h1.2
      exact ⟨by omega, h2.2⟩
    · have h1 := mvL_len o.by_ (inR o.key o.hi s.l) (outR o.key o.hi s.l)
      have h2 := outR_inR o.key o.hi s.l
      exact Nat.le_trans h1 (by omega)
  rw [if_neg k8]
  by_cases k9 : o.k = 9
  · rw [if_pos k9]
    exact hok.setL (asc_sub hok.asc (outR_sub _ _ _)) (hok.u64.sub (outR_sub _ _ _)) (Nat.le_trans (outR_sub _ _ _).length_le hl1)
  rw [if_neg k9]
  by_cases k10 : o.k = 10
  · rw [if_pos k10]; exact hok.mono (Nat.le_succ N)
  rw [if_neg k10]
  by_cases k11 : o.k = 11
  · rw [if_pos k11]
    have hse : x.se = true := by
      cases hse : x.se with
      | true => rfl
      | false =>
        exfalso
        unfold refE at hr
        rw [if_neg k1, if_pos hse] at hr
        cases hr
    exact (hok.mono (Nat.le_succ N)).setT t ⟨fun _ => ⟨w1.1, hab (by unfold uH; simp [k11]), w2.2⟩, fun _ => hse, fun _ => rfl⟩
  rw [if_neg k11]
  by_cases k12 : o.k = 12
  · rw [if_pos k12]
    cases hq : nextL x.lo x.hi s.l with
    | none => exact (hok.mono (Nat.le_succ N)).setT t hx.fin
    | some q => exact (hok.mono (Nat.le_succ N)).setT t (hx.after _ (hok.u64 q (nextL_mem hq).1).1.1)
  rw [if_neg k12]
  by_cases k13 : o.k = 13
  · rw [if_pos k13]; exact (hok.mono (Nat.le_succ N)).setT t (hx.from_ _ w1.1)
  rw [if_neg k13]
  by_cases k14 : o.k = 14
  · rw [if_pos k14]
    exact (hok.mono (Nat.le_succ N)).setT t ⟨fun h => (by cases h), fun h => (by cases h), fun h => (by cases h)⟩
  rw [if_neg k14]
  exact hok.mono (Nat.le_succ N)
theorem refM_zero {s : Md} {t : Int} {o : Ox} (hr : refM s t o = 0) : ∃ (n : Nat) (x : Th), t = n ∧ s.th[n]? = some x ∧ chkO o = 0 ∧ refE x o = 0 ∧ doM s t o = perfM s n x o := by
  have h0 : ¬ (t < 0 ∨ (s.th.length : Int) ≤ t) := fun h0 => by unfold refM at hr; rw [if_pos h0] at hr; cases hr
  have hc : chkO o = 0 := by
    rcases Decidable.em (chkO o = 0) with h1 | h1
    · exact h1
    · unfold refM at hr; rw [if_neg h0, if_pos h1] at hr; exact hr
  obtain ⟨t, rfl⟩ : ∃ n : Nat, t = n := ⟨t.toNat, by omega⟩
  obtain ⟨x, hx⟩ : ∃ x, s.th[t]? = some x := ⟨_, List.getElem?_eq_getElem (by omega)⟩
  refine ⟨t, x, rfl, hx, hc, ?_, ?_⟩
  · unfold refM at hr; rw [if_neg h0, if_neg (by simpa using hc), Int.toNat_natCast, hx] at hr; exact hr
  · unfold doM; rw [if_neg (by simpa using hr), Int.toNat_natCast, hx]
theorem doM_ok {s : Md} {N : Nat} (hok : s.Ok N) (t : Int) {o : Ox} (hw : o.Wf) : (doM s t o).2.Ok (N + 1) := by
  by_cases hr : refM s t o = 0
  · obtain ⟨n, x, rfl, hx, hc, h2, e⟩ := refM_zero hr
    rw [e]; exact perfM_ok hok hx hw hc h2
  · unfold doM; rw [if_pos hr]; exact hok.mono (Nat.le_succ N)
theorem perfM_len (s : Md) (t : Nat) (x : Th) (o : Ox) : (perfM s t x o).2.th.length = s.th.length ∧ (perfM s t x o).2.slots = s.slots := by
  have hs : ∀ y : Th, (s.th.set t y).length = s.th.length := fun y => List.length_set ..
  unfold perfM
  by_cases k1 : o.k = 1
  · rw [if_pos k1]
    show (openM s t x).th.length = s.th.length ∧ (openM s t x).slots = s.slots
    unfold openM
    split
    · exact ⟨rfl, rfl⟩
    · exact ⟨hs _, rfl⟩
  rw [if_neg k1]
  by_cases k2 : o.k = 2
  · rw [if_pos k2]; first | exact ⟨rfl, rfl⟩ | exact ⟨hs _, rfl⟩
  rw [if_neg k2]
  by_cases k3 : o.k = 3
  · rw [if_pos k3]; first | exact ⟨rfl, rfl⟩ | exact ⟨hs _, rfl⟩
  rw [if_neg k3]
  by_cases k4 : o.k = 4
  · rw [if_pos k4]; first | exact ⟨rfl, rfl⟩ | exact ⟨hs _, rfl⟩
  rw [if_neg k4]
  by_cases k5 : o.k = 5
  · rw [if_pos k5]; first | exact ⟨rfl, rfl⟩ | exact ⟨hs _, rfl⟩
  rw [if_neg k5]
  by_cases k6 : o.k = 6
  · rw [if_pos k6]; first | exact ⟨rfl, rfl⟩ | exact ⟨hs _, rfl⟩
  rw [if_neg k6]
  by_cases k7 : o.k = 7
  · rw [if_pos k7]; first | exact ⟨rfl, rfl⟩ | exact ⟨hs _, rfl⟩
  rw [if_neg k7]
  by_cases k8 : o.k = 8
  · rw [if_pos k8]; first | exact ⟨rfl, rfl⟩ | exact ⟨hs _, rfl⟩
  rw [if_neg k8]
  by_cases k9 : o.k = 9
  · rw [if_pos k9]; first | exact ⟨rfl, rfl⟩ | exact ⟨hs _, rfl⟩
  rw [if_neg k9]
  by_cases k10 : o.k = 10
  · rw [if_pos k10]; first | exact ⟨rfl, rfl⟩ | exact ⟨hs _, rfl⟩
  rw [if_neg k10]
  by_cases k11 : o.k = 11
  · rw [if_pos k11]; first | exact ⟨rfl, rfl⟩ | exact ⟨hs _, rfl⟩
  rw [if_neg k11]
  by_cases k12 : o.k = 12
  · rw [if_pos k12]
    cases nextL x.lo x.hi s.l with
    | none => exact ⟨hs _, rfl⟩
    | some q => exact ⟨hs _, rfl⟩
  rw [if_neg k12]
  by_cases k13 : o.k = 13
  · rw [if_pos k13]; first | exact ⟨rfl, rfl⟩ | exact ⟨hs _, rfl⟩
  rw [if_neg k13]
  by_cases k14 : o.k = 14
  · rw [if_pos k14]; first | exact ⟨rfl, rfl⟩ | exact ⟨hs _, rfl⟩
  rw [if_neg k14]
  exact ⟨rfl, rfl⟩
theorem doM_len (s : Md) (t : Int) (o : Ox) : (doM s t o).2.th.length = s.th.length ∧ (doM s t o).2.slots = s.slots := by
  by_cases hr : refM s t o = 0
  · obtain ⟨n, x, rfl, hx, hc, h2, e⟩ := refM_zero hr
    rw [e]; exact perfM_len _ _ _ _
  · unfold doM; rw [if_pos hr]; exact ⟨rfl, rfl⟩
end Go.Proofs.YtkikdpdainmlcaaGreat
