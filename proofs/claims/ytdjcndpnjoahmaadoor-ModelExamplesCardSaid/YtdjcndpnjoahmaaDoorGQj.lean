import Derived.Test.YtdjcndpnjoahmaaDoorGQc
import Derived.Test.YtdjcndpnjoahmaaDoorGQg
import Derived.Test.YtdjcndpnjoahmaaDoorGQh
set_option linter.unusedVariables false
set_option linter.unusedSimpArgs false
namespace Go.Proofs.YtdjcndpnjoahmaaDoor
open Go.RowKit Go.Xt
/-! perform and Do at any operation. -/
/-- What an operation that is not refused returns, and the state behind it. -/
def perfM (s : Md) (t : Nat) (x : Th) (o : Ox) : Rs × Md :=
  if o.k = 1 then (⟨openE s, false, 0, 0, 0⟩, openM s t x)
  else if o.k = 2 then (⟨0, false, 0, 0, 0⟩, { s with th := s.th.set t { x with se := false } })
  else if o.k = 3 then (⟨0, hasK o.key s.l, 0, valL o.key s.l, 0⟩, s)
  else if o.k = 4 then (⟨0, hasK o.key s.l, 0, valL o.key s.l, 0⟩, { s with l := putL o.key o.val s.l })
  else if o.k = 5 then (⟨0, hasK o.key s.l, 0, valL o.key s.l, 0⟩, { s with l := addL o.key o.val s.l })
  else if o.k = 6 then (⟨0, hasK o.key s.l, 0, valL o.key s.l, 0⟩, { s with l := delL o.key s.l })
  else if o.k = 7 then (⟨0, hasK o.key s.l, 0, valL o.key s.l, if casB o.key o.old s.l = true then 1 else 0⟩, { s with l := casL o.key o.old o.val s.l })
  else if o.k = 8 then (⟨0, false, 0, 0, (inR o.key o.hi s.l).length⟩, { s with l := moveL o.key o.hi o.by_ s.l })
  else if o.k = 9 then (⟨0, false, 0, 0, (inR o.key o.hi s.l).length⟩, { s with l := outR o.key o.hi s.l })
  else if o.k = 10 then (⟨0, false, 0, 0, s.l.length⟩, s)
  else if o.k = 11 then (⟨0, false, 0, 0, 0⟩, { s with th := s.th.set t ⟨true, true, o.key, o.hi, x.se⟩ })
  else if o.k = 12 then match nextL x.lo x.hi s.l with
    | none => (⟨14, false, 0, 0, 0⟩, { s with th := s.th.set t x.fin })
    | some q => (⟨0, true, q.1, q.2, 0⟩, { s with th := s.th.set t (x.after q.1) })
  else if o.k = 13 then (⟨0, false, 0, 0, 0⟩, { s with th := s.th.set t (x.from_ o.key) })
  else if o.k = 14 then (⟨0, false, 0, 0, 0⟩, { s with th := s.th.set t ⟨false, false, 0, 0, x.se⟩ })
  else (⟨0, false, 0, 0, 0⟩, s)
/-- Do. -/
def doM (s : Md) (t : Int) (o : Ox) : Rs × Md :=
  if refM s t o ≠ 0 then (⟨refM s t o, false, 0, 0, 0⟩, s) else match s.th[t.toNat]? with
    | some x => perfM s t.toNat x o
    | none => (⟨refM s t o, false, 0, 0, 0⟩, s)
/-- What holds of every thread. -/
def Th.Ok (x : Th) : Prop := (x.mo = true → 0 ≤ x.lo ∧ x.lo ≤ x.hi ∧ x.hi < 18446744073709551616) ∧ (x.op = true → x.se = true) ∧ (x.mo = true → x.op = true)
/-- What holds of every state. -/
structure Md.Ok (s : Md) (N : Nat) : Prop where
  len : s.l.length ≤ N
  asc : asc s.l
  u64 : U64s s.l
  thn : s.th.length ≤ 1000
  th : ∀ x ∈ s.th, x.Ok
theorem nextL_mem {lo hi : Int} {l : List (Int × Int)} {q : Int × Int} (h : nextL lo hi l = some q) : q ∈ l ∧ lo ≤ q.1 ∧ q.1 ≤ hi := by
  have h1 := List.mem_of_getElem? h
  have h2 := List.mem_filter.1 h1
  exact ⟨h2.1, by simpa using h2.2⟩
theorem chk_formed {o : Ox} (hc : chkO o = 0) : (1 ≤ o.k ∧ o.k ≤ 15) ∧ (uH o.k = true → o.key ≤ o.hi) ∧ (o.k = 8 → o.by_ ≠ 0 ∧ o.hi ≤ 18446744073709551615 - o.by_) := by
  have hf : o.formed = true := by
    cases hf : o.formed with
    | true => rfl
    | false => unfold chkO at hc; rw [if_pos hf] at hc; cases hc
  refine ⟨?_, ?_⟩
  · unfold Ox.formed at hf
    simp only [Bool.and_eq_true, decide_eq_true_eq] at hf
    exact ⟨hf.1.1.1.1.1.1.1, hf.1.1.1.1.1.1.2⟩
  · unfold chkO at hc
    rw [if_neg (by rw [hf]; simp)] at hc
    split at hc
    · cases hc
    · rename_i h1
      split at hc
      · cases hc
      · rename_i h2
        exact ⟨fun h => by
          have : ¬ o.hi < o.key := fun h3 => h1 (.inl ⟨h, h3⟩)
          omega, fun h => ⟨fun h3 => h1 (.inr ⟨h, h3⟩), by
          have : ¬ 18446744073709551615 - o.by_ < o.hi := fun h3 => h2 ⟨h, h3⟩
          omega⟩⟩
/-- perform of any operation. -/
theorem perform_M (w : World) (p : Pl) (s : Md) (h : MAt w p s) {N : Nat} (hok : s.Ok N) (hN : N ≤ 500000) (t : Nat) (x : Th) (ht : s.th[t]? = some x) (o : Ox) (hw : o.Wf) (hc : chkO o = 0) (hr : refE x o = 0) :
    Calls Tryd.prog 23 #[.pointer (some ⟨p.gm, 0, none⟩), .int .i64 t, opV o] w fun e w' => e = .returned (resV (perfM s t x o).1) ∧ ∃ p', MUp w p (perfM s t x o).2 p' w' := by
  have hl : s.l.length ≤ 500000 := Nat.le_trans hok.len hN
  obtain ⟨hk, hab, hby⟩ := chk_formed hc
  have hx := (hok.th x (List.mem_of_getElem? ht)).1
  obtain ⟨k, a, b, c, d, e, f⟩ := o
  unfold opV
  have w1 := hw.key
  have w2 := hw.hi
  have w5 := hw.by_
  simp only at hk hab hby w1 w2 w5 ⊢
  rcases (by omega : k = 1 ∨ k = 2 ∨ k = 3 ∨ k = 4 ∨ k = 5 ∨ k = 6 ∨ k = 7 ∨ k = 8 ∨ k = 9 ∨ k = 10 ∨ k = 11 ∨ k = 12 ∨ k = 13 ∨ k = 14 ∨ k = 15) with rfl | rfl | rfl | rfl | rfl | rfl | rfl | rfl | rfl | rfl | rfl | rfl | rfl | rfl | rfl
  · exact perform_k1 w p s h t a b c d e f _ _ (fun W hw => m_open W p s (h.nw hw) hok.thn t x ht a b c d e f)
  · exact perform_k2 w p s h t a b c d e f _ _ (fun W hw => m_shut W p s (h.nw hw) t x ht a b c d e f)
  · exact perform_k3 w p s h t a b c d e f _ _ (fun W hw => m_get W p s (h.nw hw) hl t a b c d e f)
  · exact perform_k4 w p s h t a b c d e f _ _ (fun W hw => m_put W p s (h.nw hw) hl t a b c d e f)
  · exact perform_k5 w p s h t a b c d e f _ _ (fun W hw => m_add W p s (h.nw hw) hl t a b c d e f)
  · exact perform_k6 w p s h t a b c d e f _ _ (fun W hw => m_remove W p s (h.nw hw) hl t a b c d e f)
  · exact perform_k7 w p s h t a b c d e f _ _ (fun W hw => m_swap W p s (h.nw hw) hl t a b c d e f)
  · exact perform_k8 w p s h t a b c d e f _ _ (fun W hw => m_move W p s (h.nw hw) hl t a b c d e f (hab rfl) w1.1 (by have := (hby rfl).1; omega) (by have := (hby rfl).2; omega))
  · exact perform_k9 w p s h t a b c d e f _ _ (fun W hw => m_drop W p s (h.nw hw) hl t a b c d e f (hab rfl))
  · exact perform_k10 w p s h t a b c d e f _ _ (fun W hw => m_size W p s (h.nw hw) hl t a b c d e f)
  · exact perform_k11 w p s h t a b c d e f _ _ (fun W hw => m_scan W p s (h.nw hw) t x ht a b c d e f)
  · have hmo : x.mo = true := by
      cases hm : x.mo with
      | true => rfl
      | false =>
        exfalso
        unfold refE at hr
        simp only [hm] at hr
        revert hr
        cases x.se <;> cases x.op <;> simp
    have hlx := (hx hmo).2.1
    cases hq : nextL x.lo x.hi s.l with
    | none =>
      have e1 : perfM s t x ⟨12, a, b, c, d, e, f⟩ = (⟨14, false, 0, 0, 0⟩, { s with th := s.th.set t x.fin }) := by simp [perfM, hq]
      rw [e1]
      exact perform_k12 w p s h t a b c d e f _ _ (fun W hw => m_next0 W p s (h.nw hw) t x ht a b c d e f hl hlx hq)
    | some q =>
      obtain ⟨qk, qv⟩ := q
      have e1 : perfM s t x ⟨12, a, b, c, d, e, f⟩ = (⟨0, true, qk, qv, 0⟩, { s with th := s.th.set t (x.after qk) }) := by simp [perfM, hq]
      rw [e1]
      have hqm := nextL_mem hq
      have h0 := hx hmo
      exact perform_k12 w p s h t a b c d e f _ _ (fun W hw => m_next1 W p s (h.nw hw) t x ht a b c d e f hl hlx qk qv (by simp at hqm; omega) hq)
  · exact perform_k13 w p s h t a b c d e f _ _ (fun W hw => m_seek W p s (h.nw hw) t x ht a b c d e f)
  · exact perform_k14 w p s h t a b c d e f _ _ (fun W hw => m_close W p s (h.nw hw) t x ht a b c d e f)
  · exact perform_k15 w p s h t a b c d e f _ _ (fun W hw => m_reclaim W p s (h.nw hw) t a b c d e f)
set_option maxRecDepth 20000 in
set_option maxHeartbeats 8000000 in
theorem do_refused (w : World) (p : Pl) (s : Md) (h : MAt w p s) (t : Int) (o : Ox) (hw : o.Wf) (hr : refM s t o ≠ 0) :
    Calls Tryd.prog 12 #[.pointer (some ⟨p.gm, 0, none⟩), .int .i64 t, opV o] w fun e w' => e = .returned (resV ⟨refM s t o, false, 0, 0, 0⟩) ∧ ∃ p', MUp w p s p' w' := by
  have HR := Lib.hid (fun W (hn : Nw w W) => refusal_any W p s (h.nw hn) t o hw)
  have H := Lib.hid h
  have im := h.im
  obtain ⟨R, hR⟩ : ∃ R, R = refM s t o := ⟨_, rfl⟩
  rw [← hR] at HR hr ⊢
  obtain ⟨gm, hgm⟩ : ∃ g, g = p.gm := ⟨_, rfl⟩
  rw [← hgm] at im HR ⊢
  haveI : In gm w := ⟨im⟩
  have r0 : (R == 0) = false := by simp; omega
  have r1 : ¬ R = 0 := by omega
  unfold opV at HR ⊢
  unfold resV
  simp only
  clear h hR hgm im hr
  go_enter Tryd.func12, Tryd.ntmps12
  go_wp2_with (go_at_call 22; refine (HR.out _ ((by repeat (first | exact Xt.Nw.refl _ | refine Xt.Nw.drew ?_ | refine Xt.Nw.drewN ?_ _ | refine Xt.Nw.alloc ?_ _ | refine Xt.Nw.joined ?_ | refine Xt.Nw.drewd ?_ | refine Xt.Nw.drewdN ?_ | refine Xt.Nw.ext ?_ | refine Xt.Nw.ext_some ?_ (by assumption) | refine Xt.Nw.setCell ?_ (by simp [go_sem] <;> omega) _)))).mono ?_; rintro e w' ⟨rfl, dW, rfl⟩)
  refine bodyPost_ret (v := res5 R false 0 0 0) ?_ rfl ⟨rfl, _, MUp.same H.out (by repeat (first | exact Xt.Nw.refl _ | refine Xt.Nw.drew ?_ | refine Xt.Nw.drewN ?_ _ | refine Xt.Nw.alloc ?_ _ | refine Xt.Nw.joined ?_ | refine Xt.Nw.drewd ?_ | refine Xt.Nw.drewdN ?_ | refine Xt.Nw.ext ?_ | refine Xt.Nw.ext_some ?_ (by assumption) | refine Xt.Nw.setCell ?_ (by simp [go_sem] <;> omega) _))⟩
  simp [results, Tryd.results12, go_sem]
set_option maxRecDepth 20000 in
set_option maxHeartbeats 8000000 in
theorem do_done (w : World) (p : Pl) (s : Md) (h : MAt w p s) {N : Nat} (hok : s.Ok N) (hN : N ≤ 500000) (t : Nat) (x : Th) (ht : s.th[t]? = some x) (o : Ox) (hw : o.Wf) (hr : refM s t o = 0) (hc : chkO o = 0) (hr2 : refE x o = 0) :
    Calls Tryd.prog 12 #[.pointer (some ⟨p.gm, 0, none⟩), .int .i64 t, opV o] w fun e w' => e = .returned (resV (perfM s t x o).1) ∧ ∃ p', MUp w p (perfM s t x o).2 p' w' := by
  have HR := Lib.hid (fun W (hn : Nw w W) => refusal_any W p s (h.nw hn) t o hw)
  have HS := Lib.hid (fun W (hn : Nw w W) => perform_M W p s (h.nw hn) hok hN t x ht o hw hc hr2)
  have H := Lib.hid h
  have im := h.im
  rw [hr] at HR
  obtain ⟨gm, hgm⟩ : ∃ g, g = p.gm := ⟨_, rfl⟩
  rw [← hgm] at im HR HS ⊢
  haveI : In gm w := ⟨im⟩
  obtain ⟨Q, hQ⟩ : ∃ Q, Q = perfM s t x o := ⟨_, rfl⟩
  rw [← hQ] at HS ⊢
  obtain ⟨⟨er, fd, ke, va, cn⟩, s'⟩ := Q
  obtain ⟨k, a, b, c, d, e, f⟩ := o
  unfold opV at HR HS ⊢
  unfold resV at HS ⊢
  simp only at HR HS ⊢
  clear h hgm im hr hc hr2 hQ hok ht hw hN
  obtain ⟨W2, hW2⟩ : ∃ W2, W2 = (w.alloc (.cells #[.int .u8 k, .int .u64 a, .int .u64 b, .int .u64 c, .int .u64 d, .int .u64 e, .int .u64 f] 25)).alloc (.cells #[.int .i64 0, .bool false, .int .u64 0, .int .u64 0, .int .i64 0] 28) := ⟨_, rfl⟩
  have hn2 : Nw w W2 := by rw [hW2]; exact (by repeat (first | exact Xt.Nw.refl _ | refine Xt.Nw.drew ?_ | refine Xt.Nw.drewN ?_ _ | refine Xt.Nw.alloc ?_ _ | refine Xt.Nw.joined ?_ | refine Xt.Nw.drewd ?_ | refine Xt.Nw.drewdN ?_ | refine Xt.Nw.ext ?_ | refine Xt.Nw.ext_some ?_ (by assumption) | refine Xt.Nw.setCell ?_ (by simp [go_sem] <;> omega) _))
  have hf2 : Fr w W2 ⟨k, a, b, c, d, e, f⟩ := by rw [hW2]; exact Fr.made w k a b c d e f
  have HF2 := Lib.hid hf2
  obtain ⟨hs2, q0, q1, q2, q3, q4, q5, q6, -⟩ := hf2
  have HN2 := Lib.hid hn2
  have HW2 := Lib.hid hW2
  have HS2 := Lib.hid hs2
  simp only at q0 q1 q2 q3 q4 q5 q6
  clear hn2 hW2 hs2
  go_enter Tryd.func12, Tryd.ntmps12
  go_wp2_with fail
  rw [← HW2.out]
  refine (HR.out W2 HN2.out).mono ?_
  rintro r W3 ⟨rfl, hn3⟩
  replace q0 := cell_nw q0 hn3
  replace q1 := cell_nw q1 hn3
  replace q2 := cell_nw q2 hn3
  replace q3 := cell_nw q3 hn3
  replace q4 := cell_nw q4 hn3
  replace q5 := cell_nw q5 hn3
  replace q6 := cell_nw q6 hn3
  have HF3 := Lib.hid (HF2.out.nw hn3)
  have HN3 := Lib.hid (HN2.out.trans hn3)
  clear hn3
  go_wp2_with fail
  refine (HS.out W3 HN3.out).mono ?_
  rintro r W4 ⟨rfl, p', hu⟩
  obtain ⟨hs4, -, -, -, -, -, -, -, r0, r1, r2, r3, r4, z0, z1, z2, z3, z4⟩ := HF3.out.foot H.out hu.chg
  have HU := Lib.hid hu
  have HS3 := Lib.hid HF3.out.hs
  clear hu hs4
  go_wp2
  refine bodyPost_ret (v := res5 er fd ke va cn) ?_ rfl ⟨rfl, p', MUp.res HN3.out (Nat.le_succ _) HS3.out H.out HU.out ⟨er, fd, ke, va, cn⟩⟩
  simp [results, Tryd.results12, go_sem, r0, r1, r2, r3, r4]
/-- Do of any operation of any thread. -/
theorem do_any (w : World) (p : Pl) (s : Md) (h : MAt w p s) {N : Nat} (hok : s.Ok N) (hN : N ≤ 500000) (t : Int) (o : Ox) (hw : o.Wf) :
    Calls Tryd.prog 12 #[.pointer (some ⟨p.gm, 0, none⟩), .int .i64 t, opV o] w fun e w' => e = .returned (resV (doM s t o).1) ∧ ∃ p', MUp w p (doM s t o).2 p' w' := by
  by_cases hr : refM s t o = 0
  · have h0 : ¬ (t < 0 ∨ (s.th.length : Int) ≤ t) := fun h0 => by unfold refM at hr; rw [if_pos h0] at hr; cases hr
    have hc : chkO o = 0 := by
      rcases Decidable.em (chkO o = 0) with h1 | h1
      · exact h1
      · unfold refM at hr; rw [if_neg h0, if_pos h1] at hr; exact hr
    obtain ⟨t, rfl⟩ : ∃ n : Nat, t = n := ⟨t.toNat, by omega⟩
    obtain ⟨x, hx⟩ : ∃ x, s.th[t]? = some x := ⟨_, List.getElem?_eq_getElem (by omega)⟩
    have ett : ((t : Int)).toNat = t := rfl
    have hr2 : refE x o = 0 := by
      unfold refM at hr; rw [if_neg h0, if_neg (by simpa using hc), ett, hx] at hr; exact hr
    have e1 : doM s t o = perfM s t x o := by unfold doM; rw [if_neg (by simpa using hr), ett, hx]
    rw [e1]
    exact do_done w p s h hok hN t x hx o hw hr hc hr2
  · have e1 : doM s t o = (⟨refM s t o, false, 0, 0, 0⟩, s) := by unfold doM; rw [if_pos hr]
    rw [e1]
    exact do_refused w p s h t o hw hr
end Go.Proofs.YtdjcndpnjoahmaaDoor
namespace Go.Proofs.YtdjcndpnjoahmaaDoor
open Go.RowKit Go.Xt
/-! New, of, Session, Iterator, Pairs. -/
def Th0 : Th := ⟨false, false, 0, 0, false⟩
theorem tcells_made (n : Nat) : tcells (List.replicate n Th0) = thr (List.replicate n false) := by
  induction n with
  | zero => rfl
  | succ n ih => rw [List.replicate_succ, List.replicate_succ, tcells, List.flatMap_cons, ← tcells, ih]; rfl
set_option maxRecDepth 20000 in
set_option maxHeartbeats 8000000 in
theorem new_M (n : Nat) (s : Int) (w : World) (hn : 1 ≤ n ∧ n ≤ 8) (hs : 1 ≤ s ∧ s ≤ 64) :
    Calls Tryd.prog 18 #[cfgV n s] w fun e w' => (∃ p : Pl, e = .returned (.tuple #[.pointer (some ⟨p.gm, 0, none⟩), .int .i64 0]) ∧ MAt w' p ⟨s, [], List.replicate n Th0⟩ ∧ ∀ g ∈ p.foot, w.heap.size ≤ g) ∧ Nw w w' := by
  have hl := Lib.hid (fun W => layout_any n s W (by omega) hs)
  have HNn := Lib.hid hn
  obtain ⟨s1, s2⟩ := hs
  go_enter Tryd.func18, Tryd.ntmps18
  go_wp2_with fail
  refine (hl.out _).mono ?_
  rintro e w' ⟨rfl, dW, rfl⟩
  go_wp2_with fail
  refine (omapnew_any _).mono ?_
  rintro e w' ⟨rfl, rfl⟩
  go_upto_region 7 with (fail)
  obtain ⟨gp, hgp⟩ : ∃ g, g = ((w.alloc (.cells #[.int .i64 n, .int .i64 s, .int .u8 1, .int .i64 0, .int .u8 1, .int .i64 0, .slice none 0 0, .int .i64 0, .int .i64 0, .int .i64 0, .int .i64 0, .int .i64 0, .int .i64 0, .int .i64 1, .int .i64 1, .int .i64 0] 51)).ext none dW).heap.size := ⟨_, rfl⟩
  obtain ⟨W2, hW2⟩ : ∃ W2, W2 = ((w.alloc (.cells #[.int .i64 n, .int .i64 s, .int .u8 1, .int .i64 0, .int .u8 1, .int .i64 0, .slice none 0 0, .int .i64 0, .int .i64 0, .int .i64 0, .int .i64 0, .int .i64 0, .int .i64 0, .int .i64 1, .int .i64 1, .int .i64 0] 51)).ext none dW).alloc (.cells #[.slice none 0 0] 95) := ⟨_, rfl⟩
  rw [← hgp, ← hW2]
  have hn2 : Nw w W2 := by rw [hW2]; exact (by repeat (first | exact Xt.Nw.refl _ | refine Xt.Nw.drew ?_ | refine Xt.Nw.drewN ?_ _ | refine Xt.Nw.alloc ?_ _ | refine Xt.Nw.joined ?_ | refine Xt.Nw.drewd ?_ | refine Xt.Nw.drewdN ?_ | refine Xt.Nw.ext ?_ | refine Xt.Nw.ext_some ?_ (by assumption) | refine Xt.Nw.setCell ?_ (by simp [go_sem] <;> omega) _))
  have c0 : W2.cell? ⟨w.heap.size, 0, none⟩ = some (.int .i64 n) := by rw [hW2]; simp [go_sem]
  have c1 : W2.cell? ⟨w.heap.size, 1, none⟩ = some (.int .i64 s) := by rw [hW2]; simp [go_sem]
  have cp : W2.cell? ⟨gp, 0, none⟩ = some (.slice none 0 0) := by rw [hW2, hgp]; simp [go_sem]
  have cz : W2.frozen? ⟨gp, 0, none⟩ = false := by rw [hW2, hgp]; simp [go_sem]
  have hb1 : w.heap.size < gp := by
    have h := le_size (w.alloc (.cells #[.int .i64 n, .int .i64 s, .int .u8 1, .int .i64 0, .int .u8 1, .int .i64 0, .slice none 0 0, .int .i64 0, .int .i64 0, .int .i64 0, .int .i64 0, .int .i64 0, .int .i64 0, .int .i64 1, .int .i64 1, .int .i64 0] 51)) none dW
    rw [← hgp] at h
    simp at h; omega
  have hb2 : W2.heap.size = gp + 1 := by rw [hW2, hgp]; simp
  have HN2 := Lib.hid hn2
  have HCP := Lib.hid cp
  have HCZ := Lib.hid cz
  have HB1 := Lib.hid hb1
  have HB2 := Lib.hid hb2
  obtain ⟨i, hi1, hz0, hz1, hz2⟩ := info_parts thInfo
  obtain ⟨W3, hmk, hown, hgr⟩ := run_make_full W2.drew W2.heap.size 62 81 i (.agg #[.bool false, .bool false, .int .u64 0, .int .u64 0, .bool false]) 5 Tryd.underlying62 hi1 hz0 hz1 .i64 .i64 n (by rw [hz2]; omega) (by unfold maxLen; omega) (Nat.le_refl _)
  rw [thr_made hn] at hown
  have hd0 : W2.drew.heap.size = W2.heap.size := rfl
  rw [hd0] at hmk hown
  have hn3 : Nw W2 W3 := Nw.trans (Nw.drew (Nw.refl _)) (.of hgr)
  have e0 : W3.cell? ⟨w.heap.size, 0, none⟩ = some (.int .i64 n) := (World.cell?_of_block (hn3.grown.block _ (World.block_lt_of_cell? _ _ c0) (by simp))).trans c0
  have e1 : W3.cell? ⟨w.heap.size, 1, none⟩ = some (.int .i64 s) := (World.cell?_of_block (hn3.grown.block _ (World.block_lt_of_cell? _ _ c1) (by simp))).trans c1
  obtain ⟨gt, hgt⟩ : ∃ g, g = W2.heap.size := ⟨_, rfl⟩
  rw [← hgt] at hmk hown
  have HOW := Lib.hid hown
  have HN3 := Lib.hid hn3
  have HGT := Lib.hid hgt
  clear hW2 hgp hn2 cp cz hb1 hb2 hi1 hz0 hz1 hz2 hgr hown hn3 hgt hd0 hn
  go_region
  go_wp2
  have hs2 := HN2.out.grown.size
  have hs3 := HN3.out.grown.size
  have hgt2 : gt < W3.heap.size := by
    rcases own_forms HOW.out with ⟨_, h0⟩ | ⟨g, cap, hv, _, hin, _, _⟩
    · have := HNn.out; omega
    · injection hv with hv; injection hv with hv; injection hv with hv; rw [hv]; exact hin.lt
  have hA : Nw W3 (W3.alloc (.cells #[.int .i64 s, .pointer (some ⟨gp, 0, none⟩), .slice (some ⟨gt, 0, none⟩) n n] 64)) := (Nw.refl _).alloc _
  have hz : (W3.alloc (.cells #[.int .i64 s, .pointer (some ⟨gp, 0, none⟩), .slice (some ⟨gt, 0, none⟩) n n] 64)).heap.size = W3.heap.size + 1 := by simp
  have hgp2 : gp < W2.heap.size := by have := HB2.out; omega
  have h1 := HB1.out
  have h2 := HB2.out
  have h3 := HGT.out
  refine bodyPost_ret (results_tmp2 rfl _ _ _) rfl ⟨⟨⟨W3.heap.size, gt, gp, .slice none 0 0⟩, rfl, ⟨by simp [go_sem], by simp [go_sem], ⟨n, by simp [go_sem]⟩, fun o => by simp [go_sem], ?_, ⟨cell_nw HCP.out (HN3.out.trans hA), World.ownsRow_nil _ _ _ _, by simp [Value.ownBlock], (frozen_nw hgp2 (HN3.out.trans hA)).trans HCZ.out, List.Pairwise.nil⟩, by show W3.heap.size ≠ gt; omega, by show W3.heap.size ≠ gp; omega, by show gt ≠ gp; omega, by simp [Value.ownBlock], by simp [Value.ownBlock]⟩, ?_⟩, (HN2.out.trans HN3.out).trans hA⟩
  · refine ⟨n, ?_⟩
    rw [tcells_made, List.length_replicate]
    exact own_le (own_nw HOW.out hA) (Nat.zero_le _)
  · intro g hg
    rcases Pl.mem.1 hg with h9 | h9 | h9 | h9
    · have h9 : g = W3.heap.size := h9; omega
    · have h9 : g = gt := h9; omega
    · have h9 : g = gp := h9; omega
    · cases h9
/-- A thread, or one without anything. -/
def ofM (s : Md) (t : Int) : Th := if t < 0 ∨ (s.th.length : Int) ≤ t then Th0 else (s.th[t.toNat]?).getD Th0
abbrev thV (x : Th) : Value := .agg #[.bool x.op, .bool x.mo, .int .u64 x.lo, .int .u64 x.hi, .bool x.se]
theorem ofM_in {s : Md} {t : Nat} {x : Th} (h : s.th[t]? = some x) : ofM s t = x := by
  obtain ⟨p, _⟩ := List.getElem?_eq_some_iff.1 h
  unfold ofM
  rw [if_neg (by omega), Int.toNat_natCast, h]; rfl
set_option maxRecDepth 20000 in
set_option maxHeartbeats 4000000 in
theorem of_M (w : World) (p : Pl) (s : Md) (h : MAt w p s) (t : Int) :
    Calls Tryd.prog 35 #[.pointer (some ⟨p.gm, 0, none⟩), .int .i64 t] w fun e w' => e = .returned (thV (ofM s t)) ∧ Nw w w' := by
  by_cases h0 : t < 0 ∨ (s.th.length : Int) ≤ t
  · have e1 : ofM s t = Th0 := if_pos h0
    rw [e1]
    obtain ⟨gm, gt, gp, v⟩ := p
    obtain ⟨ct, m2⟩ : ∃ ct, w.cell? ⟨gm, 2, none⟩ = some (.slice (some ⟨gt, 0, none⟩) s.th.length ct) := h.m2
    haveI : In gm w := ⟨h.im⟩
    obtain ⟨n, hn⟩ : ∃ n, n = s.th.length := ⟨_, rfl⟩
    rw [← hn] at m2 h0
    simp only [Th0]
    clear h hn e1
    by_cases h1 : t < 0
    · have d0 : decide (t < 0) = true := by simpa using h1
      go_enter Tryd.func35, Tryd.ntmps35
      go_wp2
      refine bodyPost_ret (v := .agg #[.bool false, .bool false, .int .u64 0, .int .u64 0, .bool false]) ?_ rfl ⟨rfl, (by repeat (first | exact Xt.Nw.refl _ | refine Xt.Nw.drew ?_ | refine Xt.Nw.drewN ?_ _ | refine Xt.Nw.alloc ?_ _ | refine Xt.Nw.joined ?_ | refine Xt.Nw.drewd ?_ | refine Xt.Nw.drewdN ?_ | refine Xt.Nw.ext ?_ | refine Xt.Nw.ext_some ?_ (by assumption) | refine Xt.Nw.setCell ?_ (by simp [go_sem] <;> omega) _))⟩
      simp [results, Tryd.results35, go_sem]
    · have d0 : decide (t < 0) = false := by simpa using h1
      have d1 : decide ((n : Int) ≤ t) = true := by simp; omega
      go_enter Tryd.func35, Tryd.ntmps35
      go_wp2
      refine bodyPost_ret (v := .agg #[.bool false, .bool false, .int .u64 0, .int .u64 0, .bool false]) ?_ rfl ⟨rfl, (by repeat (first | exact Xt.Nw.refl _ | refine Xt.Nw.drew ?_ | refine Xt.Nw.drewN ?_ _ | refine Xt.Nw.alloc ?_ _ | refine Xt.Nw.joined ?_ | refine Xt.Nw.drewd ?_ | refine Xt.Nw.drewdN ?_ | refine Xt.Nw.ext ?_ | refine Xt.Nw.ext_some ?_ (by assumption) | refine Xt.Nw.setCell ?_ (by simp [go_sem] <;> omega) _))⟩
      simp [results, Tryd.results35, go_sem]
  · obtain ⟨t, rfl⟩ : ∃ n : Nat, t = n := ⟨t.toNat, by omega⟩
    obtain ⟨x, ht⟩ : ∃ x, s.th[t]? = some x := ⟨_, List.getElem?_eq_getElem (by omega)⟩
    rw [ofM_in ht]
    obtain ⟨p0, _⟩ := List.getElem?_eq_some_iff.1 ht
    obtain ⟨gm, gt, gp, v⟩ := p
    obtain ⟨c0, c1, c2, c3, c4⟩ := ThR.cells (gt := gt) h.th ht
    obtain ⟨ct, m2⟩ : ∃ ct, w.cell? ⟨gm, 2, none⟩ = some (.slice (some ⟨gt, 0, none⟩) s.th.length ct) := h.m2
    haveI : In gm w := ⟨h.im⟩
    haveI : In gt w := ⟨h.it⟩
    obtain ⟨n, hn⟩ : ∃ n, n = s.th.length := ⟨_, rfl⟩
    rw [← hn] at m2 p0
    have t0 : (0 : Int) ≤ (t : Int) := by omega
    have t1 : (t : Int) < (n : Int) := by omega
    have d0 : decide ((t : Int) < 0) = false := by rw [decide_eq_false_iff_not]; omega
    have d1 : decide ((n : Int) ≤ (t : Int)) = false := by rw [decide_eq_false_iff_not]; omega
    obtain ⟨xo, xm, xl, xh, xs⟩ := x
    simp only at c0 c1 c2 c3 c4 ⊢
    clear h ht hn h0
    go_enter Tryd.func35, Tryd.ntmps35
    go_wp2
    refine bodyPost_ret (v := .agg #[.bool xo, .bool xm, .int .u64 xl, .int .u64 xh, .bool xs]) ?_ rfl ⟨rfl, (by repeat (first | exact Xt.Nw.refl _ | refine Xt.Nw.drew ?_ | refine Xt.Nw.drewN ?_ _ | refine Xt.Nw.alloc ?_ _ | refine Xt.Nw.joined ?_ | refine Xt.Nw.drewd ?_ | refine Xt.Nw.drewdN ?_ | refine Xt.Nw.ext ?_ | refine Xt.Nw.ext_some ?_ (by assumption) | refine Xt.Nw.setCell ?_ (by simp [go_sem] <;> omega) _))⟩
    simp [results, Tryd.results35, go_sem, *]
set_option maxRecDepth 20000 in
set_option maxHeartbeats 4000000 in
theorem session_M (w : World) (p : Pl) (s : Md) (h : MAt w p s) (t : Int) :
    Calls Tryd.prog 17 #[.pointer (some ⟨p.gm, 0, none⟩), .int .i64 t] w fun e w' => e = .returned (.bool (ofM s t).se) ∧ Nw w w' := by
  have H := Lib.hid (of_M w p s h t)
  obtain ⟨x, hx⟩ : ∃ x, x = ofM s t := ⟨_, rfl⟩
  simp only [← hx] at H ⊢
  clear hx
  obtain ⟨xo, xm, xl, xh, xs⟩ := x
  simp only at H ⊢
  clear h
  go_enter Tryd.func17, Tryd.ntmps17
  go_wp2_with fail
  refine H.out.mono ?_
  rintro e w' ⟨rfl, dW, rfl⟩
  go_wp2
  go_ret
  exact ⟨rfl, (by repeat (first | exact Xt.Nw.refl _ | refine Xt.Nw.drew ?_ | refine Xt.Nw.drewN ?_ _ | refine Xt.Nw.alloc ?_ _ | refine Xt.Nw.joined ?_ | refine Xt.Nw.drewd ?_ | refine Xt.Nw.drewdN ?_ | refine Xt.Nw.ext ?_ | refine Xt.Nw.ext_some ?_ (by assumption) | refine Xt.Nw.setCell ?_ (by simp [go_sem] <;> omega) _))⟩
set_option maxRecDepth 20000 in
set_option maxHeartbeats 4000000 in
theorem iter_M (w : World) (p : Pl) (s : Md) (h : MAt w p s) (t : Int) :
    Calls Tryd.prog 19 #[.pointer (some ⟨p.gm, 0, none⟩), .int .i64 t] w fun e w' => e = .returned (.tuple #[.agg #[.int .u64 (ofM s t).lo, .int .u64 (ofM s t).hi], .bool (ofM s t).mo, .bool (ofM s t).op]) ∧ Nw w w' := by
  have H := Lib.hid (fun W (hw : Nw w W) => of_M W p s (h.nw hw) t)
  haveI : In p.gm w := ⟨h.im⟩
  obtain ⟨x, hx⟩ : ∃ x, x = ofM s t := ⟨_, rfl⟩
  simp only [← hx] at H ⊢
  clear hx
  obtain ⟨xo, xm, xl, xh, xs⟩ := x
  simp only at H ⊢
  clear h
  go_enter Tryd.func19, Tryd.ntmps19
  go_wp2_with fail
  have hA : Nw w (w.alloc (.cells #[.int .u64 0, .int .u64 0] 57)) := (Nw.refl _).alloc _
  refine (H.out _ hA).mono ?_
  rintro e W2 ⟨rfl, hn2⟩
  have a0 : W2.cell? ⟨w.heap.size, 0, none⟩ = some (.int .u64 0) := cell_nw (by simp [go_sem]) hn2
  have a1 : W2.cell? ⟨w.heap.size, 1, none⟩ = some (.int .u64 0) := cell_nw (by simp [go_sem]) hn2
  have z0 : W2.frozen? ⟨w.heap.size, 0, none⟩ = false := (frozen_nw (by simp) hn2).trans (by simp [go_sem])
  have z1 : W2.frozen? ⟨w.heap.size, 1, none⟩ = false := (frozen_nw (by simp) hn2).trans (by simp [go_sem])
  haveI : In w.heap.size W2 := ⟨World.block_lt_of_cell? W2 _ a0⟩
  have HN := Lib.hid (hA.trans hn2)
  clear hA hn2
  go_upto_region 2 with (fail)
  go_region
  go_wp2
  refine bodyPost_ret (v := .tuple #[.agg #[.int .u64 xl, .int .u64 xh], .bool xm, .bool xo]) ?_ rfl ⟨rfl, ?_⟩
  · simp [results, Tryd.results19, go_sem, a0, a1]
  · repeat (first | refine Xt.Nw.drew ?_ | refine Xt.Nw.alloc ?_ _ | refine Xt.Nw.setCell ?_ (by simp) _)
    exact HN.out
set_option maxRecDepth 20000 in
set_option maxHeartbeats 4000000 in
theorem opairs_M {w : World} {gp : Nat} {v : Value} {l : List (Int × Int)} (h : OM w gp v l) (hn : l.length ≤ 1000000) :
    Calls Tryd.prog 29 #[.pointer (some ⟨gp, 0, none⟩)] w fun e w' => ∃ v', e = .returned v' ∧ w'.ownsRow w.heap.size 85 2 v' l.length (pcells l) ∧ Nw w w' := by
  have p0 := h.p0
  haveI : In gp w := ⟨h.lt⟩
  rcases h.form with ⟨rfl, rfl⟩ | ⟨g, c, rfl, -, -, hin⟩
  · have HR := Lib.hid (⟨rfl, fun h => by omega⟩ : Rd w 2 none 0 (pcells []))
    clear h
    go_enter Tryd.func29, Tryd.ntmps29
    go_wp2_with fail
    refine (clone_any none 0 0 [] w HR.out (by omega) (fun _ => ⟨rfl, rfl⟩)).mono ?_
    rintro e w' ⟨v', rfl, hown, dW, rfl⟩
    go_wp2
    exact bodyPost_ret (results_tmp rfl _ _ _) rfl ⟨v', rfl, hown, (by repeat (first | exact Xt.Nw.refl _ | refine Xt.Nw.drew ?_ | refine Xt.Nw.drewN ?_ _ | refine Xt.Nw.alloc ?_ _ | refine Xt.Nw.joined ?_ | refine Xt.Nw.drewd ?_ | refine Xt.Nw.drewdN ?_ | refine Xt.Nw.ext ?_ | refine Xt.Nw.ext_some ?_ (by assumption) | refine Xt.Nw.setCell ?_ (by simp [go_sem] <;> omega) _))⟩
  · have HR := Lib.hid (⟨pcells_len l, fun hl => ⟨g, 0, rfl, hin.lt, fun j u hu => by
        have := (List.getElem?_eq_some_iff.1 hu).1
        rw [pcells_len] at this
        rw [Nat.zero_add, h.row.cellAt _ this]; exact hu⟩⟩ : Rd w 2 (some ⟨g, 0, none⟩) l.length (pcells l))
    clear h
    go_enter Tryd.func29, Tryd.ntmps29
    go_wp2_with fail
    refine (clone_any _ l.length c l w HR.out hn (fun h => by cases h)).mono ?_
    rintro e w' ⟨v', rfl, hown, dW, rfl⟩
    go_wp2
    exact bodyPost_ret (results_tmp rfl _ _ _) rfl ⟨v', rfl, hown, (by repeat (first | exact Xt.Nw.refl _ | refine Xt.Nw.drew ?_ | refine Xt.Nw.drewN ?_ _ | refine Xt.Nw.alloc ?_ _ | refine Xt.Nw.joined ?_ | refine Xt.Nw.drewd ?_ | refine Xt.Nw.drewdN ?_ | refine Xt.Nw.ext ?_ | refine Xt.Nw.ext_some ?_ (by assumption) | refine Xt.Nw.setCell ?_ (by simp [go_sem] <;> omega) _))⟩
set_option maxRecDepth 20000 in
set_option maxHeartbeats 4000000 in
theorem pairs_M (w : World) (p : Pl) (s : Md) (h : MAt w p s) (hl : s.l.length ≤ 1000000) :
    Calls Tryd.prog 15 #[.pointer (some ⟨p.gm, 0, none⟩)] w fun e w' => ∃ v', e = .returned v' ∧ w'.ownsRow w.heap.size 85 2 v' s.l.length (pcells s.l) ∧ Nw w w' := by
  have HP := Lib.hid (opairs_M h.om hl)
  have m1 := h.m1
  have im := h.im
  obtain ⟨gm, gt, gp, v⟩ := p
  simp only at HP m1 im ⊢
  haveI : In gm w := ⟨im⟩
  clear h im
  go_enter Tryd.func15, Tryd.ntmps15
  go_wp2_with fail
  refine HP.out.mono ?_
  rintro e w' ⟨v', rfl, hown, dW, rfl⟩
  go_wp2
  exact bodyPost_ret (results_tmp rfl _ _ _) rfl ⟨v', rfl, hown, (by repeat (first | exact Xt.Nw.refl _ | refine Xt.Nw.drew ?_ | refine Xt.Nw.drewN ?_ _ | refine Xt.Nw.alloc ?_ _ | refine Xt.Nw.joined ?_ | refine Xt.Nw.drewd ?_ | refine Xt.Nw.drewdN ?_ | refine Xt.Nw.ext ?_ | refine Xt.Nw.ext_some ?_ (by assumption) | refine Xt.Nw.setCell ?_ (by simp [go_sem] <;> omega) _))⟩
end Go.Proofs.YtdjcndpnjoahmaaDoor
namespace Go.Proofs.YtdjcndpnjoahmaaDoor
open Go.RowKit Go.Xt
/-! The model, plain: what every operation keeps; a scan. -/
theorem set_all {P : Th → Prop} {l : List Th} (h : ∀ x ∈ l, P x) {k : Nat} {y : Th} (hy : P y) : ∀ x ∈ l.set k y, P x := fun x hx => by
  rcases List.mem_or_eq_of_mem_set hx with h1 | rfl
  · exact h x h1
  · exact hy
theorem Md.Ok.mono {s : Md} {N N' : Nat} (h : s.Ok N) (hn : N ≤ N') : s.Ok N' := ⟨Nat.le_trans h.len hn, h.asc, h.u64, h.thn, h.th⟩
theorem Md.Ok.setT {s : Md} {N : Nat} (h : s.Ok N) (t : Nat) {y : Th} (hy : y.Ok) : Md.Ok { s with th := s.th.set t y } N :=
  ⟨h.len, h.asc, h.u64, by show (s.th.set t y).length ≤ 1000; rw [List.length_set]; exact h.thn, set_all h.th hy⟩
theorem Md.Ok.setL {s : Md} {N N' : Nat} (h : s.Ok N) {l : List (Int × Int)} (h1 : _root_.Go.Proofs.YtdjcndpnjoahmaaDoor.asc l) (h2 : U64s l) (h3 : l.length ≤ N') : Md.Ok { s with l := l } N' :=
  ⟨h3, h1, h2, h.thn, h.th⟩
theorem Th.Ok.fin {x : Th} (h : x.Ok) : x.fin.Ok := ⟨fun h => (by cases h), h.2.1, fun h => (by cases h)⟩
theorem Th.Ok.from_ {x : Th} (h : x.Ok) (k : Int) (hk : 0 ≤ k) : (x.from_ k).Ok := by
  unfold Th.from_
  split
  · rename_i hc
    have h1 := h.1 hc.1
    exact ⟨fun _ => ⟨by show 0 ≤ max x.lo k; omega, by show max x.lo k ≤ x.hi; omega, h1.2.2⟩, h.2.1, h.2.2⟩
  · exact h.fin
theorem Th.Ok.after {x : Th} (h : x.Ok) (k : Int) (hk : 0 ≤ k) : (x.after k).Ok := by
  unfold Th.after
  split
  · exact h.fin
  · exact h.from_ _ (by omega)
theorem U64s.put {l : List (Int × Int)} (h : U64s l) {k x : Int} (hk : 0 ≤ k ∧ k < 18446744073709551616) (hx : 0 ≤ x ∧ x < 18446744073709551616) : U64s (putL k x l) := fun z hz => by
  rcases put_mem hz with h1 | rfl
  · exact h z h1
  · exact ⟨hk, hx⟩
theorem U64s.sub {l m : List (Int × Int)} (h : U64s l) (hs : m.Sublist l) : U64s m := fun z hz => h z (hs.subset hz)
theorem U64s.mv {b : Int} : ∀ (r : List (Int × Int)) {l : List (Int × Int)}, U64s l → (∀ p ∈ r, (0 ≤ p.1 + b ∧ p.1 + b < 18446744073709551616) ∧ 0 ≤ p.2 ∧ p.2 < 18446744073709551616) → U64s (mvL b r l)
  | [], l, h, _ => h
  | p :: r, l, h, hr => U64s.mv r (h.put (hr p (by simp)).1 (hr p (by simp)).2) (fun q hq => hr q (by simp [hq]))
theorem perfM_ok {s : Md} {N : Nat} (hok : s.Ok N) {t : Nat} {x : Th} (ht : s.th[t]? = some x) {o : Ox} (hw : o.Wf) (hc : chkO o = 0) (hr : refE x o = 0) : (perfM s t x o).2.Ok (N + 1) := by
  have hx := hok.th x (List.mem_of_getElem? ht)
  obtain ⟨hk, hab, hby⟩ := chk_formed hc
  have w1 := hw.key
  have w2 := hw.hi
  have w3 := hw.val
  have w5 := hw.by_
  have hl1 : s.l.length ≤ N + 1 := Nat.le_succ_of_le hok.len
  unfold perfM
  by_cases k1 : o.k = 1
  · rw [if_pos k1]
    show (openM s t x).Ok (N + 1)
    unfold openM
    split
    · exact hok.mono (Nat.le_succ N)
    · exact (hok.mono (Nat.le_succ N)).setT t ⟨hx.1, fun _ => rfl, hx.2.2⟩
  rw [if_neg k1]
  by_cases k2 : o.k = 2
  · rw [if_pos k2]
    have hop : x.op = false := by
      cases hop : x.op with
      | false => rfl
      | true =>
        exfalso
        unfold refE at hr
        rw [if_neg k1, if_neg (by rw [hx.2.1 hop]; simp), if_pos ⟨.inl k2, hop⟩] at hr
        cases hr
    refine (hok.mono (Nat.le_succ N)).setT t ⟨hx.1, fun h => ?_, hx.2.2⟩
    have h : x.op = true := h
    rw [hop] at h; cases h
  rw [if_neg k2]
  by_cases k3 : o.k = 3
  · rw [if_pos k3]; exact hok.mono (Nat.le_succ N)
  rw [if_neg k3]
  by_cases k4 : o.k = 4
  · rw [if_pos k4]
    exact hok.setL (put_asc _ _ hok.asc) (hok.u64.put w1 w3) (Nat.le_trans (put_le _ _ _) (Nat.succ_le_succ hok.len))
  rw [if_neg k4]
  by_cases k5 : o.k = 5
  · rw [if_pos k5]
    show Md.Ok { s with l := addL o.key o.val s.l } (N + 1)
    unfold addL
    split
    · exact hok.mono (Nat.le_succ N)
    · exact hok.setL (put_asc _ _ hok.asc) (hok.u64.put w1 w3) (Nat.le_trans (put_le _ _ _) (Nat.succ_le_succ hok.len))
  rw [if_neg k5]
  by_cases k6 : o.k = 6
  · rw [if_pos k6]
    exact hok.setL (asc_sub hok.asc (del_sub _ _)) (hok.u64.sub (del_sub _ _)) (Nat.le_trans (del_sub _ _).length_le hl1)
  rw [if_neg k6]
  by_cases k7 : o.k = 7
  · rw [if_pos k7]
    show Md.Ok { s with l := casL o.key o.old o.val s.l } (N + 1)
    unfold casL
    split
    · exact hok.setL (put_asc _ _ hok.asc) (hok.u64.put w1 w3) (Nat.le_trans (put_le _ _ _) (Nat.succ_le_succ hok.len))
    · exact hok.mono (Nat.le_succ N)
  rw [if_neg k7]
  by_cases k8 : o.k = 8
  · rw [if_pos k8]
    have hb := hby k8
    refine hok.setL (mvL_asc _ _ _ (asc_sub hok.asc (outR_sub _ _ _))) (U64s.mv _ (hok.u64.sub (outR_sub _ _ _)) fun q hq => ?_) ?_
    · have h1 := List.mem_filter.1 hq
      have h2 := hok.u64 q h1.1
      have h3 : o.key ≤ q.1 ∧ q.1 ≤ o.hi := by simpa using h1.2
      exact ⟨by omega, h2.2⟩
    · have h1 := mvL_len o.by_ (inR o.key o.hi s.l) (outR o.key o.hi s.l)
      have h2 := outR_inR o.key o.hi s.l
      exact Nat.le_trans h1 (by omega)
  rw [if_neg k8]
  by_cases k9 : o.k = 9
  · rw [if_pos k9]
    exact hok.setL (asc_sub hok.asc (outR_sub _ _ _)) (hok.u64.sub (outR_sub _ _ _)) (Nat.le_trans (outR_sub _ _ _).length_le hl1)
  rw [if_neg k9]
  by_cases k10 : o.k = 10
  · rw [if_pos k10]; exact hok.mono (Nat.le_succ N)
  rw [if_neg k10]
  by_cases k11 : o.k = 11
  · rw [if_pos k11]
    have hse : x.se = true := by
      cases hse : x.se with
      | true => rfl
      | false =>
        exfalso
        unfold refE at hr
        rw [if_neg k1, if_pos hse] at hr
        cases hr
    exact (hok.mono (Nat.le_succ N)).setT t ⟨fun _ => ⟨w1.1, hab (by unfold uH; simp [k11]), w2.2⟩, fun _ => hse, fun _ => rfl⟩
  rw [if_neg k11]
  by_cases k12 : o.k = 12
  · rw [if_pos k12]
    cases hq : nextL x.lo x.hi s.l with
    | none => exact (hok.mono (Nat.le_succ N)).setT t hx.fin
    | some q => exact (hok.mono (Nat.le_succ N)).setT t (hx.after _ (hok.u64 q (nextL_mem hq).1).1.1)
  rw [if_neg k12]
  by_cases k13 : o.k = 13
  · rw [if_pos k13]; exact (hok.mono (Nat.le_succ N)).setT t (hx.from_ _ w1.1)
  rw [if_neg k13]
  by_cases k14 : o.k = 14
  · rw [if_pos k14]
    exact (hok.mono (Nat.le_succ N)).setT t ⟨fun h => (by cases h), fun h => (by cases h), fun h => (by cases h)⟩
  rw [if_neg k14]
  exact hok.mono (Nat.le_succ N)
theorem refM_zero {s : Md} {t : Int} {o : Ox} (hr : refM s t o = 0) : ∃ (n : Nat) (x : Th), t = n ∧ s.th[n]? = some x ∧ chkO o = 0 ∧ refE x o = 0 ∧ doM s t o = perfM s n x o := by
  have h0 : ¬ (t < 0 ∨ (s.th.length : Int) ≤ t) := fun h0 => by unfold refM at hr; rw [if_pos h0] at hr; cases hr
  have hc : chkO o = 0 := by
    rcases Decidable.em (chkO o = 0) with h1 | h1
    · exact h1
    · unfold refM at hr; rw [if_neg h0, if_pos h1] at hr; exact hr
  obtain ⟨t, rfl⟩ : ∃ n : Nat, t = n := ⟨t.toNat, by omega⟩
  obtain ⟨x, hx⟩ : ∃ x, s.th[t]? = some x := ⟨_, List.getElem?_eq_getElem (by omega)⟩
  refine ⟨t, x, rfl, hx, hc, ?_, ?_⟩
  · unfold refM at hr; rw [if_neg h0, if_neg (by simpa using hc), Int.toNat_natCast, hx] at hr; exact hr
  · unfold doM; rw [if_neg (by simpa using hr), Int.toNat_natCast, hx]
theorem doM_ok {s : Md} {N : Nat} (hok : s.Ok N) (t : Int) {o : Ox} (hw : o.Wf) : (doM s t o).2.Ok (N + 1) := by
  by_cases hr : refM s t o = 0
  · obtain ⟨n, x, rfl, hx, hc, h2, e⟩ := refM_zero hr
    rw [e]; exact perfM_ok hok hx hw hc h2
  · unfold doM; rw [if_pos hr]; exact hok.mono (Nat.le_succ N)
theorem perfM_len (s : Md) (t : Nat) (x : Th) (o : Ox) : (perfM s t x o).2.th.length = s.th.length ∧ (perfM s t x o).2.slots = s.slots := by
  have hs : ∀ y : Th, (s.th.set t y).length = s.th.length := fun y => List.length_set ..
  unfold perfM
  by_cases k1 : o.k = 1
  · rw [if_pos k1]
    show (openM s t x).th.length = s.th.length ∧ (openM s t x).slots = s.slots
    unfold openM
    split
    · exact ⟨rfl, rfl⟩
    · exact ⟨hs _, rfl⟩
  rw [if_neg k1]
  by_cases k2 : o.k = 2
  · rw [if_pos k2]; first | exact ⟨rfl, rfl⟩ | exact ⟨hs _, rfl⟩
  rw [if_neg k2]
  by_cases k3 : o.k = 3
  · rw [if_pos k3]; first | exact ⟨rfl, rfl⟩ | exact ⟨hs _, rfl⟩
  rw [if_neg k3]
  by_cases k4 : o.k = 4
  · rw [if_pos k4]; first | exact ⟨rfl, rfl⟩ | exact ⟨hs _, rfl⟩
  rw [if_neg k4]
  by_cases k5 : o.k = 5
  · rw [if_pos k5]; first | exact ⟨rfl, rfl⟩ | exact ⟨hs _, rfl⟩
  rw [if_neg k5]
  by_cases k6 : o.k = 6
  · rw [if_pos k6]; first | exact ⟨rfl, rfl⟩ | exact ⟨hs _, rfl⟩
  rw [if_neg k6]
  by_cases k7 : o.k = 7
  · rw [if_pos k7]; first | exact ⟨rfl, rfl⟩ | exact ⟨hs _, rfl⟩
  rw [if_neg k7]
  by_cases k8 : o.k = 8
  · rw [if_pos k8]; first | exact ⟨rfl, rfl⟩ | exact ⟨hs _, rfl⟩
  rw [if_neg k8]
  by_cases k9 : o.k = 9
  · rw [if_pos k9]; first | exact ⟨rfl, rfl⟩ | exact ⟨hs _, rfl⟩
  rw [if_neg k9]
  by_cases k10 : o.k = 10
  · rw [if_pos k10]; first | exact ⟨rfl, rfl⟩ | exact ⟨hs _, rfl⟩
  rw [if_neg k10]
  by_cases k11 : o.k = 11
  · rw [if_pos k11]; first | exact ⟨rfl, rfl⟩ | exact ⟨hs _, rfl⟩
  rw [if_neg k11]
  by_cases k12 : o.k = 12
  · rw [if_pos k12]
    cases nextL x.lo x.hi s.l with
    | none => exact ⟨hs _, rfl⟩
    | some q => exact ⟨hs _, rfl⟩
  rw [if_neg k12]
  by_cases k13 : o.k = 13
  · rw [if_pos k13]; first | exact ⟨rfl, rfl⟩ | exact ⟨hs _, rfl⟩
  rw [if_neg k13]
  by_cases k14 : o.k = 14
  · rw [if_pos k14]; first | exact ⟨rfl, rfl⟩ | exact ⟨hs _, rfl⟩
  rw [if_neg k14]
  exact ⟨rfl, rfl⟩
theorem doM_len (s : Md) (t : Int) (o : Ox) : (doM s t o).2.th.length = s.th.length ∧ (doM s t o).2.slots = s.slots := by
  by_cases hr : refM s t o = 0
  · obtain ⟨n, x, rfl, hx, hc, h2, e⟩ := refM_zero hr
    rw [e]; exact perfM_len _ _ _ _
  · unfold doM; rw [if_pos hr]; exact ⟨rfl, rfl⟩
theorem doM_at {s : Md} {t : Nat} {x : Th} (hx : s.th[t]? = some x) {o : Ox} (hc : chkO o = 0) : doM s t o = if refE x o ≠ 0 then (⟨refE x o, false, 0, 0, 0⟩, s) else perfM s t x o := by
  obtain ⟨p, _⟩ := List.getElem?_eq_some_iff.1 hx
  have e1 : refM s t o = refE x o := by
    unfold refM; rw [if_neg (by omega), if_neg (by simpa using hc), Int.toNat_natCast, hx]
  unfold doM
  rw [e1, Int.toNat_natCast, hx]
end Go.Proofs.YtdjcndpnjoahmaaDoor
namespace Go.Proofs.YtdjcndpnjoahmaaDoor
open Go.RowKit Go.Xt
/-! A scan, plain. -/
abbrev oEnd : Ox := ⟨14, 0, 0, 0, 0, 0, 0⟩
abbrev oOpen : Ox := ⟨1, 0, 0, 0, 0, 0, 0⟩
abbrev oNext : Ox := ⟨12, 0, 0, 0, 0, 0, 0⟩
abbrev oScan (lo hi : Int) : Ox := ⟨11, lo, hi, 0, 0, 0, 0⟩
abbrev oSeek (k : Int) : Ox := ⟨13, k, 0, 0, 0, 0, 0⟩
abbrev r0 : Rs := ⟨0, false, 0, 0, 0⟩
abbrev rEnd : Rs := ⟨14, false, 0, 0, 0⟩
theorem chk_end : chkO oEnd = 0 := by decide
theorem chk_open : chkO oOpen = 0 := by decide
theorem chk_next : chkO oNext = 0 := by decide
theorem chk_scan {lo hi : Int} (h : lo ≤ hi) : chkO (oScan lo hi) = 0 := by
  have h2 : ¬ hi < lo := by omega
  simp [chkO, Ox.formed, uK, uH, uV, uO, uB, uD, h2]
theorem chk_seek (k : Int) : chkO (oSeek k) = 0 := by
  simp [chkO, Ox.formed, uK, uH, uV, uO, uB, uD]
/-- No iterator is open. -/
def Shut (s : Md) : Prop := ∃ x, s.th[0]? = some x ∧ x.op = false
theorem shut_end {s : Md} {N : Nat} (hok : s.Ok N) (hn : 0 < s.th.length) : Shut (doM s 0 oEnd).2 := by
  obtain ⟨x, hx⟩ : ∃ x, s.th[0]? = some x := ⟨_, List.getElem?_eq_getElem hn⟩
  have ho := hok.th x (List.mem_of_getElem? hx)
  have e := doM_at (t := 0) hx chk_end
  have e : doM s 0 oEnd = _ := e
  rw [e]
  split
  · rename_i hr
    refine ⟨x, hx, ?_⟩
    cases hop : x.op with
    | false => rfl
    | true =>
      exfalso
      refine hr ?_
      have hse := ho.2.1 hop
      simp [refE, hse, hop]
  · refine ⟨⟨false, false, 0, 0, x.se⟩, ?_, rfl⟩
    simp only [perfM]
    exact set_at hx _
theorem shut_open {s : Md} (h : Shut s) : Shut (doM s 0 oOpen).2 := by
  obtain ⟨x, hx, hop⟩ := h
  have e : doM s 0 oOpen = _ := doM_at (t := 0) hx chk_open
  rw [e]
  split
  · exact ⟨x, hx, hop⟩
  · show Shut (openM s 0 x)
    unfold openM
    split
    · exact ⟨x, hx, hop⟩
    · exact ⟨_, set_at hx _, hop⟩
/-- An iterator from a key on, or at its end. -/
def itAt (L hi : Int) : Th := if L ≤ hi then ⟨true, true, L, hi, true⟩ else ⟨true, false, 0, 0, true⟩
theorem scan_do {s : Md} (h : Shut s) (hse : (ofM s 0).se = true) {lo hi : Int} (hlh : lo ≤ hi) : (doM s 0 (oScan lo hi)).1 = r0 ∧ (doM s 0 (oScan lo hi)).2.l = s.l ∧ (doM s 0 (oScan lo hi)).2.th[0]? = some (itAt lo hi) := by
  obtain ⟨x, hx, hop⟩ := h
  have e : doM s 0 (oScan lo hi) = _ := doM_at (t := 0) hx (chk_scan hlh)
  have e2 : ofM s ((0 : Nat) : Int) = x := ofM_in hx
  have hse : x.se = true := by rw [← e2]; exact hse
  have e3 : perfM s 0 x (oScan lo hi) = (r0, { s with th := s.th.set 0 ⟨true, true, lo, hi, x.se⟩ }) := by simp [perfM]
  rw [e, if_neg (by simp [refE, hse, hop]), e3]
  refine ⟨rfl, rfl, ?_⟩
  have := set_at hx (⟨true, true, lo, hi, x.se⟩ : Th)
  unfold itAt
  rw [if_pos hlh]
  rw [hse] at this ⊢
  exact this
theorem seek_do {s : Md} {lo hi k : Int} (hlh : lo ≤ hi) (hs : s.th[0]? = some (itAt lo hi)) (hk : lo ≤ k) : (doM s 0 (oSeek k)).1 = r0 ∧ (doM s 0 (oSeek k)).2.l = s.l ∧ (doM s 0 (oSeek k)).2.th[0]? = some (itAt k hi) := by
  have hx : s.th[0]? = some ⟨true, true, lo, hi, true⟩ := by rw [hs]; unfold itAt; rw [if_pos hlh]
  have e : doM s 0 (oSeek k) = _ := doM_at (t := 0) hx (chk_seek k)
  have hk2 : ¬ k < lo := by omega
  have e2 : perfM s 0 ⟨true, true, lo, hi, true⟩ (oSeek k) = (r0, { s with th := s.th.set 0 (Th.from_ ⟨true, true, lo, hi, true⟩ k) }) := by simp [perfM]
  rw [e, if_neg (by simp [refE, hk2]), e2]
  refine ⟨rfl, rfl, ?_⟩
  have := set_at hx (Th.from_ ⟨true, true, lo, hi, true⟩ k)
  have e3 : Th.from_ ⟨true, true, lo, hi, true⟩ k = itAt k hi := by
    unfold Th.from_ itAt
    by_cases h : k ≤ hi
    · rw [if_pos ⟨rfl, h⟩, if_pos h]
      have : max lo k = k := by omega
      simp [this]
    · rw [if_neg (fun c => h c.2), if_neg h]; rfl
  show (s.th.set 0 (Th.from_ ⟨true, true, lo, hi, true⟩ k))[0]? = _
  rw [e3] at this ⊢
  exact this
/-- What was returned so far, and what is still to come. -/
structure Sc (l : List (Int × Int)) (L0 hi : Int) (i : Nat) (L : Int) : Prop where
  ge : L0 ≤ L
  done : ∀ (j : Nat) (p : Int × Int), l[j]? = some p → j < i → ¬ (L ≤ p.1 ∧ p.1 ≤ hi)
  todo : ∀ (j : Nat) (p : Int × Int), l[j]? = some p → i ≤ j → L0 ≤ p.1 → p.1 ≤ hi → L ≤ p.1
theorem Sc.start (l : List (Int × Int)) (L0 hi : Int) : Sc l L0 hi 0 L0 := ⟨Int.le_refl _, fun j p _ h => by omega, fun j p _ _ h _ => h⟩
theorem Sc.skip {l : List (Int × Int)} {L0 hi L : Int} {i : Nat} (h : Sc l L0 hi i L) {p : Int × Int} (hp : l[i]? = some p) (hn : ¬ (L0 ≤ p.1 ∧ p.1 ≤ hi)) : Sc l L0 hi (i + 1) L :=
  ⟨h.ge, fun j q hq hj hc => by
    rcases (by omega : j < i ∨ j = i) with h1 | rfl
    · exact h.done j q hq h1 hc
    · rw [hp] at hq; cases hq
      exact hn ⟨by have := h.ge; omega, hc.2⟩, fun j q hq hj h1 h2 => h.todo j q hq (by omega) h1 h2⟩
theorem asc_lt {l : List (Int × Int)} (ha : asc l) {i j : Nat} {p q : Int × Int} (hp : l[i]? = some p) (hq : l[j]? = some q) (hij : i < j) : p.1 < q.1 := by
  obtain ⟨h1, rfl⟩ := List.getElem?_eq_some_iff.1 hp
  obtain ⟨h2, rfl⟩ := List.getElem?_eq_some_iff.1 hq
  exact List.pairwise_iff_getElem.1 ha i j h1 h2 hij
theorem Sc.take {l : List (Int × Int)} {L0 hi L : Int} {i : Nat} (ha : asc l) (h : Sc l L0 hi i L) {p : Int × Int} (hp : l[i]? = some p) (h0 : L0 ≤ p.1) : Sc l L0 hi (i + 1) (p.1 + 1) :=
  ⟨by omega, fun j q hq hj hc => by
    rcases (by omega : j < i ∨ j = i) with h1 | rfl
    · have := asc_lt ha hq hp h1; omega
    · rw [hp] at hq; cases hq; omega, fun j q hq hj h1 h2 => by have := asc_lt ha hp hq (by omega); omega⟩
theorem nextL_first {L hi : Int} : ∀ (l : List (Int × Int)) (i : Nat) (p : Int × Int), (∀ j q, l[j]? = some q → j < i → ¬ (L ≤ q.1 ∧ q.1 ≤ hi)) → l[i]? = some p → L ≤ p.1 → p.1 ≤ hi → nextL L hi l = some p
  | [], i, p, _, h, _, _ => by simp at h
  | y :: l, 0, p, _, h, h1, h2 => by
    simp at h; subst h
    unfold nextL inR
    rw [List.filter_cons_of_pos (by simp; omega)]; rfl
  | y :: l, i + 1, p, hd, h, h1, h2 => by
    have hy := hd 0 y rfl (by omega)
    unfold nextL inR
    rw [List.filter_cons_of_neg (by simp; omega)]
    exact nextL_first l i p (fun j q hq hj => hd (j + 1) q (by simpa using hq) (by omega)) (by simpa using h) h1 h2
theorem next_do {s : Md} {L0 hi L : Int} {i : Nat} (hs : s.th[0]? = some (itAt L hi)) (hh : hi < 18446744073709551616) (h : Sc s.l L0 hi i L) {p : Int × Int} (hp : s.l[i]? = some p) (h0 : L0 ≤ p.1) (h1 : p.1 ≤ hi) : (doM s 0 oNext).1 = ⟨0, true, p.1, p.2, 0⟩ ∧ (doM s 0 oNext).2.l = s.l ∧ (doM s 0 oNext).2.th[0]? = some (itAt (p.1 + 1) hi) := by
  have hLp := h.todo i p hp (Nat.le_refl _) h0 h1
  have hx : s.th[0]? = some ⟨true, true, L, hi, true⟩ := by rw [hs]; unfold itAt; rw [if_pos (by omega)]
  have e : doM s 0 oNext = _ := doM_at (t := 0) hx chk_next
  have hn := nextL_first s.l i p h.done hp hLp h1
  rw [e, if_neg (by simp [refE])]
  have e2 : perfM s 0 ⟨true, true, L, hi, true⟩ oNext = (⟨0, true, p.1, p.2, 0⟩, { s with th := s.th.set 0 (Th.after ⟨true, true, L, hi, true⟩ p.1) }) := by simp [perfM, hn]
  rw [e2]
  refine ⟨rfl, rfl, ?_⟩
  have e3 : Th.after ⟨true, true, L, hi, true⟩ p.1 = itAt (p.1 + 1) hi := by
    unfold Th.after itAt
    by_cases hq : p.1 = 18446744073709551615
    · rw [if_pos hq, if_neg (by omega)]; rfl
    · rw [if_neg hq]
      unfold Th.from_
      by_cases h3 : p.1 + 1 ≤ hi
      · rw [if_pos ⟨rfl, h3⟩, if_pos h3]
        have : max L (p.1 + 1) = p.1 + 1 := by omega
        simp [this]
      · rw [if_neg (fun c => h3 c.2), if_neg h3]; rfl
  rw [← e3]
  exact set_at hx _
theorem nextL_none {L hi : Int} {l : List (Int × Int)} (h : ∀ p ∈ l, ¬ (L ≤ p.1 ∧ p.1 ≤ hi)) : nextL L hi l = none := by
  unfold nextL
  have : inR L hi l = [] := List.filter_eq_nil_iff.2 fun p hp => by have := h p hp; simp; omega
  rw [this]; rfl
/-- The iterator's end. -/
abbrev itF : Th := ⟨true, false, 0, 0, true⟩
theorem end_do {s : Md} {hi L : Int} (hs : s.th[0]? = some (itAt L hi)) (h : ∀ p ∈ s.l, ¬ (L ≤ p.1 ∧ p.1 ≤ hi)) : (doM s 0 oNext).1 = rEnd ∧ (doM s 0 oNext).2.l = s.l ∧ (doM s 0 oNext).2.th[0]? = some itF := by
  by_cases hL : L ≤ hi
  · have hx : s.th[0]? = some ⟨true, true, L, hi, true⟩ := by rw [hs]; unfold itAt; rw [if_pos hL]
    have e : doM s 0 oNext = _ := doM_at (t := 0) hx chk_next
    have hn := nextL_none h
    rw [e, if_neg (by simp [refE])]
    have e2 : perfM s 0 ⟨true, true, L, hi, true⟩ oNext = (rEnd, { s with th := s.th.set 0 (Th.fin ⟨true, true, L, hi, true⟩) }) := by simp [perfM, hn]
    rw [e2]
    exact ⟨rfl, rfl, set_at hx _⟩
  · have hx : s.th[0]? = some itF := by rw [hs]; unfold itAt; rw [if_neg hL]
    have e : doM s 0 oNext = _ := doM_at (t := 0) hx chk_next
    rw [e, if_pos (by simp [refE])]
    exact ⟨by simp [refE], rfl, hx⟩
theorem itF_at (hi : Int) : itF = itAt (hi + 1) hi := by unfold itAt; rw [if_neg (by omega)]
theorem close_do {s : Md} (hs : s.th[0]? = some itF) : (doM s 0 oEnd).1 = r0 := by
  have e : doM s 0 oEnd = _ := doM_at (t := 0) hs chk_end
  rw [e, if_neg (by simp [refE])]
  rfl
end Go.Proofs.YtdjcndpnjoahmaaDoor
namespace Go.Proofs.YtdjcndpnjoahmaaDoor
open Go.RowKit Go.Xt
/-! A model of the law's own: known. -/
/-- A model that lies in new memory. -/
def LS (w : World) (gm : Nat) (s : Md) (N : Nat) (W : World) : Prop := ∃ p : Pl, p.gm = gm ∧ MAt W p s ∧ s.Ok N ∧ (∀ g ∈ p.foot, w.heap.size ≤ g) ∧ Nw w W
theorem nw_chg2 {w W W' : World} {X : List Nat} (h : Nw w W) (hc : Chg X W W') (hx : ∀ k ∈ X, w.heap.size ≤ k) : Nw w W' :=
  .of ⟨hc.os.trans h.grown.os, hc.tape.trans h.grown.tape, hc.output.trans h.grown.output, Nat.le_trans h.grown.size hc.size, fun k hk _ => (hc.block k (Nat.lt_of_lt_of_le hk h.grown.size) (fun e => by have := hx k e; omega)).trans (h.grown.block k hk (by simp))⟩
theorem LS.nw {w W : World} {gm : Nat} {s : Md} {N : Nat} (h : LS w gm s N W) : Nw w W := by
  obtain ⟨p, _, _, _, _, h⟩ := h; exact h
theorem LS.ok {w W : World} {gm : Nat} {s : Md} {N : Nat} (h : LS w gm s N W) : s.Ok N := by
  obtain ⟨p, _, _, h, _, _⟩ := h; exact h
theorem LS.im {w W : World} {gm : Nat} {s : Md} {N : Nat} (h : LS w gm s N W) : gm < W.heap.size := by
  obtain ⟨p, rfl, h, _, _, _⟩ := h; exact h.im
theorem LS.grow {w W W' : World} {gm : Nat} {s : Md} {N : Nat} (h : LS w gm s N W) (hn : Nw W W') : LS w gm s N W' := by
  obtain ⟨p, rfl, h1, h2, h3, h4⟩ := h; exact ⟨p, rfl, h1.nw hn, h2, h3, h4.trans hn⟩
theorem LS.up {w W W' : World} {gm : Nat} {s' : Md} {N' : Nat} {p p' : Pl} (hp : p.gm = gm) (h3 : ∀ g ∈ p.foot, w.heap.size ≤ g) (h4 : Nw w W) (hu : MUp W p s' p' W') (hok : s'.Ok N') : LS w gm s' N' W' :=
  ⟨p', hu.gm.trans hp, hu.at', hok, fun g hg => by
    rcases hu.mv g hg with h | h
    · exact h3 g h
    · exact Nat.le_trans h4.grown.size h, nw_chg2 h4 hu.chg h3⟩
/-- Do. -/
theorem do_LS {w W : World} {gm : Nat} {s : Md} {N : Nat} (h : LS w gm s N W) (hN : N ≤ 500000) (t : Int) (o : Ox) (hw : o.Wf) :
    Calls Tryd.prog 12 #[.pointer (some ⟨gm, 0, none⟩), .int .i64 t, opV o] W fun e W' => e = .returned (resV (doM s t o).1) ∧ LS w gm (doM s t o).2 (N + 1) W' := by
  obtain ⟨p, rfl, h1, h2, h3, h4⟩ := h
  refine (do_any W p s h1 h2 hN t o hw).mono ?_
  rintro e W' ⟨rfl, p', hu⟩
  exact ⟨rfl, LS.up rfl h3 h4 hu (doM_ok h2 t hw)⟩
theorem session_LS {w W : World} {gm : Nat} {s : Md} {N : Nat} (h : LS w gm s N W) (t : Int) :
    Calls Tryd.prog 17 #[.pointer (some ⟨gm, 0, none⟩), .int .i64 t] W fun e W' => e = .returned (.bool (ofM s t).se) ∧ Nw W W' := by
  obtain ⟨p, rfl, h1, h2, h3, h4⟩ := h
  exact session_M W p s h1 t
theorem new_LS (n : Nat) (sl : Int) (w W : World) (hw : Nw w W) (hn : 1 ≤ n ∧ n ≤ 8) (hs : 1 ≤ sl ∧ sl ≤ 64) :
    Calls Tryd.prog 18 #[cfgV n sl] W fun e W' => ∃ gm, e = .returned (.tuple #[.pointer (some ⟨gm, 0, none⟩), .int .i64 0]) ∧ LS w gm ⟨sl, [], List.replicate n Th0⟩ 0 W' := by
  refine (new_M n sl W hn hs).mono ?_
  rintro e W' ⟨⟨p, rfl, h1, h2⟩, hn2⟩
  exact ⟨p.gm, rfl, p, rfl, h1, ⟨Nat.le_refl _, List.Pairwise.nil, fun _ h => (by cases h), (by simp; omega), fun x hx => (by rw [List.eq_of_mem_replicate hx]; exact ⟨fun h => (by cases h), fun h => (by cases h), fun h => (by cases h)⟩)⟩, fun g hg => Nat.le_trans hw.grown.size (h2 g hg), hw.trans hn2⟩
theorem wf_small {k a b c d e f : Int} (h0 : 0 ≤ k ∧ k < 256) (h1 : 0 ≤ a ∧ a < 18446744073709551616) (h2 : 0 ≤ b ∧ b < 18446744073709551616) (h3 : 0 ≤ c ∧ c < 18446744073709551616) (h4 : 0 ≤ d ∧ d < 18446744073709551616) (h5 : 0 ≤ e ∧ e < 18446744073709551616) (h6 : 0 ≤ f ∧ f < 18446744073709551616) : Ox.Wf ⟨k, a, b, c, d, e, f⟩ := ⟨h0, h1, h2, h3, h4, h5, h6⟩
abbrev kn0 : Md := ⟨1, [], [Th0]⟩
abbrev oPut4 : Ox := ⟨4, 4, 0, 2, 0, 0, 0⟩
abbrev oDel4 : Ox := ⟨6, 4, 0, 0, 0, 0, 0⟩
abbrev oLen : Ox := ⟨10, 0, 0, 0, 0, 0, 0⟩
theorem kn_1 : doM kn0 0 oOpen = (r0, ⟨1, [], [⟨false, false, 0, 0, true⟩]⟩) := by rfl
theorem kn_2 : doM ⟨1, [], [⟨false, false, 0, 0, true⟩]⟩ 0 oPut4 = (r0, ⟨1, [(4, 2)], [⟨false, false, 0, 0, true⟩]⟩) := by rfl
theorem kn_3 : doM ⟨1, [(4, 2)], [⟨false, false, 0, 0, true⟩]⟩ 0 oDel4 = (⟨0, true, 0, 2, 0⟩, ⟨1, [], [⟨false, false, 0, 0, true⟩]⟩) := by rfl
theorem kn_4 : doM ⟨1, [], [⟨false, false, 0, 0, true⟩]⟩ 0 oLen = (r0, ⟨1, [], [⟨false, false, 0, 0, true⟩]⟩) := by rfl
set_option maxRecDepth 20000 in
set_option maxHeartbeats 8000000 in
theorem known_M (w : World) : Calls Tryd.prog 9 #[] w fun e w' => e = .returned (.bool true) ∧ Nw w w' := by
  have HD := Lib.hid (fun (W : World) gm s N (h : LS w gm s N W) (hN : N ≤ 500000) (o : Ox) (hw : o.Wf) => do_LS h hN 0 o hw)
  unfold opV resV at HD
  go_enter Tryd.func9, Tryd.ntmps9
  go_wp2_with fail
  refine (fixed_any 1 1 _).mono ?_
  rintro e w' ⟨rfl, dF, rfl⟩
  go_wp2_with fail
  refine (new_LS 1 1 w _ ((by repeat (first | exact Xt.Nw.refl _ | refine Xt.Nw.drew ?_ | refine Xt.Nw.drewN ?_ _ | refine Xt.Nw.alloc ?_ _ | refine Xt.Nw.joined ?_ | refine Xt.Nw.drewd ?_ | refine Xt.Nw.drewdN ?_ | refine Xt.Nw.ext ?_ | refine Xt.Nw.ext_some ?_ (by assumption) | refine Xt.Nw.setCell ?_ (by simp [go_sem] <;> omega) _))) (by omega) (by omega)).mono ?_
  rintro e W3 ⟨gm, rfl, h3⟩
  have H3 := Lib.hid h3
  clear h3
  go_wp2_with fail
  have c4 := HD.out W3 gm kn0 0 H3.out (by omega) oOpen (by constructor <;> simp)
  rw [kn_1] at c4
  refine c4.mono ?_
  rintro e W4 ⟨rfl, h4⟩
  have H4 := Lib.hid h4
  clear h4 c4
  go_wp2_with fail
  have c5 := HD.out W4 gm _ _ H4.out (by omega) oPut4 (by constructor <;> simp)
  rw [kn_2] at c5
  refine c5.mono ?_
  rintro e W5 ⟨rfl, h5⟩
  have H5 := Lib.hid h5
  clear h5 c5
  go_wp2_with fail
  have c6 := HD.out W5 gm _ _ H5.out (by omega) oDel4 (by constructor <;> simp)
  rw [kn_3] at c6
  refine c6.mono ?_
  rintro e W6 ⟨rfl, h6⟩
  have H6 := Lib.hid h6
  clear h6 c6
  go_wp2_with fail
  have c7 := HD.out W6 gm _ _ H6.out (by omega) oLen (by constructor <;> simp)
  rw [kn_4] at c7
  refine c7.mono ?_
  rintro e W7 ⟨rfl, h7⟩
  have H7 := Lib.hid h7
  clear h7 c7
  go_wp2
  go_ret
  exact ⟨rfl, H7.out.nw⟩
end Go.Proofs.YtdjcndpnjoahmaaDoor
namespace Go.Proofs.YtdjcndpnjoahmaaDoor
open Go.RowKit Go.Xt
/-! The deeds of a law; played. -/
structure Dd where
  t : Int
  o : Ox
  j : Bool
  by_ : Int
  r : Rs
def dc (d : Dd) : List Value := [.int .i64 d.t, .int .u8 d.o.k, .int .u64 d.o.key, .int .u64 d.o.hi, .int .u64 d.o.val, .int .u64 d.o.old, .int .u64 d.o.by_, .int .u64 d.o.draw, .bool d.j, .int .u8 d.by_, .int .i64 d.r.err, .bool d.r.fd, .int .u64 d.r.key, .int .u64 d.r.val, .int .i64 d.r.cnt]
def dcells (l : List Dd) : List Value := l.flatMap dc
theorem dcells_len (l : List Dd) : (dcells l).length = l.length * 15 := by
  induction l with
  | nil => rfl
  | cons x l ih => rw [dcells, List.flatMap_cons, List.length_append, ← dcells, ih, List.length_cons]; simp [dc]; omega
theorem dcells_get : ∀ (l : List Dd) (i : Nat) (d : Dd), l[i]? = some d → ∀ j v, (dc d)[j]? = some v → (dcells l)[i * 15 + j]? = some v
  | [], i, d, h, _, _, _ => by simp at h
  | y :: l, 0, d, h, j, v, hj => by
    simp at h; subst h
    have hl := (List.getElem?_eq_some_iff.1 hj).1
    rw [dcells, List.flatMap_cons, Nat.zero_mul, Nat.zero_add, List.getElem?_append_left hl]; exact hj
  | y :: l, i + 1, d, h, j, v, hj => by
    have h2 := dcells_get l i d (by simpa using h) j v hj
    rw [dcells, List.flatMap_cons, List.getElem?_append_right (by simp [dc]; omega)]
    have e : (i + 1) * 15 + j - (dc y).length = i * 15 + j := by simp [dc]; omega
    rw [e]; exact h2
/-- A thread reduced to three. -/
def idxI (t : Int) : Int := Int.tmod (Int.tmod t 3 + 3) 3
theorem index_any (t : Int) (w : World) : Calls Tryd.prog 7 #[.int .i64 t] w fun e w' => e = .returned (.int .i64 (idxI t)) ∧ Nw w w' := by
  have h1 := Int.tmod_lt_of_pos t (by decide : (0 : Int) < 3)
  have h2 := Int.lt_tmod_of_pos t (by decide : (0 : Int) < 3)
  have h3 := Int.tmod_lt_of_pos (Int.tmod t 3 + 3) (by decide : (0 : Int) < 3)
  have h4 := Int.lt_tmod_of_pos (Int.tmod t 3 + 3) (by decide : (0 : Int) < 3)
  have w1 : IntKind.i64.wrap (Int.tmod t 3) = Int.tmod t 3 := by rw [IntKind.wrap_i64]; omega
  have w2 : IntKind.i64.wrap (Int.tmod t 3 + 3) = Int.tmod t 3 + 3 := by rw [IntKind.wrap_i64]; omega
  have w3 : IntKind.i64.wrap (Int.tmod (Int.tmod t 3 + 3) 3) = Int.tmod (Int.tmod t 3 + 3) 3 := by rw [IntKind.wrap_i64]; omega
  unfold idxI
  clear h1 h2 h3 h4
  go_enter Tryd.func7, Tryd.ntmps7
  go_wp2
  go_ret
  exact ⟨rfl, (by repeat (first | exact Xt.Nw.refl _ | refine Xt.Nw.drew ?_ | refine Xt.Nw.drewN ?_ _ | refine Xt.Nw.alloc ?_ _ | refine Xt.Nw.joined ?_ | refine Xt.Nw.drewd ?_ | refine Xt.Nw.drewdN ?_ | refine Xt.Nw.ext ?_ | refine Xt.Nw.ext_some ?_ (by assumption) | refine Xt.Nw.setCell ?_ (by simp [go_sem] <;> omega) _))⟩
theorem pl_1 : doM ⟨2, [], List.replicate 3 Th0⟩ 0 oOpen = (r0, ⟨2, [], [⟨false, false, 0, 0, true⟩, Th0, Th0]⟩) := by rfl
set_option maxRecDepth 20000 in
set_option maxHeartbeats 8000000 in
theorem played_M (A : Option Addr) (n c : Nat) (ds : List Dd) (w : World) (hr : Rd w 15 A n (dcells ds)) (hn : n ≤ 80) (hw : ∀ d ∈ ds, d.o.Wf) :
    Calls Tryd.prog 10 #[.slice A n c] w fun e w' => ∃ gm s, e = .returned (.pointer (some ⟨gm, 0, none⟩)) ∧ LS w gm s 100 w' ∧ s.th.length = 3 := by
  have HD := Lib.hid (fun (W : World) gm s N (h : LS w gm s N W) (hN : N ≤ 500000) (t : Int) (o : Ox) (hw : o.Wf) => do_LS h hN t o hw)
  unfold opV resV at HD
  have HRD := Lib.hid hr
  have HWF := Lib.hid hw
  have hlen : ds.length = n := by have := hr.1; rw [dcells_len] at this; omega
  have HLEN := Lib.hid hlen
  have HNN := Lib.hid hn
  clear hr hw hlen hn
  go_enter Tryd.func10, Tryd.ntmps10
  go_wp2_with fail
  refine (fixed_any 3 2 _).mono ?_
  rintro e w' ⟨rfl, dF, rfl⟩
  go_wp2_with fail
  refine (new_LS 3 2 w _ ((by repeat (first | exact Xt.Nw.refl _ | refine Xt.Nw.drew ?_ | refine Xt.Nw.drewN ?_ _ | refine Xt.Nw.alloc ?_ _ | refine Xt.Nw.joined ?_ | refine Xt.Nw.drewd ?_ | refine Xt.Nw.drewdN ?_ | refine Xt.Nw.ext ?_ | refine Xt.Nw.ext_some ?_ (by assumption) | refine Xt.Nw.setCell ?_ (by simp [go_sem] <;> omega) _))) (by omega) (by omega)).mono ?_
  rintro e W3 ⟨gm, rfl, h3⟩
  have H3 := Lib.hid h3
  clear h3
  go_wp2_with fail
  have c4 := HD.out W3 gm _ 0 H3.out (by omega) 0 oOpen (by constructor <;> simp)
  rw [pl_1] at c4
  refine c4.mono ?_
  rintro e W4 ⟨rfl, h4⟩
  have H4 := Lib.hid h4
  clear h4 c4
  go_wp2_with fail
  go_loopw [5] (fun a wr => ∃ (i : Nat) (s : Md), i ≤ n ∧ a = .int .i64 i ∧ Hid (LS w gm s (i + 1) wr ∧ s.th.length = 3)) (fun a _ => n - (intOf a).toNat)
  case atStart => exact ⟨0, _, Nat.zero_le _, rfl, Lib.hid ⟨H4.out, rfl⟩⟩
  case round =>
    obtain ⟨i, s, hi, rfl, HL⟩ := hrel
    by_cases hin : i < n
    · obtain ⟨gA, oA, rfl, hgA, hcA⟩ := HRD.out.2 (by omega)
      obtain ⟨d, hd⟩ : ∃ d, ds[i]? = some d := ⟨_, List.getElem?_eq_getElem (by have := HLEN.out; omega)⟩
      have hwf := HWF.out d (List.mem_of_getElem? hd)
      have hg := dcells_get ds i d hd
      have HWD := Lib.hid hwf
      have x0 : w.cell? ⟨gA, oA + i * 15, none⟩ = some (.int .i64 d.t) := by
        have := hcA _ _ (hg 0 _ rfl)
        rw [← Nat.add_assoc] at this
        exact this
      have x1 : w.cell? ⟨gA, oA + i * 15 + 1, none⟩ = some (.int .u8 d.o.k) := by
        have := hcA _ _ (hg 1 _ rfl)
        rw [← Nat.add_assoc] at this
        exact this
      have x2 : w.cell? ⟨gA, oA + i * 15 + 1 + 1, none⟩ = some (.int .u64 d.o.key) := by
        have := hcA _ _ (hg 2 _ rfl)
        rw [← Nat.add_assoc] at this
        exact this
      have x3 : w.cell? ⟨gA, oA + i * 15 + 1 + 2, none⟩ = some (.int .u64 d.o.hi) := by
        have := hcA _ _ (hg 3 _ rfl)
        rw [← Nat.add_assoc] at this
        exact this
      have x4 : w.cell? ⟨gA, oA + i * 15 + 1 + 3, none⟩ = some (.int .u64 d.o.val) := by
        have := hcA _ _ (hg 4 _ rfl)
        rw [← Nat.add_assoc] at this
        exact this
      have x5 : w.cell? ⟨gA, oA + i * 15 + 1 + 4, none⟩ = some (.int .u64 d.o.old) := by
        have := hcA _ _ (hg 5 _ rfl)
        rw [← Nat.add_assoc] at this
        exact this
      have x6 : w.cell? ⟨gA, oA + i * 15 + 1 + 5, none⟩ = some (.int .u64 d.o.by_) := by
        have := hcA _ _ (hg 6 _ rfl)
        rw [← Nat.add_assoc] at this
        exact this
      have x7 : w.cell? ⟨gA, oA + i * 15 + 1 + 6, none⟩ = some (.int .u64 d.o.draw) := by
        have := hcA _ _ (hg 7 _ rfl)
        rw [← Nat.add_assoc] at this
        exact this
      obtain ⟨⟨dt, ⟨dk, da, db, dC, dd, de, df⟩, dj, dby, dr⟩, rfl⟩ : ∃ d', d = d' := ⟨d, rfl⟩
      simp only at x0 x1 x2 x3 x4 x5 x6 x7
      have hw0 := HL.out.1.nw
      haveI : In gA w := ⟨hgA⟩
      haveI : In gA wr := ⟨Nat.lt_of_lt_of_le hgA hw0.grown.size⟩
      haveI : In gm wr := ⟨HL.out.1.im⟩
      have i1 : (i : Int) < (n : Int) := by omega
      have i0 : (0 : Int) ≤ (i : Int) := by omega
      have i2 : i < 1000 := by have := HNN.out; omega
      have HIN := Lib.hid hin
      clear hd hg hcA hwf
      go_upto_region 7 with (fail)
      go_region_held3 (fun w' => w'.cell? ⟨gA, oA + i * 15, none⟩ = some (.int .i64 dt) ∧ w'.cell? ⟨gA, oA + i * 15 + 1, none⟩ = some (.int .u8 dk) ∧ w'.cell? ⟨gA, oA + i * 15 + 1 + 1, none⟩ = some (.int .u64 da) ∧ w'.cell? ⟨gA, oA + i * 15 + 1 + 2, none⟩ = some (.int .u64 db) ∧ w'.cell? ⟨gA, oA + i * 15 + 1 + 3, none⟩ = some (.int .u64 dC) ∧ w'.cell? ⟨gA, oA + i * 15 + 1 + 4, none⟩ = some (.int .u64 dd) ∧ w'.cell? ⟨gA, oA + i * 15 + 1 + 5, none⟩ = some (.int .u64 de) ∧ w'.cell? ⟨gA, oA + i * 15 + 1 + 6, none⟩ = some (.int .u64 df)) (first | exact ⟨cell_nw x0 (Xt.Nw.drew hw0), cell_nw x1 (Xt.Nw.drew hw0), cell_nw x2 (Xt.Nw.drew hw0), cell_nw x3 (Xt.Nw.drew hw0), cell_nw x4 (Xt.Nw.drew hw0), cell_nw x5 (Xt.Nw.drew hw0), cell_nw x6 (Xt.Nw.drew hw0), cell_nw x7 (Xt.Nw.drew hw0)⟩ | exact ⟨cell_nw x0 hwk, cell_nw x1 hwk, cell_nw x2 hwk, cell_nw x3 hwk, cell_nw x4 hwk, cell_nw x5 hwk, cell_nw x6 hwk, cell_nw x7 hwk⟩ | exact ⟨cell_nw x0 hls.nw, cell_nw x1 hls.nw, cell_nw x2 hls.nw, cell_nw x3 hls.nw, cell_nw x4 hls.nw, cell_nw x5 hls.nw, cell_nw x6 hls.nw, cell_nw x7 hls.nw⟩)
        ((first | (go_at_call 7; refine (index_any _ _).mono ?_; rintro r Wk ⟨rfl, hnk0⟩; have hwk : Nw w Wk := (Nw.drew hw0).trans hnk0) | (go_at_call 12; refine (HD.out _ gm s (i + 1) (LS.grow HL.out.1 ((Nw.drew (Nw.refl wr)).trans hnk0)) (by have := HNN.out; omega) (idxI dt) ⟨dk, da, db, dC, dd, de, df⟩ HWD.out).mono ?_; rintro r W5 ⟨rfl, hls⟩)))
      have HLS := Lib.hid (⟨hls, (doM_len s (idxI dt) ⟨dk, da, db, dC, dd, de, df⟩).1.trans HL.out.2⟩ : LS w gm (doM s (idxI dt) ⟨dk, da, db, dC, dd, de, df⟩).2 (i + 1 + 1) W5 ∧ (doM s (idxI dt) ⟨dk, da, db, dC, dd, de, df⟩).2.th.length = 3)
      clear hls hwk hnk0
      go_wp2
      exact ⟨⟨i + 1, _, by have := HIN.out; omega, by go_num, HLS⟩, by have := HIN.out; simp [intOf]; omega⟩
    · have i1 : ¬ (i : Int) < (n : Int) := by omega
      go_wp2
      exact bodyPost_ret (results_tmp rfl _ _ _) rfl ⟨gm, rfl, s, (by
        obtain ⟨p, h1, h2, h3, h4, h5⟩ := HL.out.1
        exact ⟨p, h1, h2, h3.mono (by have := HNN.out; omega), h4, h5⟩), HL.out.2⟩
end Go.Proofs.YtdjcndpnjoahmaaDoor
namespace Go.Proofs.YtdjcndpnjoahmaaDoor
open Go.RowKit Go.Xt
/-! A model of the law's own beside a row of pairs. -/
def LSR (w : World) (gm : Nat) (s : Md) (N : Nat) (W : World) (v : Value) (l : List (Int × Int)) : Prop :=
  ∃ p : Pl, p.gm = gm ∧ MAt W p s ∧ s.Ok N ∧ (∀ g ∈ p.foot, w.heap.size ≤ g) ∧ Nw w W ∧ W.ownsRow 0 85 2 v l.length (pcells l) ∧ ∀ b, v.ownBlock = some b → b ∉ p.foot
theorem LSR.ls {w W : World} {gm : Nat} {s : Md} {N : Nat} {v : Value} {l : List (Int × Int)} (h : LSR w gm s N W v l) : LS w gm s N W := by
  obtain ⟨p, h1, h2, h3, h4, h5, _, _⟩ := h; exact ⟨p, h1, h2, h3, h4, h5⟩
theorem LSR.row {w W : World} {gm : Nat} {s : Md} {N : Nat} {v : Value} {l : List (Int × Int)} (h : LSR w gm s N W v l) : W.ownsRow 0 85 2 v l.length (pcells l) := by
  obtain ⟨p, h1, h2, h3, h4, h5, h6, _⟩ := h; exact h6
theorem LSR.grow {w W W' : World} {gm : Nat} {s : Md} {N : Nat} {v : Value} {l : List (Int × Int)} (h : LSR w gm s N W v l) (hn : Nw W W') : LSR w gm s N W' v l := by
  obtain ⟨p, h1, h2, h3, h4, h5, h6, h7⟩ := h
  exact ⟨p, h1, h2.nw hn, h3, h4, h5.trans hn, own_nw h6 hn, h7⟩
/-- Do, beside a row and any block that was there. -/
theorem do_LSR {w W W' : World} {gm : Nat} {s : Md} {N : Nat} {v : Value} {l : List (Int × Int)} (h : LSR w gm s N W v l) (hn : Nw W W') (hN : N ≤ 500000) (t : Int) (o : Ox) (hw : o.Wf) :
    Calls Tryd.prog 12 #[.pointer (some ⟨gm, 0, none⟩), .int .i64 t, opV o] W' fun e W2 => e = .returned (resV (doM s t o).1) ∧ LSR w gm (doM s t o).2 (N + 1) W2 v l ∧ ∃ X, Chg X W' W2 ∧ ∀ g ∈ X, g < W.heap.size := by
  obtain ⟨p, rfl, h2, h3, h4, h5, h6, h7⟩ := h
  refine (do_any W' p s (h2.nw hn) h3 hN t o hw).mono ?_
  rintro e W2 ⟨rfl, p', hu⟩
  have h6' := own_nw h6 hn
  refine ⟨rfl, ⟨p', hu.gm, hu.at', doM_ok h3 t hw, fun g hg => ?_, nw_chg2 (h5.trans hn) hu.chg h4, own_chg h6' hu.chg h7, fun b hb hx => ?_⟩, p.foot, hu.chg, fun g hg => h2.lt hg⟩
  · rcases hu.mv g hg with h | h
    · exact h4 g h
    · exact Nat.le_trans (h5.trans hn).grown.size h
  · rcases hu.mv b hx with h | h
    · exact h7 b hb h
    · have := (h6'.lt b hb).2; omega
theorem pairs_LS {w W : World} {gm : Nat} {s : Md} {N : Nat} (h : LS w gm s N W) (hN : N ≤ 500000) :
    Calls Tryd.prog 15 #[.pointer (some ⟨gm, 0, none⟩)] W fun e W' => ∃ v', e = .returned v' ∧ LSR w gm s N W' v' s.l := by
  obtain ⟨p, rfl, h1, h2, h3, h4⟩ := h
  refine (pairs_M W p s h1 (by have := h2.len; omega)).mono ?_
  rintro e W' ⟨v', rfl, hown, hn⟩
  refine ⟨v', rfl, p, rfl, h1.nw hn, h2, h3, h4.trans hn, own_le hown (Nat.zero_le _), fun b hb hx => ?_⟩
  have := (hown.lt b hb).1
  have := h1.lt hx
  omega
theorem iter_LS {w W : World} {gm : Nat} {s : Md} {N : Nat} (h : LS w gm s N W) (t : Int) :
    Calls Tryd.prog 19 #[.pointer (some ⟨gm, 0, none⟩), .int .i64 t] W fun e W' => e = .returned (.tuple #[.agg #[.int .u64 (ofM s t).lo, .int .u64 (ofM s t).hi], .bool (ofM s t).mo, .bool (ofM s t).op]) ∧ Nw W W' := by
  obtain ⟨p, rfl, h1, h2, h3, h4⟩ := h
  exact iter_M W p s h1 t
set_option maxRecDepth 20000 in
@[go_sem high] theorem eqSpan (a b c d : Int) (w : World) : (Op.equalIn 10000 57 (.agg #[.int .u64 a, .int .u64 b]) (.agg #[.int .u64 c, .int .u64 d])).run Tryd.prog w = .ok (decide (a = c) && decide (b = d)) w := by
  have hS : Tryd.prog.underlying 57 = some (.struct (Tryd.prog.fieldsOf 57)) := by kernel_rfl
  have hp : Tryd.prog.stoodInHeld 57 = false := by kernel_rfl
  rw [show (10000 : Nat) = 9999 + 1 from rfl, run_equalIn_agg w 9999 57 _ _ hS hp]
  simp only [Program.fieldsOf, Tryd.underlying57]
  go_simp
  simp only [ite_ok0, ite_ok]
  simp only [Bool.decide_and]
end Go.Proofs.YtdjcndpnjoahmaaDoor
namespace Go.Proofs.YtdjcndpnjoahmaaDoor
open Go.RowKit Go.Xt
/-! Range and Copy of a map; births, gives. -/
/-- The pairs of a range, as a part of the map's row. -/
theorem rd_range {W : World} {gp g c : Nat} {l : List (Int × Int)} (h : OM W gp (.slice (some ⟨g, 0, none⟩) l.length c) l) {lo hi : Int} (hlh : lo ≤ hi) {A : Option Addr} (hA : A = some ⟨g, pos lo l * 2, none⟩ ∨ (inR lo hi l).length = 0) :
    Rd W 2 A (inR lo hi l).length (pcells (inR lo hi l)) := by
  refine ⟨pcells_len _, fun h0 => ?_⟩
  rcases hA with rfl | h1
  · have hle := pos_le_to hlh h.asc
    have hto := posTo_le hi l
    have hil := inR_len hlh h.asc
    have hsp := (split_range hlh h.asc).1
    obtain ⟨R, hR⟩ : ∃ R, R = inR lo hi l := ⟨_, rfl⟩
    rw [← hR] at hil hsp h0 ⊢
    obtain ⟨i, hi'⟩ : ∃ i, i = pos lo l := ⟨_, rfl⟩
    obtain ⟨j, hj'⟩ : ∃ j, j = posTo hi l := ⟨_, rfl⟩
    simp only [← hi', ← hj'] at hle hto hil hsp ⊢
    refine ⟨g, i * 2, rfl, h.rlt rfl, fun q u hu => ?_⟩
    have hq := (List.getElem?_eq_some_iff.1 hu).1
    rw [pcells_len] at hq
    rw [h.row.cellAt _ (by omega)]
    have e1 : pcells l = pcells (l.take i) ++ (pcells R ++ pcells (l.drop j)) := by
      rw [← hsp, ← pcells_app, ← pcells_app]
      congr 1
      have e2 : l.take i = (l.take j).take i := by rw [List.take_take, Nat.min_eq_left hle]
      rw [e2, ← List.append_assoc, List.take_append_drop, List.take_append_drop]
    rw [e1, List.getElem?_append_right (by rw [pcells_len, List.length_take]; omega), pcells_len, List.length_take, Nat.min_eq_left (by omega), show i * 2 + q - i * 2 = q by omega, List.getElem?_append_left (by rw [pcells_len]; omega)]
    exact hu
  · omega
set_option maxRecDepth 20000 in
set_option maxHeartbeats 4000000 in
theorem range_om {w : World} {gp : Nat} {v : Value} {l : List (Int × Int)} (h : OM w gp v l) (hn : l.length ≤ 1000000) (lo hi : Int) (hlh : lo ≤ hi) :
    Calls Tryd.prog 81 #[.pointer (some ⟨gp, 0, none⟩), spV lo hi] w fun e w' => ∃ v', e = .returned (.tuple #[v', .int .i64 0]) ∧ w'.ownsRow w.heap.size 85 2 v' (inR lo hi l).length (pcells (inR lo hi l)) ∧ Nw w w' := by
  haveI : In gp w := ⟨h.lt⟩
  have p0 := h.p0
  have HE := Lib.hid (fun W (hw : Nw w W) => ends_om (h.nw hw) hn lo hi hlh)
  have HIL := Lib.hid (inR_len hlh h.asc)
  have hle := pos_le_to hlh h.asc
  have hto := posTo_le hi l
  rcases h.form with ⟨rfl, rfl⟩ | ⟨g, c, rfl, hlc, -, hin⟩
  · have e1 : pos lo [] = 0 := rfl
    have e2 : posTo hi [] = 0 := rfl
    have e3 : inR lo hi [] = [] := rfl
    rw [e1, e2] at HE
    rw [e3]
    unfold spV at HE ⊢
    have HCN := Lib.hid (fun W => clone_any none 0 0 [] W ⟨rfl, fun h => by omega⟩ (by omega) (fun _ => ⟨rfl, rfl⟩))
    clear h hlh e1 e2 e3 HIL hle hto
    go_enter Tryd.func81, Tryd.ntmps81
    go_wp2_with fail
    refine (HE.out _ ((by repeat (first | exact Xt.Nw.refl _ | refine Xt.Nw.drew ?_ | refine Xt.Nw.drewN ?_ _ | refine Xt.Nw.alloc ?_ _ | refine Xt.Nw.joined ?_ | refine Xt.Nw.drewd ?_ | refine Xt.Nw.drewdN ?_ | refine Xt.Nw.ext ?_ | refine Xt.Nw.ext_some ?_ (by assumption) | refine Xt.Nw.setCell ?_ (by simp [go_sem] <;> omega) _)))).mono ?_
    rintro e w2 ⟨rfl, d2, rfl⟩
    go_wp2_with fail
    refine (HCN.out _).mono ?_
    rintro e w3 ⟨v', rfl, hown, hn3⟩
    have hn3 : Nw w w3 := Nw.trans (by exact (by repeat (first | exact Xt.Nw.refl _ | refine Xt.Nw.drew ?_ | refine Xt.Nw.drewN ?_ _ | refine Xt.Nw.alloc ?_ _ | refine Xt.Nw.joined ?_ | refine Xt.Nw.drewd ?_ | refine Xt.Nw.drewdN ?_ | refine Xt.Nw.ext ?_ | refine Xt.Nw.ext_some ?_ (by assumption) | refine Xt.Nw.setCell ?_ (by simp [go_sem] <;> omega) _))) hn3
    have HO := Lib.hid (show w3.ownsRow w.heap.size 85 2 v' 0 (pcells []) from own_le hown (Nw.grown (by exact (by repeat (first | exact Xt.Nw.refl _ | refine Xt.Nw.drew ?_ | refine Xt.Nw.drewN ?_ _ | refine Xt.Nw.alloc ?_ _ | refine Xt.Nw.joined ?_ | refine Xt.Nw.drewd ?_ | refine Xt.Nw.drewdN ?_ | refine Xt.Nw.ext ?_ | refine Xt.Nw.ext_some ?_ (by assumption) | refine Xt.Nw.setCell ?_ (by simp [go_sem] <;> omega) _)))).size)
    have HN := Lib.hid hn3
    clear hown hn3
    go_wp2
    refine bodyPost_ret (v := .tuple #[v', .int .i64 0]) ?_ rfl ⟨v', rfl, ?_⟩
    · simp [results, Tryd.results81, go_sem]
    · exact ⟨HO.out, HN.out⟩
  · haveI : In g w := hin
    have HRD := Lib.hid (fun W (hw : Nw w W) (A : Option Addr) (hA : A = some ⟨g, pos lo l * 2, none⟩ ∨ (inR lo hi l).length = 0) => rd_range (h.nw hw) hlh hA)
    obtain ⟨R, hR⟩ : ∃ R, R = inR lo hi l := ⟨_, rfl⟩
    simp only [← hR] at HIL HRD ⊢
    obtain ⟨i, hi'⟩ : ∃ i, i = pos lo l := ⟨_, rfl⟩
    obtain ⟨j, hj'⟩ : ∃ j, j = posTo hi l := ⟨_, rfl⟩
    simp only [← hi', ← hj'] at HE HIL hle hto HRD
    obtain ⟨n, hne⟩ : ∃ n, n = l.length := ⟨_, rfl⟩
    rw [← hne] at p0 hto hlc hn
    obtain ⟨m, hm⟩ : ∃ m, m = R.length := ⟨_, rfl⟩
    rw [← hm] at HIL HRD ⊢
    have b1 : (i : Int) ≤ (j : Int) := by omega
    have b4 : (j : Int) ≤ (c : Int) := by omega
    have b5 : i ≤ j := by omega
    have b6 : j ≤ c := by omega
    have HN1 := Lib.hid (show m ≤ 1000000 by have := HIL.out; omega)
    have HJC := Lib.hid (show j ≤ c ∧ i ≤ j by omega)
    unfold spV at HE ⊢
    clear h hlh hR hi' hj' hne hm hle hto hn hlc hin
    by_cases hci : c ≤ i
    · go_enter Tryd.func81, Tryd.ntmps81
      go_wp2_with fail
      refine (HE.out _ ((by repeat (first | exact Xt.Nw.refl _ | refine Xt.Nw.drew ?_ | refine Xt.Nw.drewN ?_ _ | refine Xt.Nw.alloc ?_ _ | refine Xt.Nw.joined ?_ | refine Xt.Nw.drewd ?_ | refine Xt.Nw.drewdN ?_ | refine Xt.Nw.ext ?_ | refine Xt.Nw.ext_some ?_ (by assumption) | refine Xt.Nw.setCell ?_ (by simp [go_sem] <;> omega) _)))).mono ?_
      rintro e w2 ⟨rfl, d2, rfl⟩
      go_wp2_with fail
      have HR2 := HRD.out _ ((by repeat (first | exact Xt.Nw.refl _ | refine Xt.Nw.drew ?_ | refine Xt.Nw.drewN ?_ _ | refine Xt.Nw.alloc ?_ _ | refine Xt.Nw.joined ?_ | refine Xt.Nw.drewd ?_ | refine Xt.Nw.drewdN ?_ | refine Xt.Nw.ext ?_ | refine Xt.Nw.ext_some ?_ (by assumption) | refine Xt.Nw.setCell ?_ (by simp [go_sem] <;> omega) _)) : Nw w ((w.alloc (.cells #[.int .u64 lo, .int .u64 hi] 57)).ext none d2))
      rw [HIL.out] at HR2
      refine (clone_any _ (j - i) _ R _ (HR2 _ (by first | exact .inl rfl | exact .inr (by have := HJC.out; omega))) (by have := HN1.out; have := HIL.out; omega) (by intro h; cases h)).mono ?_
      rintro e w3 ⟨v', rfl, hown, hn3⟩
      have hn3 : Nw w w3 := Nw.trans (by exact (by repeat (first | exact Xt.Nw.refl _ | refine Xt.Nw.drew ?_ | refine Xt.Nw.drewN ?_ _ | refine Xt.Nw.alloc ?_ _ | refine Xt.Nw.joined ?_ | refine Xt.Nw.drewd ?_ | refine Xt.Nw.drewdN ?_ | refine Xt.Nw.ext ?_ | refine Xt.Nw.ext_some ?_ (by assumption) | refine Xt.Nw.setCell ?_ (by simp [go_sem] <;> omega) _))) hn3
      rw [← HIL.out] at hown
      have HO := Lib.hid (show w3.ownsRow w.heap.size 85 2 v' m (pcells R) from own_le hown (Nw.grown (by exact (by repeat (first | exact Xt.Nw.refl _ | refine Xt.Nw.drew ?_ | refine Xt.Nw.drewN ?_ _ | refine Xt.Nw.alloc ?_ _ | refine Xt.Nw.joined ?_ | refine Xt.Nw.drewd ?_ | refine Xt.Nw.drewdN ?_ | refine Xt.Nw.ext ?_ | refine Xt.Nw.ext_some ?_ (by assumption) | refine Xt.Nw.setCell ?_ (by simp [go_sem] <;> omega) _)))).size)
      have HN := Lib.hid hn3
      clear hown hn3 HR2
      go_wp2
      refine bodyPost_ret (v := .tuple #[v', .int .i64 0]) ?_ rfl ⟨v', rfl, HO.out, HN.out⟩
      simp [results, Tryd.results81, go_sem]
    · have hci2 : ¬ c = i := by omega
      go_enter Tryd.func81, Tryd.ntmps81
      go_wp2_with fail
      refine (HE.out _ ((by repeat (first | exact Xt.Nw.refl _ | refine Xt.Nw.drew ?_ | refine Xt.Nw.drewN ?_ _ | refine Xt.Nw.alloc ?_ _ | refine Xt.Nw.joined ?_ | refine Xt.Nw.drewd ?_ | refine Xt.Nw.drewdN ?_ | refine Xt.Nw.ext ?_ | refine Xt.Nw.ext_some ?_ (by assumption) | refine Xt.Nw.setCell ?_ (by simp [go_sem] <;> omega) _)))).mono ?_
      rintro e w2 ⟨rfl, d2, rfl⟩
      go_wp2_with fail
      have HR2 := HRD.out _ ((by repeat (first | exact Xt.Nw.refl _ | refine Xt.Nw.drew ?_ | refine Xt.Nw.drewN ?_ _ | refine Xt.Nw.alloc ?_ _ | refine Xt.Nw.joined ?_ | refine Xt.Nw.drewd ?_ | refine Xt.Nw.drewdN ?_ | refine Xt.Nw.ext ?_ | refine Xt.Nw.ext_some ?_ (by assumption) | refine Xt.Nw.setCell ?_ (by simp [go_sem] <;> omega) _)) : Nw w ((w.alloc (.cells #[.int .u64 lo, .int .u64 hi] 57)).ext none d2))
      rw [HIL.out] at HR2
      refine (clone_any _ (j - i) _ R _ (HR2 _ (by first | exact .inl rfl | exact .inr (by have := HJC.out; omega))) (by have := HN1.out; have := HIL.out; omega) (by intro h; cases h)).mono ?_
      rintro e w3 ⟨v', rfl, hown, hn3⟩
      have hn3 : Nw w w3 := Nw.trans (by exact (by repeat (first | exact Xt.Nw.refl _ | refine Xt.Nw.drew ?_ | refine Xt.Nw.drewN ?_ _ | refine Xt.Nw.alloc ?_ _ | refine Xt.Nw.joined ?_ | refine Xt.Nw.drewd ?_ | refine Xt.Nw.drewdN ?_ | refine Xt.Nw.ext ?_ | refine Xt.Nw.ext_some ?_ (by assumption) | refine Xt.Nw.setCell ?_ (by simp [go_sem] <;> omega) _))) hn3
      rw [← HIL.out] at hown
      have HO := Lib.hid (show w3.ownsRow w.heap.size 85 2 v' m (pcells R) from own_le hown (Nw.grown (by exact (by repeat (first | exact Xt.Nw.refl _ | refine Xt.Nw.drew ?_ | refine Xt.Nw.drewN ?_ _ | refine Xt.Nw.alloc ?_ _ | refine Xt.Nw.joined ?_ | refine Xt.Nw.drewd ?_ | refine Xt.Nw.drewdN ?_ | refine Xt.Nw.ext ?_ | refine Xt.Nw.ext_some ?_ (by assumption) | refine Xt.Nw.setCell ?_ (by simp [go_sem] <;> omega) _)))).size)
      have HN := Lib.hid hn3
      clear hown hn3 HR2
      go_wp2
      refine bodyPost_ret (v := .tuple #[v', .int .i64 0]) ?_ rfl ⟨v', rfl, HO.out, HN.out⟩
      simp [results, Tryd.results81, go_sem]
set_option maxRecDepth 20000 in
set_option maxHeartbeats 4000000 in
theorem ocopy_M {w : World} {gp : Nat} {v : Value} {l : List (Int × Int)} (h : OM w gp v l) (hn : l.length ≤ 1000000) :
    Calls Tryd.prog 21 #[.pointer (some ⟨gp, 0, none⟩)] w fun e w' => ∃ gq, e = .returned (.pointer (some ⟨gq, 0, none⟩)) ∧ w.heap.size ≤ gq ∧ (∃ v', OM w' gq v' l ∧ ∀ b, v'.ownBlock = some b → w.heap.size ≤ b) ∧ Nw w w' := by
  have p0 := h.p0
  haveI : In gp w := ⟨h.lt⟩
  have HASC := Lib.hid h.asc
  have fin : ∀ (W : World) (v' : Value), W.ownsRow w.heap.size 85 2 v' l.length (pcells l) → Nw w W → w.heap.size ≤ W.heap.size ∧ (∃ v'', OM (W.alloc (.cells #[v'] 95)) W.heap.size v'' l ∧ ∀ b, v''.ownBlock = some b → w.heap.size ≤ b) ∧ Nw w (W.alloc (.cells #[v'] 95)) := fun W v' ho hw =>
    ⟨hw.grown.size, ⟨v', ⟨by simp [go_sem], own_le (own_nw ho ((Nw.refl W).alloc _)) (Nat.zero_le _), fun e => by have := (ho.lt _ e).2; omega, by simp [go_sem], HASC.out⟩, fun b hb => (ho.lt b hb).1⟩, hw.alloc _⟩
  have FIN := Lib.hid fin
  clear fin
  rcases h.form with ⟨rfl, rfl⟩ | ⟨g, c, rfl, -, -, hin⟩
  · clear h
    go_enter Tryd.func21, Tryd.ntmps21
    go_wp2_with fail
    refine (clone_any none 0 0 [] w ⟨rfl, fun h => by omega⟩ (by omega) (fun _ => ⟨rfl, rfl⟩)).mono ?_
    rintro e W2 ⟨v', rfl, hown, hn2⟩
    have HF := Lib.hid (FIN.out W2 v' hown hn2)
    obtain ⟨A, cC, hvC⟩ : ∃ A cC, v' = .slice A 0 cC := by
      rcases own_forms hown with ⟨rfl, _⟩ | ⟨g, c, rfl, _⟩
      · exact ⟨_, _, rfl⟩
      · exact ⟨_, _, rfl⟩
    subst hvC
    clear hown hn2
    go_wp2
    exact bodyPost_ret (results_tmp rfl _ _ _) rfl ⟨W2.heap.size, rfl, HF.out⟩
  · have HR := Lib.hid (⟨pcells_len l, fun hl => ⟨g, 0, rfl, hin.lt, fun j u hu => by
        have := (List.getElem?_eq_some_iff.1 hu).1
        rw [pcells_len] at this
        rw [Nat.zero_add, h.row.cellAt _ this]; exact hu⟩⟩ : Rd w 2 (some ⟨g, 0, none⟩) l.length (pcells l))
    clear h
    go_enter Tryd.func21, Tryd.ntmps21
    go_wp2_with fail
    refine (clone_any _ l.length c l w HR.out hn (fun h => by cases h)).mono ?_
    rintro e W2 ⟨v', rfl, hown, hn2⟩
    have HF := Lib.hid (FIN.out W2 v' hown hn2)
    obtain ⟨A, cC, hvC⟩ : ∃ A cC, v' = .slice A l.length cC := by
      rcases own_forms hown with ⟨rfl, h0⟩ | ⟨g, c, rfl, _⟩
      · rw [h0]; exact ⟨_, _, rfl⟩
      · exact ⟨_, _, rfl⟩
    subst hvC
    clear hown hn2
    go_wp2
    exact bodyPost_ret (results_tmp rfl _ _ _) rfl ⟨W2.heap.size, rfl, HF.out⟩
end Go.Proofs.YtdjcndpnjoahmaaDoor
