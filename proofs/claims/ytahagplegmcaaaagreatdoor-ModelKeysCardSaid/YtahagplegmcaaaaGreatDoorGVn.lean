import Derived.Test.YtahagplegmcaaaaGreatDoorGWa
import Derived.Test.YtahagplegmcaaaaGreatDoorGQd
set_option linter.unusedVariables false
set_option linter.unusedSimpArgs false
set_option linter.unnecessarySimpa false
namespace Go.Proofs.YtahagplegmcaaaaGreatDoor
open Go.RowKit Go.Xt
/-! The reference's model: Do of each kind. -/
theorem RMUp.res {w W W' : World} {p p' : Pl} {cf : Cf} {s0 s : Md} (hn : Nw w W) {b : Nat} (hb : w.heap.size ≤ b) (hb2 : b < W.heap.size) (hp : RAt w p cf s0) (h : RMUp W p cf s p' W') (r : Rs) : RMUp w p cf s p' (setRes W' b r) := by
  refine (h.after hn).new (setRes_chg W' b r) (fun g hg => by simp at hg; omega) (fun g hg hx => ?_)
  simp at hx; subst hx
  rcases h.mv _ hg with h1 | h1
  · have := hp.lt h1; omega
  · omega
set_option maxRecDepth 20000 in
set_option maxHeartbeats 8000000 in
theorem rdo_k2 (w : World) (p : Pl) (cf : Cf) (s : Md) (h : RAt w p cf s) (t : Nat) (x : Th) (ht : s.th[t]? = some x) (a b c d e f : Int) (hw : Ox.Wf ⟨2, a, b, c, d, e, f⟩) (hr : refM s t ⟨2, a, b, c, d, e, f⟩ = 0) :
    Calls Tryz.prog 9 #[.pointer (some ⟨p.gm, 0, none⟩), .int .i64 t, opV ⟨2, a, b, c, d, e, f⟩] w fun q w' => q = .returned (resV ⟨0, false, 0, 0, 0⟩) ∧ ∃ p', RMUp w p cf { s with th := s.th.set t { x with se := false } } p' w' := by
  have HR := Lib.hid (fun W (hn : Nw w W) => rrefusal_any W p cf s (h.nw hn) t ⟨2, a, b, c, d, e, f⟩ hw)
  have H := Lib.hid h
  have HT := Lib.hid ht
  obtain ⟨p0, _⟩ := List.getElem?_eq_some_iff.1 ht
  have im := h.im
  have it := h.it
  rw [hr] at HR
  obtain ⟨gm, gt, gp, v⟩ := p
  unfold opV at HR ⊢
  unfold resV
  simp only at HR im it ⊢
  clear h hr hw ht
  obtain ⟨W2, hW2⟩ : ∃ W2, W2 = (w.alloc (.cells #[.int .u8 2, .int .u64 a, .int .u64 b, .int .u64 c, .int .u64 d, .int .u64 e, .int .u64 f] 45)).alloc (.cells #[.int .i64 0, .bool false, .int .u64 0, .int .u64 0, .int .i64 0] 42) := ⟨_, rfl⟩
  have hn2 : Nw w W2 := by rw [hW2]; exact (by repeat (first | exact Xt.Nw.refl _ | refine Xt.Nw.drew ?_ | refine Xt.Nw.drewN ?_ _ | refine Xt.Nw.alloc ?_ _ | refine Xt.Nw.joined ?_ | refine Xt.Nw.drewd ?_ | refine Xt.Nw.drewdN ?_ | refine Xt.Nw.ext ?_ | refine Xt.Nw.ext_some ?_ (by assumption) | refine Xt.Nw.setCell ?_ (by simp [go_sem] <;> omega) _))
  have hf2 : Fr w W2 ⟨2, a, b, c, d, e, f⟩ := by rw [hW2]; exact Fr.made w 2 a b c d e f
  have HF2 := Lib.hid hf2
  have HN2 := Lib.hid hn2
  have HW2 := Lib.hid hW2
  haveI : In gm w := ⟨im⟩
  clear hn2 hW2 hf2
  go_enter Tryz.func9, Tryz.ntmps9
  go_wp2_with fail
  rw [← HW2.out]
  refine (HR.out W2 HN2.out).mono ?_
  rintro r W3 ⟨rfl, hn3⟩
  have hn : Nw w W3 := HN2.out.trans hn3
  have h3 := H.out.nw hn
  obtain ⟨ct, m2⟩ := h3.m2
  have m1 : W3.cell? ⟨gm, 16, none⟩ = some (.pointer (some ⟨gp, 0, none⟩)) := h3.m1
  obtain ⟨c0, c1, c2, c3, c4⟩ := (h3.th : RThR W3 gt s.th).cells HT.out
  have y0 : W3.frozen? ⟨gt, t * 5, none⟩ = false := (h3.th : RThR W3 gt s.th).frozen _
  have y1 : W3.frozen? ⟨gt, t * 5 + 1, none⟩ = false := (h3.th : RThR W3 gt s.th).frozen _
  have y2 : W3.frozen? ⟨gt, t * 5 + 2, none⟩ = false := (h3.th : RThR W3 gt s.th).frozen _
  have y3 : W3.frozen? ⟨gt, t * 5 + 3, none⟩ = false := (h3.th : RThR W3 gt s.th).frozen _
  have y4 : W3.frozen? ⟨gt, t * 5 + 3 + 1, none⟩ = false := (h3.th : RThR W3 gt s.th).frozen _
  obtain ⟨hs3, q0, q1, q2, q3, q4, q5, q6, r0, r1, r2, r3, r4, z0, z1, z2, z3, z4⟩ := HF2.out.nw hn3
  have im3 : gm < W3.heap.size := h3.im
  have it3 : gt < W3.heap.size := h3.it
  have HN3 := Lib.hid hn
  have HS3 := Lib.hid hs3
  have H3 := Lib.hid h3
  have ne1 : gt ≠ w.heap.size := Nat.ne_of_lt it
  have ne2 : gt ≠ w.heap.size + 1 := by omega
  haveI : In gm W3 := ⟨im3⟩
  haveI : In gt W3 := ⟨it3⟩
  haveI : In w.heap.size W3 := ⟨by omega⟩
  haveI : In (w.heap.size + 1) W3 := ⟨hs3⟩
  have t1 : (t : Int) < (s.th.length : Int) := by omega
  have t0 : (0 : Int) ≤ (t : Int) := by omega
  simp only at m2 q0 q1 q2 q3 q4 q5 q6
  clear hn h3 hn3 hs3 HR
  go_wp2
  have hu : RMUp W3 ⟨gm, gt, gp, v⟩ cf { s with th := s.th.set t { x with se := false } } ⟨gm, gt, gp, v⟩ _ := RMUp.ths H3.out (by simp) (RThR.se H3.out.th HT.out false) (Chg.set1 W3 gt _ _)
  refine bodyPost_ret (v := res5 0 false 0 0 0) ?_ rfl ⟨rfl, _, ((RMUp.res HN3.out (Nat.le_succ _) HS3.out H.out hu ⟨0, false, 0, 0, 0⟩).nw (Nw.alloc (Nw.refl _) _)).nw (Nw.alloc (Nw.refl _) _)⟩
  simp [results, Tryz.results9, go_sem, r0, r1, r2, r3, r4]
set_option maxRecDepth 20000 in
set_option maxHeartbeats 8000000 in
theorem rdo_k14 (w : World) (p : Pl) (cf : Cf) (s : Md) (h : RAt w p cf s) (t : Nat) (x : Th) (ht : s.th[t]? = some x) (a b c d e f : Int) (hw : Ox.Wf ⟨14, a, b, c, d, e, f⟩) (hr : refM s t ⟨14, a, b, c, d, e, f⟩ = 0) :
    Calls Tryz.prog 9 #[.pointer (some ⟨p.gm, 0, none⟩), .int .i64 t, opV ⟨14, a, b, c, d, e, f⟩] w fun q w' => q = .returned (resV ⟨0, false, 0, 0, 0⟩) ∧ ∃ p', RMUp w p cf { s with th := s.th.set t ⟨false, false, 0, 0, x.se⟩ } p' w' := by
  have HR := Lib.hid (fun W (hn : Nw w W) => rrefusal_any W p cf s (h.nw hn) t ⟨14, a, b, c, d, e, f⟩ hw)
  have H := Lib.hid h
  have HT := Lib.hid ht
  obtain ⟨p0, _⟩ := List.getElem?_eq_some_iff.1 ht
  have im := h.im
  have it := h.it
  rw [hr] at HR
  obtain ⟨gm, gt, gp, v⟩ := p
  unfold opV at HR ⊢
  unfold resV
  simp only at HR im it ⊢
  clear h hr hw ht
  obtain ⟨W2, hW2⟩ : ∃ W2, W2 = (w.alloc (.cells #[.int .u8 14, .int .u64 a, .int .u64 b, .int .u64 c, .int .u64 d, .int .u64 e, .int .u64 f] 45)).alloc (.cells #[.int .i64 0, .bool false, .int .u64 0, .int .u64 0, .int .i64 0] 42) := ⟨_, rfl⟩
  have hn2 : Nw w W2 := by rw [hW2]; exact (by repeat (first | exact Xt.Nw.refl _ | refine Xt.Nw.drew ?_ | refine Xt.Nw.drewN ?_ _ | refine Xt.Nw.alloc ?_ _ | refine Xt.Nw.joined ?_ | refine Xt.Nw.drewd ?_ | refine Xt.Nw.drewdN ?_ | refine Xt.Nw.ext ?_ | refine Xt.Nw.ext_some ?_ (by assumption) | refine Xt.Nw.setCell ?_ (by simp [go_sem] <;> omega) _))
  have hf2 : Fr w W2 ⟨14, a, b, c, d, e, f⟩ := by rw [hW2]; exact Fr.made w 14 a b c d e f
  have HF2 := Lib.hid hf2
  have HN2 := Lib.hid hn2
  have HW2 := Lib.hid hW2
  haveI : In gm w := ⟨im⟩
  clear hn2 hW2 hf2
  go_enter Tryz.func9, Tryz.ntmps9
  go_wp2_with fail
  rw [← HW2.out]
  refine (HR.out W2 HN2.out).mono ?_
  rintro r W3 ⟨rfl, hn3⟩
  have hn : Nw w W3 := HN2.out.trans hn3
  have h3 := H.out.nw hn
  obtain ⟨ct, m2⟩ := h3.m2
  have m1 : W3.cell? ⟨gm, 16, none⟩ = some (.pointer (some ⟨gp, 0, none⟩)) := h3.m1
  obtain ⟨c0, c1, c2, c3, c4⟩ := (h3.th : RThR W3 gt s.th).cells HT.out
  have y0 : W3.frozen? ⟨gt, t * 5, none⟩ = false := (h3.th : RThR W3 gt s.th).frozen _
  have y1 : W3.frozen? ⟨gt, t * 5 + 1, none⟩ = false := (h3.th : RThR W3 gt s.th).frozen _
  have y2 : W3.frozen? ⟨gt, t * 5 + 2, none⟩ = false := (h3.th : RThR W3 gt s.th).frozen _
  have y3 : W3.frozen? ⟨gt, t * 5 + 3, none⟩ = false := (h3.th : RThR W3 gt s.th).frozen _
  have y4 : W3.frozen? ⟨gt, t * 5 + 3 + 1, none⟩ = false := (h3.th : RThR W3 gt s.th).frozen _
  obtain ⟨hs3, q0, q1, q2, q3, q4, q5, q6, r0, r1, r2, r3, r4, z0, z1, z2, z3, z4⟩ := HF2.out.nw hn3
  have im3 : gm < W3.heap.size := h3.im
  have it3 : gt < W3.heap.size := h3.it
  have HN3 := Lib.hid hn
  have HS3 := Lib.hid hs3
  have H3 := Lib.hid h3
  have ne1 : gt ≠ w.heap.size := Nat.ne_of_lt it
  have ne2 : gt ≠ w.heap.size + 1 := by omega
  haveI : In gm W3 := ⟨im3⟩
  haveI : In gt W3 := ⟨it3⟩
  haveI : In w.heap.size W3 := ⟨by omega⟩
  haveI : In (w.heap.size + 1) W3 := ⟨hs3⟩
  have t1 : (t : Int) < (s.th.length : Int) := by omega
  have t0 : (0 : Int) ≤ (t : Int) := by omega
  simp only at m2 q0 q1 q2 q3 q4 q5 q6
  clear hn h3 hn3 hs3 HR
  go_wp2
  have hu : RMUp W3 ⟨gm, gt, gp, v⟩ cf { s with th := s.th.set t { x with op := false, mo := false, lo := 0, hi := 0 } } ⟨gm, gt, gp, v⟩ _ := RMUp.ths H3.out (by simp) (by
    have h1 := RThR.op H3.out.th HT.out false
    have h2 := h1.mo (set_at HT.out _) false
    have h3 := h2.lo (set_at (set_at HT.out _) _) 0
    have h4 := h3.hi (set_at (set_at (set_at HT.out _) _) _) 0
    rw [List.set_set, List.set_set, List.set_set] at h4
    exact h4) ((((Chg.set1 W3 gt _ _).set2 _ _).set2 _ _).set2 _ _)
  refine bodyPost_ret (v := res5 0 false 0 0 0) ?_ rfl ⟨rfl, _, ((RMUp.res HN3.out (Nat.le_succ _) HS3.out H.out hu ⟨0, false, 0, 0, 0⟩).nw (Nw.alloc (Nw.refl _) _)).nw (Nw.alloc (Nw.refl _) _)⟩
  simp [results, Tryz.results9, go_sem, r0, r1, r2, r3, r4]
set_option maxRecDepth 20000 in
set_option maxHeartbeats 8000000 in
theorem rdo_k10 (w : World) (p : Pl) (cf : Cf) (s : Md) (h : RAt w p cf s) (t : Nat) (x : Th) (ht : s.th[t]? = some x) (a b c d e f : Int) (hw : Ox.Wf ⟨10, a, b, c, d, e, f⟩) (hr : refM s t ⟨10, a, b, c, d, e, f⟩ = 0) :
    Calls Tryz.prog 9 #[.pointer (some ⟨p.gm, 0, none⟩), .int .i64 t, opV ⟨10, a, b, c, d, e, f⟩] w fun q w' => q = .returned (resV ⟨0, false, 0, 0, s.l.length⟩) ∧ ∃ p', RMUp w p cf s p' w' := by
  have HR := Lib.hid (fun W (hn : Nw w W) => rrefusal_any W p cf s (h.nw hn) t ⟨10, a, b, c, d, e, f⟩ hw)
  have H := Lib.hid h
  have HT := Lib.hid ht
  obtain ⟨p0, _⟩ := List.getElem?_eq_some_iff.1 ht
  have im := h.im
  have it := h.it
  rw [hr] at HR
  obtain ⟨gm, gt, gp, v⟩ := p
  unfold opV at HR ⊢
  unfold resV
  simp only at HR im it ⊢
  clear h hr hw ht
  obtain ⟨W2, hW2⟩ : ∃ W2, W2 = (w.alloc (.cells #[.int .u8 10, .int .u64 a, .int .u64 b, .int .u64 c, .int .u64 d, .int .u64 e, .int .u64 f] 45)).alloc (.cells #[.int .i64 0, .bool false, .int .u64 0, .int .u64 0, .int .i64 0] 42) := ⟨_, rfl⟩
  have hn2 : Nw w W2 := by rw [hW2]; exact (by repeat (first | exact Xt.Nw.refl _ | refine Xt.Nw.drew ?_ | refine Xt.Nw.drewN ?_ _ | refine Xt.Nw.alloc ?_ _ | refine Xt.Nw.joined ?_ | refine Xt.Nw.drewd ?_ | refine Xt.Nw.drewdN ?_ | refine Xt.Nw.ext ?_ | refine Xt.Nw.ext_some ?_ (by assumption) | refine Xt.Nw.setCell ?_ (by simp [go_sem] <;> omega) _))
  have hf2 : Fr w W2 ⟨10, a, b, c, d, e, f⟩ := by rw [hW2]; exact Fr.made w 10 a b c d e f
  have HF2 := Lib.hid hf2
  have HN2 := Lib.hid hn2
  have HW2 := Lib.hid hW2
  haveI : In gm w := ⟨im⟩
  clear hn2 hW2 hf2
  go_enter Tryz.func9, Tryz.ntmps9
  go_wp2_with fail
  rw [← HW2.out]
  refine (HR.out W2 HN2.out).mono ?_
  rintro r W3 ⟨rfl, hn3⟩
  have hn : Nw w W3 := HN2.out.trans hn3
  have h3 := H.out.nw hn
  obtain ⟨ct, m2⟩ := h3.m2
  have m1 : W3.cell? ⟨gm, 16, none⟩ = some (.pointer (some ⟨gp, 0, none⟩)) := h3.m1
  obtain ⟨c0, c1, c2, c3, c4⟩ := (h3.th : RThR W3 gt s.th).cells HT.out
  have y0 : W3.frozen? ⟨gt, t * 5, none⟩ = false := (h3.th : RThR W3 gt s.th).frozen _
  have y1 : W3.frozen? ⟨gt, t * 5 + 1, none⟩ = false := (h3.th : RThR W3 gt s.th).frozen _
  have y2 : W3.frozen? ⟨gt, t * 5 + 2, none⟩ = false := (h3.th : RThR W3 gt s.th).frozen _
  have y3 : W3.frozen? ⟨gt, t * 5 + 3, none⟩ = false := (h3.th : RThR W3 gt s.th).frozen _
  have y4 : W3.frozen? ⟨gt, t * 5 + 3 + 1, none⟩ = false := (h3.th : RThR W3 gt s.th).frozen _
  have pc : W3.cell? ⟨gp, 0, none⟩ = some v := h3.om.p0
  obtain ⟨A, cA, hv⟩ := own_slice h3.om.row
  have HV := Lib.hid hv
  have hv2 : v = .slice A s.l.length cA := hv
  rw [hv2] at pc
  have ip : gp < W3.heap.size := h3.om.lt
  haveI : In gp W3 := ⟨ip⟩
  clear hv hv2
  obtain ⟨hs3, q0, q1, q2, q3, q4, q5, q6, r0, r1, r2, r3, r4, z0, z1, z2, z3, z4⟩ := HF2.out.nw hn3
  have im3 : gm < W3.heap.size := h3.im
  have it3 : gt < W3.heap.size := h3.it
  have HN3 := Lib.hid hn
  have HS3 := Lib.hid hs3
  have H3 := Lib.hid h3
  have ne1 : gt ≠ w.heap.size := Nat.ne_of_lt it
  have ne2 : gt ≠ w.heap.size + 1 := by omega
  haveI : In gm W3 := ⟨im3⟩
  haveI : In gt W3 := ⟨it3⟩
  haveI : In w.heap.size W3 := ⟨by omega⟩
  haveI : In (w.heap.size + 1) W3 := ⟨hs3⟩
  have t1 : (t : Int) < (s.th.length : Int) := by omega
  have t0 : (0 : Int) ≤ (t : Int) := by omega
  simp only at m2 q0 q1 q2 q3 q4 q5 q6
  clear hn h3 hn3 hs3 HR
  go_wp2
  have hu : RMUp W3 ⟨gm, gt, gp, v⟩ cf s ⟨gm, gt, gp, v⟩ W3 := RMUp.same H3.out (Nw.refl _)
  refine bodyPost_ret (v := res5 0 false 0 0 s.l.length) ?_ rfl ⟨rfl, _, ((RMUp.res HN3.out (Nat.le_succ _) HS3.out H.out hu ⟨0, false, 0, 0, s.l.length⟩).nw (Nw.alloc (Nw.refl _) _)).nw (Nw.alloc (Nw.refl _) _)⟩
  simp [results, Tryz.results9, go_sem, r0, r1, r2, r3, r4]
set_option maxRecDepth 20000 in
set_option maxHeartbeats 8000000 in
theorem rdo_k15 (w : World) (p : Pl) (cf : Cf) (s : Md) (h : RAt w p cf s) (t : Nat) (x : Th) (ht : s.th[t]? = some x) (a b c d e f : Int) (hw : Ox.Wf ⟨15, a, b, c, d, e, f⟩) (hr : refM s t ⟨15, a, b, c, d, e, f⟩ = 0) :
    Calls Tryz.prog 9 #[.pointer (some ⟨p.gm, 0, none⟩), .int .i64 t, opV ⟨15, a, b, c, d, e, f⟩] w fun q w' => q = .returned (resV ⟨0, false, 0, 0, 0⟩) ∧ ∃ p', RMUp w p cf s p' w' := by
  have HR := Lib.hid (fun W (hn : Nw w W) => rrefusal_any W p cf s (h.nw hn) t ⟨15, a, b, c, d, e, f⟩ hw)
  have H := Lib.hid h
  have HT := Lib.hid ht
  obtain ⟨p0, _⟩ := List.getElem?_eq_some_iff.1 ht
  have im := h.im
  have it := h.it
  rw [hr] at HR
  obtain ⟨gm, gt, gp, v⟩ := p
  unfold opV at HR ⊢
  unfold resV
  simp only at HR im it ⊢
  clear h hr hw ht
  obtain ⟨W2, hW2⟩ : ∃ W2, W2 = (w.alloc (.cells #[.int .u8 15, .int .u64 a, .int .u64 b, .int .u64 c, .int .u64 d, .int .u64 e, .int .u64 f] 45)).alloc (.cells #[.int .i64 0, .bool false, .int .u64 0, .int .u64 0, .int .i64 0] 42) := ⟨_, rfl⟩
  have hn2 : Nw w W2 := by rw [hW2]; exact (by repeat (first | exact Xt.Nw.refl _ | refine Xt.Nw.drew ?_ | refine Xt.Nw.drewN ?_ _ | refine Xt.Nw.alloc ?_ _ | refine Xt.Nw.joined ?_ | refine Xt.Nw.drewd ?_ | refine Xt.Nw.drewdN ?_ | refine Xt.Nw.ext ?_ | refine Xt.Nw.ext_some ?_ (by assumption) | refine Xt.Nw.setCell ?_ (by simp [go_sem] <;> omega) _))
  have hf2 : Fr w W2 ⟨15, a, b, c, d, e, f⟩ := by rw [hW2]; exact Fr.made w 15 a b c d e f
  have HF2 := Lib.hid hf2
  have HN2 := Lib.hid hn2
  have HW2 := Lib.hid hW2
  haveI : In gm w := ⟨im⟩
  clear hn2 hW2 hf2
  go_enter Tryz.func9, Tryz.ntmps9
  go_wp2_with fail
  rw [← HW2.out]
  refine (HR.out W2 HN2.out).mono ?_
  rintro r W3 ⟨rfl, hn3⟩
  have hn : Nw w W3 := HN2.out.trans hn3
  have h3 := H.out.nw hn
  obtain ⟨ct, m2⟩ := h3.m2
  have m1 : W3.cell? ⟨gm, 16, none⟩ = some (.pointer (some ⟨gp, 0, none⟩)) := h3.m1
  obtain ⟨c0, c1, c2, c3, c4⟩ := (h3.th : RThR W3 gt s.th).cells HT.out
  have y0 : W3.frozen? ⟨gt, t * 5, none⟩ = false := (h3.th : RThR W3 gt s.th).frozen _
  have y1 : W3.frozen? ⟨gt, t * 5 + 1, none⟩ = false := (h3.th : RThR W3 gt s.th).frozen _
  have y2 : W3.frozen? ⟨gt, t * 5 + 2, none⟩ = false := (h3.th : RThR W3 gt s.th).frozen _
  have y3 : W3.frozen? ⟨gt, t * 5 + 3, none⟩ = false := (h3.th : RThR W3 gt s.th).frozen _
  have y4 : W3.frozen? ⟨gt, t * 5 + 3 + 1, none⟩ = false := (h3.th : RThR W3 gt s.th).frozen _
  obtain ⟨hs3, q0, q1, q2, q3, q4, q5, q6, r0, r1, r2, r3, r4, z0, z1, z2, z3, z4⟩ := HF2.out.nw hn3
  have im3 : gm < W3.heap.size := h3.im
  have it3 : gt < W3.heap.size := h3.it
  have HN3 := Lib.hid hn
  have HS3 := Lib.hid hs3
  have H3 := Lib.hid h3
  have ne1 : gt ≠ w.heap.size := Nat.ne_of_lt it
  have ne2 : gt ≠ w.heap.size + 1 := by omega
  haveI : In gm W3 := ⟨im3⟩
  haveI : In gt W3 := ⟨it3⟩
  haveI : In w.heap.size W3 := ⟨by omega⟩
  haveI : In (w.heap.size + 1) W3 := ⟨hs3⟩
  have t1 : (t : Int) < (s.th.length : Int) := by omega
  have t0 : (0 : Int) ≤ (t : Int) := by omega
  simp only at m2 q0 q1 q2 q3 q4 q5 q6
  clear hn h3 hn3 hs3 HR
  go_wp2
  have hu : RMUp W3 ⟨gm, gt, gp, v⟩ cf s ⟨gm, gt, gp, v⟩ W3 := RMUp.same H3.out (Nw.refl _)
  refine bodyPost_ret (v := res5 0 false 0 0 0) ?_ rfl ⟨rfl, _, ((RMUp.res HN3.out (Nat.le_succ _) HS3.out H.out hu ⟨0, false, 0, 0, 0⟩).nw (Nw.alloc (Nw.refl _) _)).nw (Nw.alloc (Nw.refl _) _)⟩
  simp [results, Tryz.results9, go_sem, r0, r1, r2, r3, r4]
set_option maxRecDepth 20000 in
set_option maxHeartbeats 8000000 in
theorem rdo_k13 (w : World) (p : Pl) (cf : Cf) (s : Md) (h : RAt w p cf s) (t : Nat) (x : Th) (ht : s.th[t]? = some x) (a b c d e f : Int) (hw : Ox.Wf ⟨13, a, b, c, d, e, f⟩) (hr : refM s t ⟨13, a, b, c, d, e, f⟩ = 0) :
    Calls Tryz.prog 9 #[.pointer (some ⟨p.gm, 0, none⟩), .int .i64 t, opV ⟨13, a, b, c, d, e, f⟩] w fun q w' => q = .returned (resV ⟨0, false, 0, 0, 0⟩) ∧ ∃ p', RMUp w p cf { s with th := s.th.set t (if x.hi < a then x.fin else { x with lo := a }) } p' w' := by
  have HR := Lib.hid (fun W (hn : Nw w W) => rrefusal_any W p cf s (h.nw hn) t ⟨13, a, b, c, d, e, f⟩ hw)
  have H := Lib.hid h
  have HT := Lib.hid ht
  obtain ⟨p0, _⟩ := List.getElem?_eq_some_iff.1 ht
  have im := h.im
  have it := h.it
  rw [hr] at HR
  have HA := Lib.hid (fun W (hn : Nw w W) => rat_any W p.gt s.th (h.nw hn).th t x ht a)
  obtain ⟨y, hy⟩ : ∃ y, y = if x.hi < a then x.fin else { x with lo := a } := ⟨_, rfl⟩
  rw [← hy] at HA ⊢
  obtain ⟨gm, gt, gp, v⟩ := p
  unfold opV at HR ⊢
  unfold resV
  simp only at HR HA im it ⊢
  clear h hr hw ht
  obtain ⟨W2, hW2⟩ : ∃ W2, W2 = (w.alloc (.cells #[.int .u8 13, .int .u64 a, .int .u64 b, .int .u64 c, .int .u64 d, .int .u64 e, .int .u64 f] 45)).alloc (.cells #[.int .i64 0, .bool false, .int .u64 0, .int .u64 0, .int .i64 0] 42) := ⟨_, rfl⟩
  have hn2 : Nw w W2 := by rw [hW2]; exact (by repeat (first | exact Xt.Nw.refl _ | refine Xt.Nw.drew ?_ | refine Xt.Nw.drewN ?_ _ | refine Xt.Nw.alloc ?_ _ | refine Xt.Nw.joined ?_ | refine Xt.Nw.drewd ?_ | refine Xt.Nw.drewdN ?_ | refine Xt.Nw.ext ?_ | refine Xt.Nw.ext_some ?_ (by assumption) | refine Xt.Nw.setCell ?_ (by simp [go_sem] <;> omega) _))
  have hf2 : Fr w W2 ⟨13, a, b, c, d, e, f⟩ := by rw [hW2]; exact Fr.made w 13 a b c d e f
  have HF2 := Lib.hid hf2
  have HN2 := Lib.hid hn2
  have HW2 := Lib.hid hW2
  haveI : In gm w := ⟨im⟩
  clear hn2 hW2 hf2
  go_enter Tryz.func9, Tryz.ntmps9
  go_wp2_with fail
  rw [← HW2.out]
  refine (HR.out W2 HN2.out).mono ?_
  rintro r W3 ⟨rfl, hn3⟩
  have hn : Nw w W3 := HN2.out.trans hn3
  have h3 := H.out.nw hn
  obtain ⟨ct, m2⟩ := h3.m2
  have m1 : W3.cell? ⟨gm, 16, none⟩ = some (.pointer (some ⟨gp, 0, none⟩)) := h3.m1
  obtain ⟨c0, c1, c2, c3, c4⟩ := (h3.th : RThR W3 gt s.th).cells HT.out
  have y0 : W3.frozen? ⟨gt, t * 5, none⟩ = false := (h3.th : RThR W3 gt s.th).frozen _
  have y1 : W3.frozen? ⟨gt, t * 5 + 1, none⟩ = false := (h3.th : RThR W3 gt s.th).frozen _
  have y2 : W3.frozen? ⟨gt, t * 5 + 2, none⟩ = false := (h3.th : RThR W3 gt s.th).frozen _
  have y3 : W3.frozen? ⟨gt, t * 5 + 3, none⟩ = false := (h3.th : RThR W3 gt s.th).frozen _
  have y4 : W3.frozen? ⟨gt, t * 5 + 3 + 1, none⟩ = false := (h3.th : RThR W3 gt s.th).frozen _
  have HF3 := Lib.hid (HF2.out.nw hn3)
  obtain ⟨hs3, q0, q1, q2, q3, q4, q5, q6, r0, r1, r2, r3, r4, z0, z1, z2, z3, z4⟩ := HF2.out.nw hn3
  have im3 : gm < W3.heap.size := h3.im
  have it3 : gt < W3.heap.size := h3.it
  have HN3 := Lib.hid hn
  have HS3 := Lib.hid hs3
  have H3 := Lib.hid h3
  have ne1 : gt ≠ w.heap.size := Nat.ne_of_lt it
  have ne2 : gt ≠ w.heap.size + 1 := by omega
  haveI : In gm W3 := ⟨im3⟩
  haveI : In gt W3 := ⟨it3⟩
  haveI : In w.heap.size W3 := ⟨by omega⟩
  haveI : In (w.heap.size + 1) W3 := ⟨hs3⟩
  have t1 : (t : Int) < (s.th.length : Int) := by omega
  have t0 : (0 : Int) ≤ (t : Int) := by omega
  simp only at m2 q0 q1 q2 q3 q4 q5 q6
  clear hn h3 hn3 hs3 HR
  obtain ⟨W4, hW4⟩ : ∃ W4, W4 = (W3.alloc (.cells #[.int .i64 0, .bool false, .int .u64 0, .int .u64 0, .int .i64 0] 42)).alloc (.cells #[.int .u64 a, .int .u64 b] 71) := ⟨_, rfl⟩
  have hn4 : Nw W3 W4 := by rw [hW4]; exact (by repeat (first | exact Xt.Nw.refl _ | refine Xt.Nw.drew ?_ | refine Xt.Nw.drewN ?_ _ | refine Xt.Nw.alloc ?_ _ | refine Xt.Nw.joined ?_ | refine Xt.Nw.drewd ?_ | refine Xt.Nw.drewdN ?_ | refine Xt.Nw.ext ?_ | refine Xt.Nw.ext_some ?_ (by assumption) | refine Xt.Nw.setCell ?_ (by simp [go_sem] <;> omega) _))
  have v0 : W4.cell? ⟨W3.heap.size, 0, none⟩ = some (.int .i64 0) := by rw [hW4]; simp [go_sem]
  have v1 : W4.cell? ⟨W3.heap.size, 1, none⟩ = some (.bool false) := by rw [hW4]; simp [go_sem]
  have v2 : W4.cell? ⟨W3.heap.size, 2, none⟩ = some (.int .u64 0) := by rw [hW4]; simp [go_sem]
  have v3 : W4.cell? ⟨W3.heap.size, 3, none⟩ = some (.int .u64 0) := by rw [hW4]; simp [go_sem]
  have v4 : W4.cell? ⟨W3.heap.size, 4, none⟩ = some (.int .i64 0) := by rw [hW4]; simp [go_sem]
  have HW4 := Lib.hid hW4
  have HN4 := Lib.hid hn4
  clear hW4 hn4
  go_wp2_with fail
  rw [← HW4.out]
  refine (HA.out W4 (HN3.out.trans HN4.out)).mono ?_
  rintro r W5 ⟨rfl, hth, hch⟩
  have hu : RMUp W3 ⟨gm, gt, gp, v⟩ cf { s with th := s.th.set t y } ⟨gm, gt, gp, v⟩ W5 := RMUp.after HN4.out (RMUp.ths (H3.out.nw HN4.out) (by simp) hth hch)
  have ne3 : W3.heap.size ∉ [gt] := by simp; omega
  replace v0 := hch.cell v0 ne3
  replace v1 := hch.cell v1 ne3
  replace v2 := hch.cell v2 ne3
  replace v3 := hch.cell v3 ne3
  replace v4 := hch.cell v4 ne3
  obtain ⟨hs5, -, -, -, -, -, -, -, r0, r1, r2, r3, r4, z0, z1, z2, z3, z4⟩ := (HF3.out.nw HN4.out).chg hch (by simp; omega) (by simp; omega)
  haveI : In (w.heap.size + 1) W5 := ⟨hs5⟩
  have HU := Lib.hid hu
  clear hth hch hu
  go_wp2
  refine bodyPost_ret (v := res5 0 false 0 0 0) ?_ rfl ⟨rfl, _, RMUp.res HN3.out (Nat.le_succ _) HS3.out H.out HU.out ⟨0, false, 0, 0, 0⟩⟩
  simp [results, Tryz.results9, go_sem, r0, r1, r2, r3, r4]
end Go.Proofs.YtahagplegmcaaaaGreatDoor
namespace Go.Proofs.YtahagplegmcaaaaGreatDoor
open Go.RowKit Go.Xt
/-! The reference's model: Do of the kinds whose region draws its order. -/
set_option maxRecDepth 20000 in
set_option maxHeartbeats 8000000 in
theorem rdo_k3 (w : World) (p : Pl) (cf : Cf) (s : Md) (h : RAt w p cf s) (t : Nat) (x : Th) (ht : s.th[t]? = some x) (a b c d e f : Int) (hw : Ox.Wf ⟨3, a, b, c, d, e, f⟩) (hr : refM s t ⟨3, a, b, c, d, e, f⟩ = 0) (hl : s.l.length ≤ 500000) :
    Calls Tryz.prog 9 #[.pointer (some ⟨p.gm, 0, none⟩), .int .i64 t, opV ⟨3, a, b, c, d, e, f⟩] w fun q w' => q = .returned (resV ⟨0, hasK a s.l, 0, valL a s.l, 0⟩) ∧ ∃ p', RMUp w p cf s p' w' := by
  have HR := Lib.hid (fun W (hn : Nw w W) => rrefusal_any W p cf s (h.nw hn) t ⟨3, a, b, c, d, e, f⟩ hw)
  have H := Lib.hid h
  have HT := Lib.hid ht
  obtain ⟨p0, _⟩ := List.getElem?_eq_some_iff.1 ht
  have im := h.im
  have it := h.it
  rw [hr] at HR
  have HG := Lib.hid (fun W (hn : Nw w W) => rget_om (h.nw hn).om (by omega) a)
  obtain ⟨y, hy⟩ : ∃ y, y = valL a s.l := ⟨_, rfl⟩
  obtain ⟨bb, hb⟩ : ∃ y, y = hasK a s.l := ⟨_, rfl⟩
  rw [← hy, ← hb] at HG ⊢
  clear hy hb
  obtain ⟨gm, gt, gp, v⟩ := p
  unfold opV at HR ⊢
  unfold resV
  simp only at HR HG im it ⊢
  clear h hr hw ht
  obtain ⟨W2, hW2⟩ : ∃ W2, W2 = (w.alloc (.cells #[.int .u8 3, .int .u64 a, .int .u64 b, .int .u64 c, .int .u64 d, .int .u64 e, .int .u64 f] 45)).alloc (.cells #[.int .i64 0, .bool false, .int .u64 0, .int .u64 0, .int .i64 0] 42) := ⟨_, rfl⟩
  have hn2 : Nw w W2 := by rw [hW2]; exact (by repeat (first | exact Xt.Nw.refl _ | refine Xt.Nw.drew ?_ | refine Xt.Nw.drewN ?_ _ | refine Xt.Nw.alloc ?_ _ | refine Xt.Nw.joined ?_ | refine Xt.Nw.drewd ?_ | refine Xt.Nw.drewdN ?_ | refine Xt.Nw.ext ?_ | refine Xt.Nw.ext_some ?_ (by assumption) | refine Xt.Nw.setCell ?_ (by simp [go_sem] <;> omega) _))
  have hf2 : Fr w W2 ⟨3, a, b, c, d, e, f⟩ := by rw [hW2]; exact Fr.made w 3 a b c d e f
  have HF2 := Lib.hid hf2
  have HN2 := Lib.hid hn2
  have HW2 := Lib.hid hW2
  haveI : In gm w := ⟨im⟩
  clear hn2 hW2 hf2
  go_enter Tryz.func9, Tryz.ntmps9
  go_wp2_with fail
  rw [← HW2.out]
  refine (HR.out W2 HN2.out).mono ?_
  rintro r W3 ⟨rfl, hn3⟩
  have hn : Nw w W3 := HN2.out.trans hn3
  have h3 := H.out.nw hn
  obtain ⟨ct, m2⟩ := h3.m2
  have m1 : W3.cell? ⟨gm, 16, none⟩ = some (.pointer (some ⟨gp, 0, none⟩)) := h3.m1
  obtain ⟨c0, c1, c2, c3, c4⟩ := (h3.th : RThR W3 gt s.th).cells HT.out
  have y0 : W3.frozen? ⟨gt, t * 5, none⟩ = false := (h3.th : RThR W3 gt s.th).frozen _
  have y1 : W3.frozen? ⟨gt, t * 5 + 1, none⟩ = false := (h3.th : RThR W3 gt s.th).frozen _
  have y2 : W3.frozen? ⟨gt, t * 5 + 2, none⟩ = false := (h3.th : RThR W3 gt s.th).frozen _
  have y3 : W3.frozen? ⟨gt, t * 5 + 3, none⟩ = false := (h3.th : RThR W3 gt s.th).frozen _
  have y4 : W3.frozen? ⟨gt, t * 5 + 3 + 1, none⟩ = false := (h3.th : RThR W3 gt s.th).frozen _
  have HF3 := Lib.hid (HF2.out.nw hn3)
  obtain ⟨hs3, q0, q1, q2, q3, q4, q5, q6, r0, r1, r2, r3, r4, z0, z1, z2, z3, z4⟩ := HF2.out.nw hn3
  have im3 : gm < W3.heap.size := h3.im
  have it3 : gt < W3.heap.size := h3.it
  have HN3 := Lib.hid hn
  have HS3 := Lib.hid hs3
  have H3 := Lib.hid h3
  have ne1 : gt ≠ w.heap.size := Nat.ne_of_lt it
  have ne2 : gt ≠ w.heap.size + 1 := by omega
  haveI : In gm W3 := ⟨im3⟩
  haveI : In gt W3 := ⟨it3⟩
  haveI : In w.heap.size W3 := ⟨by omega⟩
  haveI : In (w.heap.size + 1) W3 := ⟨hs3⟩
  have t1 : (t : Int) < (s.th.length : Int) := by omega
  have t0 : (0 : Int) ≤ (t : Int) := by omega
  simp only at m2 q0 q1 q2 q3 q4 q5 q6
  clear hn h3 hn3 hs3 HR
  obtain ⟨W4, hW4⟩ : ∃ W4, W4 = (W3.alloc (.cells #[.int .i64 0, .bool false, .int .u64 0, .int .u64 0, .int .i64 0] 42)).alloc (.cells #[.int .u64 a, .int .u64 b] 71) := ⟨_, rfl⟩
  have hn4 : Nw W3 W4 := by rw [hW4]; exact (by repeat (first | exact Xt.Nw.refl _ | refine Xt.Nw.drew ?_ | refine Xt.Nw.drewN ?_ _ | refine Xt.Nw.alloc ?_ _ | refine Xt.Nw.joined ?_ | refine Xt.Nw.drewd ?_ | refine Xt.Nw.drewdN ?_ | refine Xt.Nw.ext ?_ | refine Xt.Nw.ext_some ?_ (by assumption) | refine Xt.Nw.setCell ?_ (by simp [go_sem] <;> omega) _))
  have v0 : W4.cell? ⟨W3.heap.size, 0, none⟩ = some (.int .i64 0) := by rw [hW4]; simp [go_sem]
  have v1 : W4.cell? ⟨W3.heap.size, 1, none⟩ = some (.bool false) := by rw [hW4]; simp [go_sem]
  have v2 : W4.cell? ⟨W3.heap.size, 2, none⟩ = some (.int .u64 0) := by rw [hW4]; simp [go_sem]
  have v3 : W4.cell? ⟨W3.heap.size, 3, none⟩ = some (.int .u64 0) := by rw [hW4]; simp [go_sem]
  have v4 : W4.cell? ⟨W3.heap.size, 4, none⟩ = some (.int .i64 0) := by rw [hW4]; simp [go_sem]
  have g1 := cell_nw m1 hn4
  have g2 := cell_nw q1 hn4
  have HB4 := Lib.hid (show W3.heap.size < W4.heap.size by rw [hW4]; simp [go_sem])
  have xz1 := Lib.hid (show W4.frozen? ⟨W3.heap.size, 1, none⟩ = false by rw [hW4]; simp [go_sem])
  have xz3 := Lib.hid (show W4.frozen? ⟨W3.heap.size, 3, none⟩ = false by rw [hW4]; simp [go_sem])
  have HW4 := Lib.hid hW4
  have HN4 := Lib.hid hn4
  clear hW4 hn4
  go_upto_region 17 with (fail)
  rw [← HW4.out]
  go_region_held3 (fun w' => w'.cell? ⟨gm, 16, none⟩ = some (.pointer (some ⟨gp, 0, none⟩)) ∧ w'.cell? ⟨w.heap.size, 1, none⟩ = some (.int .u64 a)) (first | exact ⟨g1, g2⟩ | exact ⟨cell_nw g1 (Nw.drew (Nw.refl _)), cell_nw g2 (Nw.drew (Nw.refl _))⟩ | exact ⟨cell_nw g1 hn6, cell_nw g2 hn6⟩ | exact ⟨cell_nw m1 (Xt.Nw.setCell (HN4.out.trans hn6) (Nat.le_refl _) _), cell_nw q1 (Xt.Nw.setCell (HN4.out.trans hn6) (Nat.le_refl _) _)⟩ | exact ⟨cell_nw m1 (Xt.Nw.setCell (Xt.Nw.setCell (HN4.out.trans hn6) (Nat.le_refl _) _) (Nat.le_refl _) _), cell_nw q1 (Xt.Nw.setCell (Xt.Nw.setCell (HN4.out.trans hn6) (Nat.le_refl _) _) (Nat.le_refl _) _)⟩)
    ((first | (go_at_call 22; refine (HG.out W4.drew (Nw.drew (HN3.out.trans HN4.out))).mono ?_; rintro e W5 ⟨rfl, hn5⟩; have hn6 : Nw W4 W5 := (Nw.drew (Nw.refl W4)).trans hn5; replace v0 := cell_nw v0 hn6; replace v1 := cell_nw v1 hn6; replace v2 := cell_nw v2 hn6; replace v3 := cell_nw v3 hn6; replace v4 := cell_nw v4 hn6; have x1 := ((Chg.of_nw hn6 : Chg [] W4 W5).frozen (i := 1) HB4.out (by simp)).trans xz1.out; have x3 := ((Chg.of_nw hn6 : Chg [] W4 W5).frozen (i := 3) HB4.out (by simp)).trans xz3.out; haveI : In W3.heap.size W5 := ⟨Nat.lt_of_lt_of_le HB4.out hn6.grown.size⟩)))
  obtain ⟨hs5, -, -, -, -, -, -, -, r0, r1, r2, r3, r4, z0, z1, z2, z3, z4⟩ := (HF3.out.nw HN4.out).nw hn6
  haveI : In (w.heap.size + 1) W5 := ⟨hs5⟩
  haveI : In gm W5 := ⟨Nat.lt_of_lt_of_le im3 (HN4.out.trans hn6).grown.size⟩
  have ne5 : w.heap.size + 1 ≠ W3.heap.size := by have := HS3.out; omega
  go_wp2
  have hu : RMUp W3 ⟨gm, gt, gp, v⟩ cf s ⟨gm, gt, gp, v⟩ _ := RMUp.same (w' := (W5.setCell ⟨W3.heap.size, 3, none⟩ (.int .u64 y)).setCell ⟨W3.heap.size, 1, none⟩ (.bool bb)) H3.out (Xt.Nw.setCell (Xt.Nw.setCell (HN4.out.trans hn6) (Nat.le_refl _) _) (Nat.le_refl _) _)
  refine bodyPost_ret (v := res5 0 bb 0 y 0) ?_ rfl ⟨rfl, _, RMUp.res HN3.out (Nat.le_succ _) HS3.out H.out hu ⟨0, bb, 0, y, 0⟩⟩
  simp [results, Tryz.results9, go_sem, r0, r1, r2, r3, r4]
end Go.Proofs.YtahagplegmcaaaaGreatDoor
