import Derived.Test.YtahagplegmcaaaaGreatDoorGVn
set_option linter.unusedVariables false
set_option linter.unusedSimpArgs false
set_option linter.unnecessarySimpa false
namespace Go.Proofs.YtahagplegmcaaaaGreatDoor
open Go.RowKit Go.Xt
/-! The reference's model: Do of the kinds 1, 7, 8, 9, 11. -/
set_option maxRecDepth 20000 in
set_option maxHeartbeats 8000000 in
theorem rdo_k1f (w : World) (p : Pl) (cf : Cf) (s : Md) (h : RAt w p cf s) (t : Nat) (x : Th) (ht : s.th[t]? = some x) (a b c d e f : Int) (hw : Ox.Wf ⟨1, a, b, c, d, e, f⟩) (hr : refM s t ⟨1, a, b, c, d, e, f⟩ = 0) (hb : s.th.length ≤ 1000) (hs : s.slots ≤ (cntS s.th : Nat)) :
    Calls Tryz.prog 9 #[.pointer (some ⟨p.gm, 0, none⟩), .int .i64 t, opV ⟨1, a, b, c, d, e, f⟩] w fun q w' => q = .returned (resV ⟨10, false, 0, 0, 0⟩) ∧ ∃ p', RMUp w p cf s p' w' := by
  have HR := Lib.hid (fun W (hn : Nw w W) => rrefusal_any W p cf s (h.nw hn) t ⟨1, a, b, c, d, e, f⟩ hw)
  have H := Lib.hid h
  have HT := Lib.hid ht
  obtain ⟨p0, _⟩ := List.getElem?_eq_some_iff.1 ht
  have im := h.im
  have it := h.it
  rw [hr] at HR
  have HG := Lib.hid (fun W (hn : Nw w W) => rsess_any W p cf s (h.nw hn) hb)
  have hsl : w.cell? ⟨p.gm, 1, none⟩ = some (.int .i64 s.slots) := h.sl ▸ h.cf 1 _ rfl
  have dd : decide (s.slots ≤ (cntS s.th : Int)) = true := by simpa using hs
  obtain ⟨y, hy⟩ : ∃ y, y = s.slots := ⟨_, rfl⟩
  obtain ⟨z, hz⟩ : ∃ z, z = cntS s.th := ⟨_, rfl⟩
  rw [← hy] at hsl dd
  rw [← hz] at HG dd
  clear hy hz hs hb
  obtain ⟨gm, gt, gp, v⟩ := p
  unfold opV at HR ⊢
  unfold resV
  simp only at HR HG im it hsl ⊢
  clear h hr hw ht
  obtain ⟨W2, hW2⟩ : ∃ W2, W2 = (w.alloc (.cells #[.int .u8 1, .int .u64 a, .int .u64 b, .int .u64 c, .int .u64 d, .int .u64 e, .int .u64 f] 45)).alloc (.cells #[.int .i64 0, .bool false, .int .u64 0, .int .u64 0, .int .i64 0] 42) := ⟨_, rfl⟩
  have hn2 : Nw w W2 := by rw [hW2]; exact (by repeat (first | exact Xt.Nw.refl _ | refine Xt.Nw.drew ?_ | refine Xt.Nw.drewN ?_ _ | refine Xt.Nw.alloc ?_ _ | refine Xt.Nw.joined ?_ | refine Xt.Nw.drewd ?_ | refine Xt.Nw.drewdN ?_ | refine Xt.Nw.ext ?_ | refine Xt.Nw.ext_some ?_ (by assumption) | refine Xt.Nw.setCell ?_ (by simp [go_sem] <;> omega) _))
  have hf2 : Fr w W2 ⟨1, a, b, c, d, e, f⟩ := by rw [hW2]; exact Fr.made w 1 a b c d e f
  have HF2 := Lib.hid hf2
  have HN2 := Lib.hid hn2
  have HW2 := Lib.hid hW2
  haveI : In gm w := ⟨im⟩
  clear hn2 hW2 hf2
  go_enter Tryz.func9, Tryz.ntmps9
  go_wp2_with fail
  rw [← HW2.out]
  refine (HR.out W2 HN2.out).mono ?_
  rintro r W3 ⟨rfl, hn3⟩
  have hn : Nw w W3 := HN2.out.trans hn3
  have h3 := H.out.nw hn
  obtain ⟨ct, m2⟩ := h3.m2
  have m1 : W3.cell? ⟨gm, 16, none⟩ = some (.pointer (some ⟨gp, 0, none⟩)) := h3.m1
  obtain ⟨c0, c1, c2, c3, c4⟩ := (h3.th : RThR W3 gt s.th).cells HT.out
  have y0 : W3.frozen? ⟨gt, t * 5, none⟩ = false := (h3.th : RThR W3 gt s.th).frozen _
  have y1 : W3.frozen? ⟨gt, t * 5 + 1, none⟩ = false := (h3.th : RThR W3 gt s.th).frozen _
  have y2 : W3.frozen? ⟨gt, t * 5 + 2, none⟩ = false := (h3.th : RThR W3 gt s.th).frozen _
  have y3 : W3.frozen? ⟨gt, t * 5 + 3, none⟩ = false := (h3.th : RThR W3 gt s.th).frozen _
  have y4 : W3.frozen? ⟨gt, t * 5 + 3 + 1, none⟩ = false := (h3.th : RThR W3 gt s.th).frozen _
  have HF3 := Lib.hid (HF2.out.nw hn3)
  obtain ⟨hs3, q0, q1, q2, q3, q4, q5, q6, r0, r1, r2, r3, r4, z0, z1, z2, z3, z4⟩ := HF2.out.nw hn3
  have im3 : gm < W3.heap.size := h3.im
  have it3 : gt < W3.heap.size := h3.it
  have HN3 := Lib.hid hn
  have HS3 := Lib.hid hs3
  have H3 := Lib.hid h3
  have ne1 : gt ≠ w.heap.size := Nat.ne_of_lt it
  have ne2 : gt ≠ w.heap.size + 1 := by omega
  haveI : In gm W3 := ⟨im3⟩
  haveI : In gt W3 := ⟨it3⟩
  haveI : In w.heap.size W3 := ⟨by omega⟩
  haveI : In (w.heap.size + 1) W3 := ⟨hs3⟩
  have t1 : (t : Int) < (s.th.length : Int) := by omega
  have t0 : (0 : Int) ≤ (t : Int) := by omega
  simp only at m2 q0 q1 q2 q3 q4 q5 q6
  clear hn h3 hn3 hs3 HR
  obtain ⟨W4, hW4⟩ : ∃ W4, W4 = (W3.alloc (.cells #[.int .i64 0, .bool false, .int .u64 0, .int .u64 0, .int .i64 0] 42)).alloc (.cells #[.int .u64 a, .int .u64 b] 71) := ⟨_, rfl⟩
  have hn4 : Nw W3 W4 := by rw [hW4]; exact (by repeat (first | exact Xt.Nw.refl _ | refine Xt.Nw.drew ?_ | refine Xt.Nw.drewN ?_ _ | refine Xt.Nw.alloc ?_ _ | refine Xt.Nw.joined ?_ | refine Xt.Nw.drewd ?_ | refine Xt.Nw.drewdN ?_ | refine Xt.Nw.ext ?_ | refine Xt.Nw.ext_some ?_ (by assumption) | refine Xt.Nw.setCell ?_ (by simp [go_sem] <;> omega) _))
  have v0 : W4.cell? ⟨W3.heap.size, 0, none⟩ = some (.int .i64 0) := by rw [hW4]; simp [go_sem]
  have v1 : W4.cell? ⟨W3.heap.size, 1, none⟩ = some (.bool false) := by rw [hW4]; simp [go_sem]
  have v2 : W4.cell? ⟨W3.heap.size, 2, none⟩ = some (.int .u64 0) := by rw [hW4]; simp [go_sem]
  have v3 : W4.cell? ⟨W3.heap.size, 3, none⟩ = some (.int .u64 0) := by rw [hW4]; simp [go_sem]
  have v4 : W4.cell? ⟨W3.heap.size, 4, none⟩ = some (.int .i64 0) := by rw [hW4]; simp [go_sem]
  have g1 := cell_nw m1 hn4
  have g2 := cell_nw q1 hn4
  have HB4 := Lib.hid (show W3.heap.size < W4.heap.size by rw [hW4]; simp [go_sem])
  have xz1 := Lib.hid (show W4.frozen? ⟨W3.heap.size, 1, none⟩ = false by rw [hW4]; simp [go_sem])
  have xz3 := Lib.hid (show W4.frozen? ⟨W3.heap.size, 3, none⟩ = false by rw [hW4]; simp [go_sem])
  have k0 : W4.cell? ⟨W3.heap.size + 1, 0, none⟩ = some (.int .u64 a) := by rw [hW4]; simp [go_sem]
  have k1 : W4.cell? ⟨W3.heap.size + 1, 1, none⟩ = some (.int .u64 b) := by rw [hW4]; simp [go_sem]
  have xz4 := Lib.hid (show W4.frozen? ⟨W3.heap.size, 4, none⟩ = false by rw [hW4]; simp [go_sem])
  have HK4 := Lib.hid (show W3.heap.size + 1 < W4.heap.size by rw [hW4]; simp [go_sem])
  have HW4 := Lib.hid hW4
  have HN4 := Lib.hid hn4
  clear hW4 hn4
  have g0 := cell_nw hsl (HN3.out.trans HN4.out)
  have ne3 : W3.heap.size ≠ gt := by omega
  have ne4 : gt ≠ W3.heap.size := by omega
  go_upto_region 11 with (fail)
  rw [← HW4.out]
  go_region_held3 (fun w' => w'.cell? ⟨gm, 1, none⟩ = some (.int .i64 y)) (first | exact g0 | exact cell_nw g0 (Nw.drew (Nw.refl _)) | exact cell_nw g0 hn6)
    ((first | (go_at_call 21; refine (HG.out W4.drew (Nw.drew (HN3.out.trans HN4.out))).mono ?_; rintro e W5 ⟨rfl, hn5⟩; have hn6 : Nw W4 W5 := (Nw.drew (Nw.refl W4)).trans hn5; replace v0 := cell_nw v0 hn6; replace v1 := cell_nw v1 hn6; replace v2 := cell_nw v2 hn6; replace v3 := cell_nw v3 hn6; replace v4 := cell_nw v4 hn6; haveI : In W3.heap.size W5 := ⟨Nat.lt_of_lt_of_le HB4.out hn6.grown.size⟩)))
  obtain ⟨hs5, -, -, -, -, -, -, -, r0, r1, r2, r3, r4, z0, z1, z2, z3, z4⟩ := (HF3.out.nw HN4.out).nw hn6
  haveI : In (w.heap.size + 1) W5 := ⟨hs5⟩
  haveI : In gm W5 := ⟨Nat.lt_of_lt_of_le im3 (HN4.out.trans hn6).grown.size⟩
  haveI : In gt W5 := ⟨Nat.lt_of_lt_of_le it3 (HN4.out.trans hn6).grown.size⟩
  have ne5 : w.heap.size + 1 ≠ W3.heap.size := by have := HS3.out; omega
  replace c0 := cell_nw c0 (HN4.out.trans hn6)
  replace y0 := ((Chg.of_nw (HN4.out.trans hn6) : Chg [] W3 W5).frozen (i := t * 5) it3 (by simp)).trans y0
  have H5 := Lib.hid (HN4.out.trans hn6)
  clear hn6 hn5
  go_wp2
  have hu : RMUp W3 ⟨gm, gt, gp, v⟩ cf s ⟨gm, gt, gp, v⟩ W5 := RMUp.same H3.out H5.out
  refine bodyPost_ret (v := res5 10 false 0 0 0) ?_ rfl ⟨rfl, _, RMUp.res HN3.out (Nat.le_succ _) HS3.out H.out hu ⟨10, false, 0, 0, 0⟩⟩
  simp [results, Tryz.results9, go_sem, r0, r1, r2, r3, r4]
set_option maxRecDepth 20000 in
set_option maxHeartbeats 8000000 in
theorem rdo_k1 (w : World) (p : Pl) (cf : Cf) (s : Md) (h : RAt w p cf s) (t : Nat) (x : Th) (ht : s.th[t]? = some x) (a b c d e f : Int) (hw : Ox.Wf ⟨1, a, b, c, d, e, f⟩) (hr : refM s t ⟨1, a, b, c, d, e, f⟩ = 0) (hb : s.th.length ≤ 1000) (hs : ¬ s.slots ≤ (cntS s.th : Nat)) :
    Calls Tryz.prog 9 #[.pointer (some ⟨p.gm, 0, none⟩), .int .i64 t, opV ⟨1, a, b, c, d, e, f⟩] w fun q w' => q = .returned (resV ⟨0, false, 0, 0, 0⟩) ∧ ∃ p', RMUp w p cf { s with th := s.th.set t { x with se := true } } p' w' := by
  have HR := Lib.hid (fun W (hn : Nw w W) => rrefusal_any W p cf s (h.nw hn) t ⟨1, a, b, c, d, e, f⟩ hw)
  have H := Lib.hid h
  have HT := Lib.hid ht
  obtain ⟨p0, _⟩ := List.getElem?_eq_some_iff.1 ht
  have im := h.im
  have it := h.it
  rw [hr] at HR
  have HG := Lib.hid (fun W (hn : Nw w W) => rsess_any W p cf s (h.nw hn) hb)
  have hsl : w.cell? ⟨p.gm, 1, none⟩ = some (.int .i64 s.slots) := h.sl ▸ h.cf 1 _ rfl
  have dd : decide (s.slots ≤ (cntS s.th : Int)) = false := by simpa using hs
  obtain ⟨y, hy⟩ : ∃ y, y = s.slots := ⟨_, rfl⟩
  obtain ⟨z, hz⟩ : ∃ z, z = cntS s.th := ⟨_, rfl⟩
  rw [← hy] at hsl dd
  rw [← hz] at HG dd
  clear hy hz hs hb
  obtain ⟨gm, gt, gp, v⟩ := p
  unfold opV at HR ⊢
  unfold resV
  simp only at HR HG im it hsl ⊢
  clear h hr hw ht
  obtain ⟨W2, hW2⟩ : ∃ W2, W2 = (w.alloc (.cells #[.int .u8 1, .int .u64 a, .int .u64 b, .int .u64 c, .int .u64 d, .int .u64 e, .int .u64 f] 45)).alloc (.cells #[.int .i64 0, .bool false, .int .u64 0, .int .u64 0, .int .i64 0] 42) := ⟨_, rfl⟩
  have hn2 : Nw w W2 := by rw [hW2]; exact (by repeat (first | exact Xt.Nw.refl _ | refine Xt.Nw.drew ?_ | refine Xt.Nw.drewN ?_ _ | refine Xt.Nw.alloc ?_ _ | refine Xt.Nw.joined ?_ | refine Xt.Nw.drewd ?_ | refine Xt.Nw.drewdN ?_ | refine Xt.Nw.ext ?_ | refine Xt.Nw.ext_some ?_ (by assumption) | refine Xt.Nw.setCell ?_ (by simp [go_sem] <;> omega) _))
  have hf2 : Fr w W2 ⟨1, a, b, c, d, e, f⟩ := by rw [hW2]; exact Fr.made w 1 a b c d e f
  have HF2 := Lib.hid hf2
  have HN2 := Lib.hid hn2
  have HW2 := Lib.hid hW2
  haveI : In gm w := ⟨im⟩
  clear hn2 hW2 hf2
  go_enter Tryz.func9, Tryz.ntmps9
  go_wp2_with fail
  rw [← HW2.out]
  refine (HR.out W2 HN2.out).mono ?_
  rintro r W3 ⟨rfl, hn3⟩
  have hn : Nw w W3 := HN2.out.trans hn3
  have h3 := H.out.nw hn
  obtain ⟨ct, m2⟩ := h3.m2
  have m1 : W3.cell? ⟨gm, 16, none⟩ = some (.pointer (some ⟨gp, 0, none⟩)) := h3.m1
  obtain ⟨c0, c1, c2, c3, c4⟩ := (h3.th : RThR W3 gt s.th).cells HT.out
  have y0 : W3.frozen? ⟨gt, t * 5, none⟩ = false := (h3.th : RThR W3 gt s.th).frozen _
  have y1 : W3.frozen? ⟨gt, t * 5 + 1, none⟩ = false := (h3.th : RThR W3 gt s.th).frozen _
  have y2 : W3.frozen? ⟨gt, t * 5 + 2, none⟩ = false := (h3.th : RThR W3 gt s.th).frozen _
  have y3 : W3.frozen? ⟨gt, t * 5 + 3, none⟩ = false := (h3.th : RThR W3 gt s.th).frozen _
  have y4 : W3.frozen? ⟨gt, t * 5 + 3 + 1, none⟩ = false := (h3.th : RThR W3 gt s.th).frozen _
  have HF3 := Lib.hid (HF2.out.nw hn3)
  obtain ⟨hs3, q0, q1, q2, q3, q4, q5, q6, r0, r1, r2, r3, r4, z0, z1, z2, z3, z4⟩ := HF2.out.nw hn3
  have im3 : gm < W3.heap.size := h3.im
  have it3 : gt < W3.heap.size := h3.it
  have HN3 := Lib.hid hn
  have HS3 := Lib.hid hs3
  have H3 := Lib.hid h3
  have ne1 : gt ≠ w.heap.size := Nat.ne_of_lt it
  have ne2 : gt ≠ w.heap.size + 1 := by omega
  haveI : In gm W3 := ⟨im3⟩
  haveI : In gt W3 := ⟨it3⟩
  haveI : In w.heap.size W3 := ⟨by omega⟩
  haveI : In (w.heap.size + 1) W3 := ⟨hs3⟩
  have t1 : (t : Int) < (s.th.length : Int) := by omega
  have t0 : (0 : Int) ≤ (t : Int) := by omega
  simp only at m2 q0 q1 q2 q3 q4 q5 q6
  clear hn h3 hn3 hs3 HR
  obtain ⟨W4, hW4⟩ : ∃ W4, W4 = (W3.alloc (.cells #[.int .i64 0, .bool false, .int .u64 0, .int .u64 0, .int .i64 0] 42)).alloc (.cells #[.int .u64 a, .int .u64 b] 71) := ⟨_, rfl⟩
  have hn4 : Nw W3 W4 := by rw [hW4]; exact (by repeat (first | exact Xt.Nw.refl _ | refine Xt.Nw.drew ?_ | refine Xt.Nw.drewN ?_ _ | refine Xt.Nw.alloc ?_ _ | refine Xt.Nw.joined ?_ | refine Xt.Nw.drewd ?_ | refine Xt.Nw.drewdN ?_ | refine Xt.Nw.ext ?_ | refine Xt.Nw.ext_some ?_ (by assumption) | refine Xt.Nw.setCell ?_ (by simp [go_sem] <;> omega) _))
  have v0 : W4.cell? ⟨W3.heap.size, 0, none⟩ = some (.int .i64 0) := by rw [hW4]; simp [go_sem]
  have v1 : W4.cell? ⟨W3.heap.size, 1, none⟩ = some (.bool false) := by rw [hW4]; simp [go_sem]
  have v2 : W4.cell? ⟨W3.heap.size, 2, none⟩ = some (.int .u64 0) := by rw [hW4]; simp [go_sem]
  have v3 : W4.cell? ⟨W3.heap.size, 3, none⟩ = some (.int .u64 0) := by rw [hW4]; simp [go_sem]
  have v4 : W4.cell? ⟨W3.heap.size, 4, none⟩ = some (.int .i64 0) := by rw [hW4]; simp [go_sem]
  have g1 := cell_nw m1 hn4
  have g2 := cell_nw q1 hn4
  have HB4 := Lib.hid (show W3.heap.size < W4.heap.size by rw [hW4]; simp [go_sem])
  have xz1 := Lib.hid (show W4.frozen? ⟨W3.heap.size, 1, none⟩ = false by rw [hW4]; simp [go_sem])
  have xz3 := Lib.hid (show W4.frozen? ⟨W3.heap.size, 3, none⟩ = false by rw [hW4]; simp [go_sem])
  have k0 : W4.cell? ⟨W3.heap.size + 1, 0, none⟩ = some (.int .u64 a) := by rw [hW4]; simp [go_sem]
  have k1 : W4.cell? ⟨W3.heap.size + 1, 1, none⟩ = some (.int .u64 b) := by rw [hW4]; simp [go_sem]
  have xz4 := Lib.hid (show W4.frozen? ⟨W3.heap.size, 4, none⟩ = false by rw [hW4]; simp [go_sem])
  have HK4 := Lib.hid (show W3.heap.size + 1 < W4.heap.size by rw [hW4]; simp [go_sem])
  have HW4 := Lib.hid hW4
  have HN4 := Lib.hid hn4
  clear hW4 hn4
  have g0 := cell_nw hsl (HN3.out.trans HN4.out)
  have ne3 : W3.heap.size ≠ gt := by omega
  have ne4 : gt ≠ W3.heap.size := by omega
  go_upto_region 11 with (fail)
  rw [← HW4.out]
  go_region_held3 (fun w' => w'.cell? ⟨gm, 1, none⟩ = some (.int .i64 y)) (first | exact g0 | exact cell_nw g0 (Nw.drew (Nw.refl _)) | exact cell_nw g0 hn6)
    ((first | (go_at_call 21; refine (HG.out W4.drew (Nw.drew (HN3.out.trans HN4.out))).mono ?_; rintro e W5 ⟨rfl, hn5⟩; have hn6 : Nw W4 W5 := (Nw.drew (Nw.refl W4)).trans hn5; replace v0 := cell_nw v0 hn6; replace v1 := cell_nw v1 hn6; replace v2 := cell_nw v2 hn6; replace v3 := cell_nw v3 hn6; replace v4 := cell_nw v4 hn6; haveI : In W3.heap.size W5 := ⟨Nat.lt_of_lt_of_le HB4.out hn6.grown.size⟩)))
  obtain ⟨hs5, -, -, -, -, -, -, -, r0, r1, r2, r3, r4, z0, z1, z2, z3, z4⟩ := (HF3.out.nw HN4.out).nw hn6
  haveI : In (w.heap.size + 1) W5 := ⟨hs5⟩
  haveI : In gm W5 := ⟨Nat.lt_of_lt_of_le im3 (HN4.out.trans hn6).grown.size⟩
  haveI : In gt W5 := ⟨Nat.lt_of_lt_of_le it3 (HN4.out.trans hn6).grown.size⟩
  have ne5 : w.heap.size + 1 ≠ W3.heap.size := by have := HS3.out; omega
  replace c0 := cell_nw c0 (HN4.out.trans hn6)
  replace y0 := ((Chg.of_nw (HN4.out.trans hn6) : Chg [] W3 W5).frozen (i := t * 5) it3 (by simp)).trans y0
  have H5 := Lib.hid (HN4.out.trans hn6)
  clear hn6 hn5
  go_wp2
  have hu : RMUp W3 ⟨gm, gt, gp, v⟩ cf { s with th := s.th.set t { x with se := true } } ⟨gm, gt, gp, v⟩ _ := RMUp.after H5.out (RMUp.ths (H3.out.nw H5.out) (by simp) (RThR.se (H3.out.nw H5.out).th HT.out true) (Chg.set1 W5 gt _ _))
  refine bodyPost_ret (v := res5 0 false 0 0 0) ?_ rfl ⟨rfl, _, RMUp.res HN3.out (Nat.le_succ _) HS3.out H.out hu ⟨0, false, 0, 0, 0⟩⟩
  simp [results, Tryz.results9, go_sem, r0, r1, r2, r3, r4]
set_option maxRecDepth 20000 in
set_option maxHeartbeats 8000000 in
theorem rdo_k8 (w : World) (p : Pl) (cf : Cf) (s : Md) (h : RAt w p cf s) (t : Nat) (x : Th) (ht : s.th[t]? = some x) (a b c d e f : Int) (hw : Ox.Wf ⟨8, a, b, c, d, e, f⟩) (hr : refM s t ⟨8, a, b, c, d, e, f⟩ = 0) (hl : s.l.length ≤ 400000) (hab : a ≤ b) (ha : 0 ≤ a) (he : 0 < e) (hbe : e + b ≤ 18446744073709551615) :
    Calls Tryz.prog 9 #[.pointer (some ⟨p.gm, 0, none⟩), .int .i64 t, opV ⟨8, a, b, c, d, e, f⟩] w fun q w' => q = .returned (resV ⟨0, false, 0, 0, (inR a b s.l).length⟩) ∧ ∃ p', RMUp w p cf { s with l := moveL a b e s.l } p' w' := by
  have HR := Lib.hid (fun W (hn : Nw w W) => rrefusal_any W p cf s (h.nw hn) t ⟨8, a, b, c, d, e, f⟩ hw)
  have H := Lib.hid h
  have HT := Lib.hid ht
  obtain ⟨p0, _⟩ := List.getElem?_eq_some_iff.1 ht
  have im := h.im
  have it := h.it
  rw [hr] at HR
  have HG := Lib.hid (fun W (hn : Nw w W) => rmove_om (h.nw hn).om (by omega) a b e hab ha he hbe)
  obtain ⟨L, hL⟩ : ∃ y, y = moveL a b e s.l := ⟨_, rfl⟩
  obtain ⟨n, hn⟩ : ∃ y, y = (inR a b s.l).length := ⟨_, rfl⟩
  rw [← hL, ← hn] at HG
  rw [← hL, ← hn]
  clear hL hn
  obtain ⟨gm, gt, gp, v⟩ := p
  unfold opV at HR ⊢
  unfold resV
  simp only at HR HG im it ⊢
  clear h hr hw ht
  obtain ⟨W2, hW2⟩ : ∃ W2, W2 = (w.alloc (.cells #[.int .u8 8, .int .u64 a, .int .u64 b, .int .u64 c, .int .u64 d, .int .u64 e, .int .u64 f] 45)).alloc (.cells #[.int .i64 0, .bool false, .int .u64 0, .int .u64 0, .int .i64 0] 42) := ⟨_, rfl⟩
  have hn2 : Nw w W2 := by rw [hW2]; exact (by repeat (first | exact Xt.Nw.refl _ | refine Xt.Nw.drew ?_ | refine Xt.Nw.drewN ?_ _ | refine Xt.Nw.alloc ?_ _ | refine Xt.Nw.joined ?_ | refine Xt.Nw.drewd ?_ | refine Xt.Nw.drewdN ?_ | refine Xt.Nw.ext ?_ | refine Xt.Nw.ext_some ?_ (by assumption) | refine Xt.Nw.setCell ?_ (by simp [go_sem] <;> omega) _))
  have hf2 : Fr w W2 ⟨8, a, b, c, d, e, f⟩ := by rw [hW2]; exact Fr.made w 8 a b c d e f
  have HF2 := Lib.hid hf2
  have HN2 := Lib.hid hn2
  have HW2 := Lib.hid hW2
  haveI : In gm w := ⟨im⟩
  clear hn2 hW2 hf2
  go_enter Tryz.func9, Tryz.ntmps9
  go_wp2_with fail
  rw [← HW2.out]
  refine (HR.out W2 HN2.out).mono ?_
  rintro r W3 ⟨rfl, hn3⟩
  have hn : Nw w W3 := HN2.out.trans hn3
  have h3 := H.out.nw hn
  obtain ⟨ct, m2⟩ := h3.m2
  have m1 : W3.cell? ⟨gm, 16, none⟩ = some (.pointer (some ⟨gp, 0, none⟩)) := h3.m1
  obtain ⟨c0, c1, c2, c3, c4⟩ := (h3.th : RThR W3 gt s.th).cells HT.out
  have y0 : W3.frozen? ⟨gt, t * 5, none⟩ = false := (h3.th : RThR W3 gt s.th).frozen _
  have y1 : W3.frozen? ⟨gt, t * 5 + 1, none⟩ = false := (h3.th : RThR W3 gt s.th).frozen _
  have y2 : W3.frozen? ⟨gt, t * 5 + 2, none⟩ = false := (h3.th : RThR W3 gt s.th).frozen _
  have y3 : W3.frozen? ⟨gt, t * 5 + 3, none⟩ = false := (h3.th : RThR W3 gt s.th).frozen _
  have y4 : W3.frozen? ⟨gt, t * 5 + 3 + 1, none⟩ = false := (h3.th : RThR W3 gt s.th).frozen _
  have HF3 := Lib.hid (HF2.out.nw hn3)
  obtain ⟨hs3, q0, q1, q2, q3, q4, q5, q6, r0, r1, r2, r3, r4, z0, z1, z2, z3, z4⟩ := HF2.out.nw hn3
  have im3 : gm < W3.heap.size := h3.im
  have it3 : gt < W3.heap.size := h3.it
  have HN3 := Lib.hid hn
  have HS3 := Lib.hid hs3
  have H3 := Lib.hid h3
  have ne1 : gt ≠ w.heap.size := Nat.ne_of_lt it
  have ne2 : gt ≠ w.heap.size + 1 := by omega
  haveI : In gm W3 := ⟨im3⟩
  haveI : In gt W3 := ⟨it3⟩
  haveI : In w.heap.size W3 := ⟨by omega⟩
  haveI : In (w.heap.size + 1) W3 := ⟨hs3⟩
  have t1 : (t : Int) < (s.th.length : Int) := by omega
  have t0 : (0 : Int) ≤ (t : Int) := by omega
  simp only at m2 q0 q1 q2 q3 q4 q5 q6
  clear hn h3 hn3 hs3 HR
  obtain ⟨W4, hW4⟩ : ∃ W4, W4 = (W3.alloc (.cells #[.int .i64 0, .bool false, .int .u64 0, .int .u64 0, .int .i64 0] 42)).alloc (.cells #[.int .u64 a, .int .u64 b] 71) := ⟨_, rfl⟩
  have hn4 : Nw W3 W4 := by rw [hW4]; exact (by repeat (first | exact Xt.Nw.refl _ | refine Xt.Nw.drew ?_ | refine Xt.Nw.drewN ?_ _ | refine Xt.Nw.alloc ?_ _ | refine Xt.Nw.joined ?_ | refine Xt.Nw.drewd ?_ | refine Xt.Nw.drewdN ?_ | refine Xt.Nw.ext ?_ | refine Xt.Nw.ext_some ?_ (by assumption) | refine Xt.Nw.setCell ?_ (by simp [go_sem] <;> omega) _))
  have v0 : W4.cell? ⟨W3.heap.size, 0, none⟩ = some (.int .i64 0) := by rw [hW4]; simp [go_sem]
  have v1 : W4.cell? ⟨W3.heap.size, 1, none⟩ = some (.bool false) := by rw [hW4]; simp [go_sem]
  have v2 : W4.cell? ⟨W3.heap.size, 2, none⟩ = some (.int .u64 0) := by rw [hW4]; simp [go_sem]
  have v3 : W4.cell? ⟨W3.heap.size, 3, none⟩ = some (.int .u64 0) := by rw [hW4]; simp [go_sem]
  have v4 : W4.cell? ⟨W3.heap.size, 4, none⟩ = some (.int .i64 0) := by rw [hW4]; simp [go_sem]
  have g1 := cell_nw m1 hn4
  have g2 := cell_nw q1 hn4
  have HB4 := Lib.hid (show W3.heap.size < W4.heap.size by rw [hW4]; simp [go_sem])
  have xz1 := Lib.hid (show W4.frozen? ⟨W3.heap.size, 1, none⟩ = false by rw [hW4]; simp [go_sem])
  have xz3 := Lib.hid (show W4.frozen? ⟨W3.heap.size, 3, none⟩ = false by rw [hW4]; simp [go_sem])
  have k0 : W4.cell? ⟨W3.heap.size + 1, 0, none⟩ = some (.int .u64 a) := by rw [hW4]; simp [go_sem]
  have k1 : W4.cell? ⟨W3.heap.size + 1, 1, none⟩ = some (.int .u64 b) := by rw [hW4]; simp [go_sem]
  have xz4 := Lib.hid (show W4.frozen? ⟨W3.heap.size, 4, none⟩ = false by rw [hW4]; simp [go_sem])
  have HK4 := Lib.hid (show W3.heap.size + 1 < W4.heap.size by rw [hW4]; simp [go_sem])
  have HW4 := Lib.hid hW4
  have HN4 := Lib.hid hn4
  clear hW4 hn4
  have ggk0 := k0
  have ggk1 := k1
  have gge := cell_nw q5 HN4.out
  have hmf : gm ∉ foot gp v := fun e => by
    rcases mem_foot.1 e with e | e
    · exact H3.out.nmp e
    · exact H3.out.nmv e
  have hff : ∀ g, g ∈ foot gp v → g < w.heap.size := fun g hg => H.out.lt (by simp [Pl.foot, hg])
  have hwf : w.heap.size ∉ foot gp v := fun e => Nat.lt_irrefl _ (hff _ e)
  have hwf1 : w.heap.size + 1 ∉ foot gp v := fun e => by have := hff _ e; omega
  have h3f : W3.heap.size ∉ foot gp v := fun e => by have := hff _ e; have := HS3.out; omega
  have h3g : W3.heap.size + 1 ∉ foot gp v := fun e => by have := hff _ e; have := HS3.out; omega
  have nb0 : gm ∉ [W3.heap.size] := by simp; omega
  have nb1 : w.heap.size ∉ [W3.heap.size] := by have := HS3.out; simp; omega
  have nb2 : W3.heap.size + 1 ∉ [W3.heap.size] := by simp
  clear hff
  go_upto_region 30 with (fail)
  rw [← HW4.out]
  go_region_held3 (fun w' => w'.cell? ⟨gm, 16, none⟩ = some (.pointer (some ⟨gp, 0, none⟩)) ∧ w'.cell? ⟨W3.heap.size + 1, 0, none⟩ = some (.int .u64 a) ∧ w'.cell? ⟨W3.heap.size + 1, 1, none⟩ = some (.int .u64 b) ∧ w'.cell? ⟨w.heap.size, 5, none⟩ = some (.int .u64 e)) (first | exact ⟨g1, ggk0, ggk1, gge⟩ | exact ⟨cell_nw g1 (Nw.drew (Nw.refl _)), cell_nw ggk0 (Nw.drew (Nw.refl _)), cell_nw ggk1 (Nw.drew (Nw.refl _)), cell_nw gge (Nw.drew (Nw.refl _))⟩ | exact ⟨hchu.cell g1 hmf, hchu.cell ggk0 h3g, hchu.cell ggk1 h3g, hchu.cell gge hwf⟩ | exact ⟨(Chg.set1 W5 W3.heap.size 4 _).cell (hchu.cell g1 hmf) nb0, (Chg.set1 W5 W3.heap.size 4 _).cell (hchu.cell ggk0 h3g) nb2, (Chg.set1 W5 W3.heap.size 4 _).cell (hchu.cell ggk1 h3g) nb2, (Chg.set1 W5 W3.heap.size 4 _).cell (hchu.cell gge hwf) nb1⟩)
    ((first | (go_at_call 27; refine (HG.out W4.drew (Nw.drew (HN3.out.trans HN4.out))).mono ?_; rintro e W5 ⟨rfl, v', hu⟩; have hchu : Chg (foot gp v) W4 W5 := ((Chg.of_nw (Nw.drew (Nw.refl W4)) : Chg [] W4 W4.drew).wide (by simp)).trans hu.chg; replace v0 := hchu.cell v0 h3f; replace v1 := hchu.cell v1 h3f; replace v2 := hchu.cell v2 h3f; replace v3 := hchu.cell v3 h3f; replace v4 := hchu.cell v4 h3f; have x1 := (hchu.frozen (i := 1) HB4.out h3f).trans xz1.out; have x3 := (hchu.frozen (i := 3) HB4.out h3f).trans xz3.out; have x4 := (hchu.frozen (i := 4) HB4.out h3f).trans xz4.out; haveI : In W3.heap.size W5 := ⟨Nat.lt_of_lt_of_le HB4.out hchu.size⟩; have HU := Lib.hid hu; clear hu)))
  obtain ⟨hs5, -, -, -, -, -, -, -, r0, r1, r2, r3, r4, z0, z1, z2, z3, z4⟩ := (HF3.out.nw HN4.out).chg hchu hwf hwf1
  haveI : In (w.heap.size + 1) W5 := ⟨hs5⟩
  haveI : In gm W5 := ⟨Nat.lt_of_lt_of_le im3 (Nat.le_trans HN4.out.grown.size hchu.size)⟩
  have ne5 : w.heap.size + 1 ≠ W3.heap.size := by have := HS3.out; omega
  have hmu := RMUp.after (HN4.out.trans (Nw.drew (Nw.refl W4))) (RMUp.map (H3.out.nw (HN4.out.trans (Nw.drew (Nw.refl W4)))) HU.out)
  have hmv : ∀ g ∈ (⟨gm, gt, gp, v'⟩ : Pl).foot, g ∉ [W3.heap.size] := fun g hg hx => by
    simp at hx; subst hx
    rcases (RMUp.map (H3.out.nw (HN4.out.trans (Nw.drew (Nw.refl W4)))) HU.out).mv _ hg with h1 | h1
    · have := H3.out.lt h1; omega
    · have : W4.heap.size ≤ W3.heap.size := h1
      have := HB4.out; omega
  have hu2 := hmu.new (Chg.set1 W5 W3.heap.size 4 (.int .i64 n)) (fun g hg => by simp at hg; omega) hmv
  have HU2 := Lib.hid hu2
  clear hmu hmv hu2 hchu
  go_wp2
  refine bodyPost_ret (v := res5 0 false 0 0 n) ?_ rfl ⟨rfl, _, RMUp.res HN3.out (Nat.le_succ _) HS3.out H.out HU2.out ⟨0, false, 0, 0, n⟩⟩
  simp [results, Tryz.results9, go_sem, r0, r1, r2, r3, r4]
set_option maxRecDepth 20000 in
set_option maxHeartbeats 8000000 in
theorem rdo_k9 (w : World) (p : Pl) (cf : Cf) (s : Md) (h : RAt w p cf s) (t : Nat) (x : Th) (ht : s.th[t]? = some x) (a b c d e f : Int) (hw : Ox.Wf ⟨9, a, b, c, d, e, f⟩) (hr : refM s t ⟨9, a, b, c, d, e, f⟩ = 0) (hl : s.l.length ≤ 400000) (hab : a ≤ b) :
    Calls Tryz.prog 9 #[.pointer (some ⟨p.gm, 0, none⟩), .int .i64 t, opV ⟨9, a, b, c, d, e, f⟩] w fun q w' => q = .returned (resV ⟨0, false, 0, 0, (inR a b s.l).length⟩) ∧ ∃ p', RMUp w p cf { s with l := outR a b s.l } p' w' := by
  have HR := Lib.hid (fun W (hn : Nw w W) => rrefusal_any W p cf s (h.nw hn) t ⟨9, a, b, c, d, e, f⟩ hw)
  have H := Lib.hid h
  have HT := Lib.hid ht
  obtain ⟨p0, _⟩ := List.getElem?_eq_some_iff.1 ht
  have im := h.im
  have it := h.it
  rw [hr] at HR
  have HG := Lib.hid (fun W (hn : Nw w W) => rdelr_om (h.nw hn).om (by omega) a b hab)
  obtain ⟨L, hL⟩ : ∃ y, y = outR a b s.l := ⟨_, rfl⟩
  obtain ⟨n, hn⟩ : ∃ y, y = (inR a b s.l).length := ⟨_, rfl⟩
  rw [← hL, ← hn] at HG
  rw [← hL, ← hn]
  clear hL hn
  obtain ⟨gm, gt, gp, v⟩ := p
  unfold opV at HR ⊢
  unfold resV
  simp only at HR HG im it ⊢
  clear h hr hw ht
  obtain ⟨W2, hW2⟩ : ∃ W2, W2 = (w.alloc (.cells #[.int .u8 9, .int .u64 a, .int .u64 b, .int .u64 c, .int .u64 d, .int .u64 e, .int .u64 f] 45)).alloc (.cells #[.int .i64 0, .bool false, .int .u64 0, .int .u64 0, .int .i64 0] 42) := ⟨_, rfl⟩
  have hn2 : Nw w W2 := by rw [hW2]; exact (by repeat (first | exact Xt.Nw.refl _ | refine Xt.Nw.drew ?_ | refine Xt.Nw.drewN ?_ _ | refine Xt.Nw.alloc ?_ _ | refine Xt.Nw.joined ?_ | refine Xt.Nw.drewd ?_ | refine Xt.Nw.drewdN ?_ | refine Xt.Nw.ext ?_ | refine Xt.Nw.ext_some ?_ (by assumption) | refine Xt.Nw.setCell ?_ (by simp [go_sem] <;> omega) _))
  have hf2 : Fr w W2 ⟨9, a, b, c, d, e, f⟩ := by rw [hW2]; exact Fr.made w 9 a b c d e f
  have HF2 := Lib.hid hf2
  have HN2 := Lib.hid hn2
  have HW2 := Lib.hid hW2
  haveI : In gm w := ⟨im⟩
  clear hn2 hW2 hf2
  go_enter Tryz.func9, Tryz.ntmps9
  go_wp2_with fail
  rw [← HW2.out]
  refine (HR.out W2 HN2.out).mono ?_
  rintro r W3 ⟨rfl, hn3⟩
  have hn : Nw w W3 := HN2.out.trans hn3
  have h3 := H.out.nw hn
  obtain ⟨ct, m2⟩ := h3.m2
  have m1 : W3.cell? ⟨gm, 16, none⟩ = some (.pointer (some ⟨gp, 0, none⟩)) := h3.m1
  obtain ⟨c0, c1, c2, c3, c4⟩ := (h3.th : RThR W3 gt s.th).cells HT.out
  have y0 : W3.frozen? ⟨gt, t * 5, none⟩ = false := (h3.th : RThR W3 gt s.th).frozen _
  have y1 : W3.frozen? ⟨gt, t * 5 + 1, none⟩ = false := (h3.th : RThR W3 gt s.th).frozen _
  have y2 : W3.frozen? ⟨gt, t * 5 + 2, none⟩ = false := (h3.th : RThR W3 gt s.th).frozen _
  have y3 : W3.frozen? ⟨gt, t * 5 + 3, none⟩ = false := (h3.th : RThR W3 gt s.th).frozen _
  have y4 : W3.frozen? ⟨gt, t * 5 + 3 + 1, none⟩ = false := (h3.th : RThR W3 gt s.th).frozen _
  have HF3 := Lib.hid (HF2.out.nw hn3)
  obtain ⟨hs3, q0, q1, q2, q3, q4, q5, q6, r0, r1, r2, r3, r4, z0, z1, z2, z3, z4⟩ := HF2.out.nw hn3
  have im3 : gm < W3.heap.size := h3.im
  have it3 : gt < W3.heap.size := h3.it
  have HN3 := Lib.hid hn
  have HS3 := Lib.hid hs3
  have H3 := Lib.hid h3
  have ne1 : gt ≠ w.heap.size := Nat.ne_of_lt it
  have ne2 : gt ≠ w.heap.size + 1 := by omega
  haveI : In gm W3 := ⟨im3⟩
  haveI : In gt W3 := ⟨it3⟩
  haveI : In w.heap.size W3 := ⟨by omega⟩
  haveI : In (w.heap.size + 1) W3 := ⟨hs3⟩
  have t1 : (t : Int) < (s.th.length : Int) := by omega
  have t0 : (0 : Int) ≤ (t : Int) := by omega
  simp only at m2 q0 q1 q2 q3 q4 q5 q6
  clear hn h3 hn3 hs3 HR
  obtain ⟨W4, hW4⟩ : ∃ W4, W4 = (W3.alloc (.cells #[.int .i64 0, .bool false, .int .u64 0, .int .u64 0, .int .i64 0] 42)).alloc (.cells #[.int .u64 a, .int .u64 b] 71) := ⟨_, rfl⟩
  have hn4 : Nw W3 W4 := by rw [hW4]; exact (by repeat (first | exact Xt.Nw.refl _ | refine Xt.Nw.drew ?_ | refine Xt.Nw.drewN ?_ _ | refine Xt.Nw.alloc ?_ _ | refine Xt.Nw.joined ?_ | refine Xt.Nw.drewd ?_ | refine Xt.Nw.drewdN ?_ | refine Xt.Nw.ext ?_ | refine Xt.Nw.ext_some ?_ (by assumption) | refine Xt.Nw.setCell ?_ (by simp [go_sem] <;> omega) _))
  have v0 : W4.cell? ⟨W3.heap.size, 0, none⟩ = some (.int .i64 0) := by rw [hW4]; simp [go_sem]
  have v1 : W4.cell? ⟨W3.heap.size, 1, none⟩ = some (.bool false) := by rw [hW4]; simp [go_sem]
  have v2 : W4.cell? ⟨W3.heap.size, 2, none⟩ = some (.int .u64 0) := by rw [hW4]; simp [go_sem]
  have v3 : W4.cell? ⟨W3.heap.size, 3, none⟩ = some (.int .u64 0) := by rw [hW4]; simp [go_sem]
  have v4 : W4.cell? ⟨W3.heap.size, 4, none⟩ = some (.int .i64 0) := by rw [hW4]; simp [go_sem]
  have g1 := cell_nw m1 hn4
  have g2 := cell_nw q1 hn4
  have HB4 := Lib.hid (show W3.heap.size < W4.heap.size by rw [hW4]; simp [go_sem])
  have xz1 := Lib.hid (show W4.frozen? ⟨W3.heap.size, 1, none⟩ = false by rw [hW4]; simp [go_sem])
  have xz3 := Lib.hid (show W4.frozen? ⟨W3.heap.size, 3, none⟩ = false by rw [hW4]; simp [go_sem])
  have k0 : W4.cell? ⟨W3.heap.size + 1, 0, none⟩ = some (.int .u64 a) := by rw [hW4]; simp [go_sem]
  have k1 : W4.cell? ⟨W3.heap.size + 1, 1, none⟩ = some (.int .u64 b) := by rw [hW4]; simp [go_sem]
  have xz4 := Lib.hid (show W4.frozen? ⟨W3.heap.size, 4, none⟩ = false by rw [hW4]; simp [go_sem])
  have HK4 := Lib.hid (show W3.heap.size + 1 < W4.heap.size by rw [hW4]; simp [go_sem])
  have HW4 := Lib.hid hW4
  have HN4 := Lib.hid hn4
  clear hW4 hn4
  have ggk0 := k0
  have ggk1 := k1
  have hmf : gm ∉ foot gp v := fun e => by
    rcases mem_foot.1 e with e | e
    · exact H3.out.nmp e
    · exact H3.out.nmv e
  have hff : ∀ g, g ∈ foot gp v → g < w.heap.size := fun g hg => H.out.lt (by simp [Pl.foot, hg])
  have hwf : w.heap.size ∉ foot gp v := fun e => Nat.lt_irrefl _ (hff _ e)
  have hwf1 : w.heap.size + 1 ∉ foot gp v := fun e => by have := hff _ e; omega
  have h3f : W3.heap.size ∉ foot gp v := fun e => by have := hff _ e; have := HS3.out; omega
  have h3g : W3.heap.size + 1 ∉ foot gp v := fun e => by have := hff _ e; have := HS3.out; omega
  have nb0 : gm ∉ [W3.heap.size] := by simp; omega
  have nb1 : w.heap.size ∉ [W3.heap.size] := by have := HS3.out; simp; omega
  have nb2 : W3.heap.size + 1 ∉ [W3.heap.size] := by simp
  clear hff
  go_upto_region 32 with (fail)
  rw [← HW4.out]
  go_region_held3 (fun w' => w'.cell? ⟨gm, 16, none⟩ = some (.pointer (some ⟨gp, 0, none⟩)) ∧ w'.cell? ⟨W3.heap.size + 1, 0, none⟩ = some (.int .u64 a) ∧ w'.cell? ⟨W3.heap.size + 1, 1, none⟩ = some (.int .u64 b)) (first | exact ⟨g1, ggk0, ggk1⟩ | exact ⟨cell_nw g1 (Nw.drew (Nw.refl _)), cell_nw ggk0 (Nw.drew (Nw.refl _)), cell_nw ggk1 (Nw.drew (Nw.refl _))⟩ | exact ⟨hchu.cell g1 hmf, hchu.cell ggk0 h3g, hchu.cell ggk1 h3g⟩ | exact ⟨(Chg.set1 W5 W3.heap.size 4 _).cell (hchu.cell g1 hmf) nb0, (Chg.set1 W5 W3.heap.size 4 _).cell (hchu.cell ggk0 h3g) nb2, (Chg.set1 W5 W3.heap.size 4 _).cell (hchu.cell ggk1 h3g) nb2⟩)
    ((first | (go_at_call 28; refine (HG.out W4.drew (Nw.drew (HN3.out.trans HN4.out))).mono ?_; rintro e W5 ⟨rfl, v', hu⟩; have hchu : Chg (foot gp v) W4 W5 := ((Chg.of_nw (Nw.drew (Nw.refl W4)) : Chg [] W4 W4.drew).wide (by simp)).trans hu.chg; replace v0 := hchu.cell v0 h3f; replace v1 := hchu.cell v1 h3f; replace v2 := hchu.cell v2 h3f; replace v3 := hchu.cell v3 h3f; replace v4 := hchu.cell v4 h3f; have x1 := (hchu.frozen (i := 1) HB4.out h3f).trans xz1.out; have x3 := (hchu.frozen (i := 3) HB4.out h3f).trans xz3.out; have x4 := (hchu.frozen (i := 4) HB4.out h3f).trans xz4.out; haveI : In W3.heap.size W5 := ⟨Nat.lt_of_lt_of_le HB4.out hchu.size⟩; have HU := Lib.hid hu; clear hu)))
  obtain ⟨hs5, -, -, -, -, -, -, -, r0, r1, r2, r3, r4, z0, z1, z2, z3, z4⟩ := (HF3.out.nw HN4.out).chg hchu hwf hwf1
  haveI : In (w.heap.size + 1) W5 := ⟨hs5⟩
  haveI : In gm W5 := ⟨Nat.lt_of_lt_of_le im3 (Nat.le_trans HN4.out.grown.size hchu.size)⟩
  have ne5 : w.heap.size + 1 ≠ W3.heap.size := by have := HS3.out; omega
  have hmu := RMUp.after (HN4.out.trans (Nw.drew (Nw.refl W4))) (RMUp.map (H3.out.nw (HN4.out.trans (Nw.drew (Nw.refl W4)))) HU.out)
  have hmv : ∀ g ∈ (⟨gm, gt, gp, v'⟩ : Pl).foot, g ∉ [W3.heap.size] := fun g hg hx => by
    simp at hx; subst hx
    rcases (RMUp.map (H3.out.nw (HN4.out.trans (Nw.drew (Nw.refl W4)))) HU.out).mv _ hg with h1 | h1
    · have := H3.out.lt h1; omega
    · have : W4.heap.size ≤ W3.heap.size := h1
      have := HB4.out; omega
  have hu2 := hmu.new (Chg.set1 W5 W3.heap.size 4 (.int .i64 n)) (fun g hg => by simp at hg; omega) hmv
  have HU2 := Lib.hid hu2
  clear hmu hmv hu2 hchu
  go_wp2
  refine bodyPost_ret (v := res5 0 false 0 0 n) ?_ rfl ⟨rfl, _, RMUp.res HN3.out (Nat.le_succ _) HS3.out H.out HU2.out ⟨0, false, 0, 0, n⟩⟩
  simp [results, Tryz.results9, go_sem, r0, r1, r2, r3, r4]
set_option maxRecDepth 20000 in
set_option maxHeartbeats 8000000 in
theorem rdo_k7t (w : World) (p : Pl) (cf : Cf) (s : Md) (h : RAt w p cf s) (t : Nat) (x : Th) (ht : s.th[t]? = some x) (a b c d e f : Int) (hw : Ox.Wf ⟨7, a, b, c, d, e, f⟩) (hr : refM s t ⟨7, a, b, c, d, e, f⟩ = 0) (hl : s.l.length ≤ 400000) (hy : casB a d s.l = true) :
    Calls Tryz.prog 9 #[.pointer (some ⟨p.gm, 0, none⟩), .int .i64 t, opV ⟨7, a, b, c, d, e, f⟩] w fun q w' => q = .returned (resV ⟨0, hasK a s.l, 0, valL a s.l, 1⟩) ∧ ∃ p', RMUp w p cf { s with l := casL a d c s.l } p' w' := by
  have HR := Lib.hid (fun W (hn : Nw w W) => rrefusal_any W p cf s (h.nw hn) t ⟨7, a, b, c, d, e, f⟩ hw)
  have H := Lib.hid h
  have HT := Lib.hid ht
  obtain ⟨p0, _⟩ := List.getElem?_eq_some_iff.1 ht
  have im := h.im
  have it := h.it
  rw [hr] at HR
  have HG := Lib.hid (fun W (hn : Nw w W) => rcas_om (h.nw hn).om (by omega) a d c)
  rw [hy] at HG
  clear hy
  obtain ⟨L, hL⟩ : ∃ y, y = casL a d c s.l := ⟨_, rfl⟩
  obtain ⟨y, hy⟩ : ∃ y, y = valL a s.l := ⟨_, rfl⟩
  obtain ⟨bb, hbb⟩ : ∃ y, y = hasK a s.l := ⟨_, rfl⟩
  rw [← hL, ← hy, ← hbb] at HG
  rw [← hL, ← hy, ← hbb]
  clear hL hy hbb
  obtain ⟨gm, gt, gp, v⟩ := p
  unfold opV at HR ⊢
  unfold resV
  simp only at HR HG im it ⊢
  clear h hr hw ht
  obtain ⟨W2, hW2⟩ : ∃ W2, W2 = (w.alloc (.cells #[.int .u8 7, .int .u64 a, .int .u64 b, .int .u64 c, .int .u64 d, .int .u64 e, .int .u64 f] 45)).alloc (.cells #[.int .i64 0, .bool false, .int .u64 0, .int .u64 0, .int .i64 0] 42) := ⟨_, rfl⟩
  have hn2 : Nw w W2 := by rw [hW2]; exact (by repeat (first | exact Xt.Nw.refl _ | refine Xt.Nw.drew ?_ | refine Xt.Nw.drewN ?_ _ | refine Xt.Nw.alloc ?_ _ | refine Xt.Nw.joined ?_ | refine Xt.Nw.drewd ?_ | refine Xt.Nw.drewdN ?_ | refine Xt.Nw.ext ?_ | refine Xt.Nw.ext_some ?_ (by assumption) | refine Xt.Nw.setCell ?_ (by simp [go_sem] <;> omega) _))
  have hf2 : Fr w W2 ⟨7, a, b, c, d, e, f⟩ := by rw [hW2]; exact Fr.made w 7 a b c d e f
  have HF2 := Lib.hid hf2
  have HN2 := Lib.hid hn2
  have HW2 := Lib.hid hW2
  haveI : In gm w := ⟨im⟩
  clear hn2 hW2 hf2
  go_enter Tryz.func9, Tryz.ntmps9
  go_wp2_with fail
  rw [← HW2.out]
  refine (HR.out W2 HN2.out).mono ?_
  rintro r W3 ⟨rfl, hn3⟩
  have hn : Nw w W3 := HN2.out.trans hn3
  have h3 := H.out.nw hn
  obtain ⟨ct, m2⟩ := h3.m2
  have m1 : W3.cell? ⟨gm, 16, none⟩ = some (.pointer (some ⟨gp, 0, none⟩)) := h3.m1
  obtain ⟨c0, c1, c2, c3, c4⟩ := (h3.th : RThR W3 gt s.th).cells HT.out
  have y0 : W3.frozen? ⟨gt, t * 5, none⟩ = false := (h3.th : RThR W3 gt s.th).frozen _
  have y1 : W3.frozen? ⟨gt, t * 5 + 1, none⟩ = false := (h3.th : RThR W3 gt s.th).frozen _
  have y2 : W3.frozen? ⟨gt, t * 5 + 2, none⟩ = false := (h3.th : RThR W3 gt s.th).frozen _
  have y3 : W3.frozen? ⟨gt, t * 5 + 3, none⟩ = false := (h3.th : RThR W3 gt s.th).frozen _
  have y4 : W3.frozen? ⟨gt, t * 5 + 3 + 1, none⟩ = false := (h3.th : RThR W3 gt s.th).frozen _
  have HF3 := Lib.hid (HF2.out.nw hn3)
  obtain ⟨hs3, q0, q1, q2, q3, q4, q5, q6, r0, r1, r2, r3, r4, z0, z1, z2, z3, z4⟩ := HF2.out.nw hn3
  have im3 : gm < W3.heap.size := h3.im
  have it3 : gt < W3.heap.size := h3.it
  have HN3 := Lib.hid hn
  have HS3 := Lib.hid hs3
  have H3 := Lib.hid h3
  have ne1 : gt ≠ w.heap.size := Nat.ne_of_lt it
  have ne2 : gt ≠ w.heap.size + 1 := by omega
  haveI : In gm W3 := ⟨im3⟩
  haveI : In gt W3 := ⟨it3⟩
  haveI : In w.heap.size W3 := ⟨by omega⟩
  haveI : In (w.heap.size + 1) W3 := ⟨hs3⟩
  have t1 : (t : Int) < (s.th.length : Int) := by omega
  have t0 : (0 : Int) ≤ (t : Int) := by omega
  simp only at m2 q0 q1 q2 q3 q4 q5 q6
  clear hn h3 hn3 hs3 HR
  obtain ⟨W4, hW4⟩ : ∃ W4, W4 = (W3.alloc (.cells #[.int .i64 0, .bool false, .int .u64 0, .int .u64 0, .int .i64 0] 42)).alloc (.cells #[.int .u64 a, .int .u64 b] 71) := ⟨_, rfl⟩
  have hn4 : Nw W3 W4 := by rw [hW4]; exact (by repeat (first | exact Xt.Nw.refl _ | refine Xt.Nw.drew ?_ | refine Xt.Nw.drewN ?_ _ | refine Xt.Nw.alloc ?_ _ | refine Xt.Nw.joined ?_ | refine Xt.Nw.drewd ?_ | refine Xt.Nw.drewdN ?_ | refine Xt.Nw.ext ?_ | refine Xt.Nw.ext_some ?_ (by assumption) | refine Xt.Nw.setCell ?_ (by simp [go_sem] <;> omega) _))
  have v0 : W4.cell? ⟨W3.heap.size, 0, none⟩ = some (.int .i64 0) := by rw [hW4]; simp [go_sem]
  have v1 : W4.cell? ⟨W3.heap.size, 1, none⟩ = some (.bool false) := by rw [hW4]; simp [go_sem]
  have v2 : W4.cell? ⟨W3.heap.size, 2, none⟩ = some (.int .u64 0) := by rw [hW4]; simp [go_sem]
  have v3 : W4.cell? ⟨W3.heap.size, 3, none⟩ = some (.int .u64 0) := by rw [hW4]; simp [go_sem]
  have v4 : W4.cell? ⟨W3.heap.size, 4, none⟩ = some (.int .i64 0) := by rw [hW4]; simp [go_sem]
  have g1 := cell_nw m1 hn4
  have g2 := cell_nw q1 hn4
  have HB4 := Lib.hid (show W3.heap.size < W4.heap.size by rw [hW4]; simp [go_sem])
  have xz1 := Lib.hid (show W4.frozen? ⟨W3.heap.size, 1, none⟩ = false by rw [hW4]; simp [go_sem])
  have xz3 := Lib.hid (show W4.frozen? ⟨W3.heap.size, 3, none⟩ = false by rw [hW4]; simp [go_sem])
  have k0 : W4.cell? ⟨W3.heap.size + 1, 0, none⟩ = some (.int .u64 a) := by rw [hW4]; simp [go_sem]
  have k1 : W4.cell? ⟨W3.heap.size + 1, 1, none⟩ = some (.int .u64 b) := by rw [hW4]; simp [go_sem]
  have xz4 := Lib.hid (show W4.frozen? ⟨W3.heap.size, 4, none⟩ = false by rw [hW4]; simp [go_sem])
  have HK4 := Lib.hid (show W3.heap.size + 1 < W4.heap.size by rw [hW4]; simp [go_sem])
  have HW4 := Lib.hid hW4
  have HN4 := Lib.hid hn4
  clear hW4 hn4
  have gga := cell_nw q1 HN4.out
  have ggd := cell_nw q4 HN4.out
  have ggc := cell_nw q3 HN4.out
  have hmf : gm ∉ foot gp v := fun e => by
    rcases mem_foot.1 e with e | e
    · exact H3.out.nmp e
    · exact H3.out.nmv e
  have hff : ∀ g, g ∈ foot gp v → g < w.heap.size := fun g hg => H.out.lt (by simp [Pl.foot, hg])
  have hwf : w.heap.size ∉ foot gp v := fun e => Nat.lt_irrefl _ (hff _ e)
  have hwf1 : w.heap.size + 1 ∉ foot gp v := fun e => by have := hff _ e; omega
  have h3f : W3.heap.size ∉ foot gp v := fun e => by have := hff _ e; have := HS3.out; omega
  have h3g : W3.heap.size + 1 ∉ foot gp v := fun e => by have := hff _ e; have := HS3.out; omega
  have nb0 : gm ∉ [W3.heap.size] := by simp; omega
  have nb1 : w.heap.size ∉ [W3.heap.size] := by have := HS3.out; simp; omega
  have nb2 : W3.heap.size + 1 ∉ [W3.heap.size] := by simp
  clear hff
  go_upto_region 25 with (fail)
  rw [← HW4.out]
  go_region_held3 (fun w' => w'.cell? ⟨gm, 16, none⟩ = some (.pointer (some ⟨gp, 0, none⟩)) ∧ w'.cell? ⟨w.heap.size, 1, none⟩ = some (.int .u64 a) ∧ w'.cell? ⟨w.heap.size, 4, none⟩ = some (.int .u64 d) ∧ w'.cell? ⟨w.heap.size, 3, none⟩ = some (.int .u64 c)) (first | exact ⟨g1, gga, ggd, ggc⟩ | exact ⟨cell_nw g1 (Nw.drew (Nw.refl _)), cell_nw gga (Nw.drew (Nw.refl _)), cell_nw ggd (Nw.drew (Nw.refl _)), cell_nw ggc (Nw.drew (Nw.refl _))⟩ | exact ⟨hchu.cell g1 hmf, hchu.cell gga hwf, hchu.cell ggd hwf, hchu.cell ggc hwf⟩)
    ((first | (go_at_call 26; refine (HG.out W4.drew (Nw.drew (HN3.out.trans HN4.out))).mono ?_; rintro e W5 ⟨rfl, v', hu⟩; have hchu : Chg (foot gp v) W4 W5 := ((Chg.of_nw (Nw.drew (Nw.refl W4)) : Chg [] W4 W4.drew).wide (by simp)).trans hu.chg; replace v0 := hchu.cell v0 h3f; replace v1 := hchu.cell v1 h3f; replace v2 := hchu.cell v2 h3f; replace v3 := hchu.cell v3 h3f; replace v4 := hchu.cell v4 h3f; have x1 := (hchu.frozen (i := 1) HB4.out h3f).trans xz1.out; have x3 := (hchu.frozen (i := 3) HB4.out h3f).trans xz3.out; have x4 := (hchu.frozen (i := 4) HB4.out h3f).trans xz4.out; haveI : In W3.heap.size W5 := ⟨Nat.lt_of_lt_of_le HB4.out hchu.size⟩; have HU := Lib.hid hu; clear hu)))
  obtain ⟨hs5, -, -, -, -, -, -, -, r0, r1, r2, r3, r4, z0, z1, z2, z3, z4⟩ := (HF3.out.nw HN4.out).chg hchu hwf hwf1
  haveI : In (w.heap.size + 1) W5 := ⟨hs5⟩
  haveI : In gm W5 := ⟨Nat.lt_of_lt_of_le im3 (Nat.le_trans HN4.out.grown.size hchu.size)⟩
  have ne5 : w.heap.size + 1 ≠ W3.heap.size := by have := HS3.out; omega
  have hmu := RMUp.after (HN4.out.trans (Nw.drew (Nw.refl W4))) (RMUp.map (H3.out.nw (HN4.out.trans (Nw.drew (Nw.refl W4)))) HU.out)
  have hmv : ∀ g ∈ (⟨gm, gt, gp, v'⟩ : Pl).foot, g ∉ [W3.heap.size] := fun g hg hx => by
    simp at hx; subst hx
    rcases (RMUp.map (H3.out.nw (HN4.out.trans (Nw.drew (Nw.refl W4)))) HU.out).mv _ hg with h1 | h1
    · have := H3.out.lt h1; omega
    · have : W4.heap.size ≤ W3.heap.size := h1
      have := HB4.out; omega
  have hu2 := hmu.new (((Chg.set1 W5 W3.heap.size 3 (.int .u64 y)).set2 1 (.bool bb)).set2 4 (.int .i64 1)) (fun g hg => by simp at hg; omega) hmv
  have HU2 := Lib.hid hu2
  clear hmu hmv hu2 hchu
  go_wp2
  refine bodyPost_ret (v := res5 0 bb 0 y 1) ?_ rfl ⟨rfl, _, RMUp.res HN3.out (Nat.le_succ _) HS3.out H.out HU2.out ⟨0, bb, 0, y, 1⟩⟩
  simp [results, Tryz.results9, go_sem, r0, r1, r2, r3, r4]
set_option maxRecDepth 20000 in
set_option maxHeartbeats 8000000 in
theorem rdo_k7f (w : World) (p : Pl) (cf : Cf) (s : Md) (h : RAt w p cf s) (t : Nat) (x : Th) (ht : s.th[t]? = some x) (a b c d e f : Int) (hw : Ox.Wf ⟨7, a, b, c, d, e, f⟩) (hr : refM s t ⟨7, a, b, c, d, e, f⟩ = 0) (hl : s.l.length ≤ 400000) (hy : casB a d s.l = false) :
    Calls Tryz.prog 9 #[.pointer (some ⟨p.gm, 0, none⟩), .int .i64 t, opV ⟨7, a, b, c, d, e, f⟩] w fun q w' => q = .returned (resV ⟨0, hasK a s.l, 0, valL a s.l, 0⟩) ∧ ∃ p', RMUp w p cf { s with l := casL a d c s.l } p' w' := by
  have HR := Lib.hid (fun W (hn : Nw w W) => rrefusal_any W p cf s (h.nw hn) t ⟨7, a, b, c, d, e, f⟩ hw)
  have H := Lib.hid h
  have HT := Lib.hid ht
  obtain ⟨p0, _⟩ := List.getElem?_eq_some_iff.1 ht
  have im := h.im
  have it := h.it
  rw [hr] at HR
  have HG := Lib.hid (fun W (hn : Nw w W) => rcas_om (h.nw hn).om (by omega) a d c)
  rw [hy] at HG
  clear hy
  obtain ⟨L, hL⟩ : ∃ y, y = casL a d c s.l := ⟨_, rfl⟩
  obtain ⟨y, hy⟩ : ∃ y, y = valL a s.l := ⟨_, rfl⟩
  obtain ⟨bb, hbb⟩ : ∃ y, y = hasK a s.l := ⟨_, rfl⟩
  rw [← hL, ← hy, ← hbb] at HG
  rw [← hL, ← hy, ← hbb]
  clear hL hy hbb
  obtain ⟨gm, gt, gp, v⟩ := p
  unfold opV at HR ⊢
  unfold resV
  simp only at HR HG im it ⊢
  clear h hr hw ht
  obtain ⟨W2, hW2⟩ : ∃ W2, W2 = (w.alloc (.cells #[.int .u8 7, .int .u64 a, .int .u64 b, .int .u64 c, .int .u64 d, .int .u64 e, .int .u64 f] 45)).alloc (.cells #[.int .i64 0, .bool false, .int .u64 0, .int .u64 0, .int .i64 0] 42) := ⟨_, rfl⟩
  have hn2 : Nw w W2 := by rw [hW2]; exact (by repeat (first | exact Xt.Nw.refl _ | refine Xt.Nw.drew ?_ | refine Xt.Nw.drewN ?_ _ | refine Xt.Nw.alloc ?_ _ | refine Xt.Nw.joined ?_ | refine Xt.Nw.drewd ?_ | refine Xt.Nw.drewdN ?_ | refine Xt.Nw.ext ?_ | refine Xt.Nw.ext_some ?_ (by assumption) | refine Xt.Nw.setCell ?_ (by simp [go_sem] <;> omega) _))
  have hf2 : Fr w W2 ⟨7, a, b, c, d, e, f⟩ := by rw [hW2]; exact Fr.made w 7 a b c d e f
  have HF2 := Lib.hid hf2
  have HN2 := Lib.hid hn2
  have HW2 := Lib.hid hW2
  haveI : In gm w := ⟨im⟩
  clear hn2 hW2 hf2
  go_enter Tryz.func9, Tryz.ntmps9
  go_wp2_with fail
  rw [← HW2.out]
  refine (HR.out W2 HN2.out).mono ?_
  rintro r W3 ⟨rfl, hn3⟩
  have hn : Nw w W3 := HN2.out.trans hn3
  have h3 := H.out.nw hn
  obtain ⟨ct, m2⟩ := h3.m2
  have m1 : W3.cell? ⟨gm, 16, none⟩ = some (.pointer (some ⟨gp, 0, none⟩)) := h3.m1
  obtain ⟨c0, c1, c2, c3, c4⟩ := (h3.th : RThR W3 gt s.th).cells HT.out
  have y0 : W3.frozen? ⟨gt, t * 5, none⟩ = false := (h3.th : RThR W3 gt s.th).frozen _
  have y1 : W3.frozen? ⟨gt, t * 5 + 1, none⟩ = false := (h3.th : RThR W3 gt s.th).frozen _
  have y2 : W3.frozen? ⟨gt, t * 5 + 2, none⟩ = false := (h3.th : RThR W3 gt s.th).frozen _
  have y3 : W3.frozen? ⟨gt, t * 5 + 3, none⟩ = false := (h3.th : RThR W3 gt s.th).frozen _
  have y4 : W3.frozen? ⟨gt, t * 5 + 3 + 1, none⟩ = false := (h3.th : RThR W3 gt s.th).frozen _
  have HF3 := Lib.hid (HF2.out.nw hn3)
  obtain ⟨hs3, q0, q1, q2, q3, q4, q5, q6, r0, r1, r2, r3, r4, z0, z1, z2, z3, z4⟩ := HF2.out.nw hn3
  have im3 : gm < W3.heap.size := h3.im
  have it3 : gt < W3.heap.size := h3.it
  have HN3 := Lib.hid hn
  have HS3 := Lib.hid hs3
  have H3 := Lib.hid h3
  have ne1 : gt ≠ w.heap.size := Nat.ne_of_lt it
  have ne2 : gt ≠ w.heap.size + 1 := by omega
  haveI : In gm W3 := ⟨im3⟩
  haveI : In gt W3 := ⟨it3⟩
  haveI : In w.heap.size W3 := ⟨by omega⟩
  haveI : In (w.heap.size + 1) W3 := ⟨hs3⟩
  have t1 : (t : Int) < (s.th.length : Int) := by omega
  have t0 : (0 : Int) ≤ (t : Int) := by omega
  simp only at m2 q0 q1 q2 q3 q4 q5 q6
  clear hn h3 hn3 hs3 HR
  obtain ⟨W4, hW4⟩ : ∃ W4, W4 = (W3.alloc (.cells #[.int .i64 0, .bool false, .int .u64 0, .int .u64 0, .int .i64 0] 42)).alloc (.cells #[.int .u64 a, .int .u64 b] 71) := ⟨_, rfl⟩
  have hn4 : Nw W3 W4 := by rw [hW4]; exact (by repeat (first | exact Xt.Nw.refl _ | refine Xt.Nw.drew ?_ | refine Xt.Nw.drewN ?_ _ | refine Xt.Nw.alloc ?_ _ | refine Xt.Nw.joined ?_ | refine Xt.Nw.drewd ?_ | refine Xt.Nw.drewdN ?_ | refine Xt.Nw.ext ?_ | refine Xt.Nw.ext_some ?_ (by assumption) | refine Xt.Nw.setCell ?_ (by simp [go_sem] <;> omega) _))
  have v0 : W4.cell? ⟨W3.heap.size, 0, none⟩ = some (.int .i64 0) := by rw [hW4]; simp [go_sem]
  have v1 : W4.cell? ⟨W3.heap.size, 1, none⟩ = some (.bool false) := by rw [hW4]; simp [go_sem]
  have v2 : W4.cell? ⟨W3.heap.size, 2, none⟩ = some (.int .u64 0) := by rw [hW4]; simp [go_sem]
  have v3 : W4.cell? ⟨W3.heap.size, 3, none⟩ = some (.int .u64 0) := by rw [hW4]; simp [go_sem]
  have v4 : W4.cell? ⟨W3.heap.size, 4, none⟩ = some (.int .i64 0) := by rw [hW4]; simp [go_sem]
  have g1 := cell_nw m1 hn4
  have g2 := cell_nw q1 hn4
  have HB4 := Lib.hid (show W3.heap.size < W4.heap.size by rw [hW4]; simp [go_sem])
  have xz1 := Lib.hid (show W4.frozen? ⟨W3.heap.size, 1, none⟩ = false by rw [hW4]; simp [go_sem])
  have xz3 := Lib.hid (show W4.frozen? ⟨W3.heap.size, 3, none⟩ = false by rw [hW4]; simp [go_sem])
  have k0 : W4.cell? ⟨W3.heap.size + 1, 0, none⟩ = some (.int .u64 a) := by rw [hW4]; simp [go_sem]
  have k1 : W4.cell? ⟨W3.heap.size + 1, 1, none⟩ = some (.int .u64 b) := by rw [hW4]; simp [go_sem]
  have xz4 := Lib.hid (show W4.frozen? ⟨W3.heap.size, 4, none⟩ = false by rw [hW4]; simp [go_sem])
  have HK4 := Lib.hid (show W3.heap.size + 1 < W4.heap.size by rw [hW4]; simp [go_sem])
  have HW4 := Lib.hid hW4
  have HN4 := Lib.hid hn4
  clear hW4 hn4
  have gga := cell_nw q1 HN4.out
  have ggd := cell_nw q4 HN4.out
  have ggc := cell_nw q3 HN4.out
  have hmf : gm ∉ foot gp v := fun e => by
    rcases mem_foot.1 e with e | e
    · exact H3.out.nmp e
    · exact H3.out.nmv e
  have hff : ∀ g, g ∈ foot gp v → g < w.heap.size := fun g hg => H.out.lt (by simp [Pl.foot, hg])
  have hwf : w.heap.size ∉ foot gp v := fun e => Nat.lt_irrefl _ (hff _ e)
  have hwf1 : w.heap.size + 1 ∉ foot gp v := fun e => by have := hff _ e; omega
  have h3f : W3.heap.size ∉ foot gp v := fun e => by have := hff _ e; have := HS3.out; omega
  have h3g : W3.heap.size + 1 ∉ foot gp v := fun e => by have := hff _ e; have := HS3.out; omega
  have nb0 : gm ∉ [W3.heap.size] := by simp; omega
  have nb1 : w.heap.size ∉ [W3.heap.size] := by have := HS3.out; simp; omega
  have nb2 : W3.heap.size + 1 ∉ [W3.heap.size] := by simp
  clear hff
  go_upto_region 25 with (fail)
  rw [← HW4.out]
  go_region_held3 (fun w' => w'.cell? ⟨gm, 16, none⟩ = some (.pointer (some ⟨gp, 0, none⟩)) ∧ w'.cell? ⟨w.heap.size, 1, none⟩ = some (.int .u64 a) ∧ w'.cell? ⟨w.heap.size, 4, none⟩ = some (.int .u64 d) ∧ w'.cell? ⟨w.heap.size, 3, none⟩ = some (.int .u64 c)) (first | exact ⟨g1, gga, ggd, ggc⟩ | exact ⟨cell_nw g1 (Nw.drew (Nw.refl _)), cell_nw gga (Nw.drew (Nw.refl _)), cell_nw ggd (Nw.drew (Nw.refl _)), cell_nw ggc (Nw.drew (Nw.refl _))⟩ | exact ⟨hchu.cell g1 hmf, hchu.cell gga hwf, hchu.cell ggd hwf, hchu.cell ggc hwf⟩)
    ((first | (go_at_call 26; refine (HG.out W4.drew (Nw.drew (HN3.out.trans HN4.out))).mono ?_; rintro e W5 ⟨rfl, v', hu⟩; have hchu : Chg (foot gp v) W4 W5 := ((Chg.of_nw (Nw.drew (Nw.refl W4)) : Chg [] W4 W4.drew).wide (by simp)).trans hu.chg; replace v0 := hchu.cell v0 h3f; replace v1 := hchu.cell v1 h3f; replace v2 := hchu.cell v2 h3f; replace v3 := hchu.cell v3 h3f; replace v4 := hchu.cell v4 h3f; have x1 := (hchu.frozen (i := 1) HB4.out h3f).trans xz1.out; have x3 := (hchu.frozen (i := 3) HB4.out h3f).trans xz3.out; have x4 := (hchu.frozen (i := 4) HB4.out h3f).trans xz4.out; haveI : In W3.heap.size W5 := ⟨Nat.lt_of_lt_of_le HB4.out hchu.size⟩; have HU := Lib.hid hu; clear hu)))
  obtain ⟨hs5, -, -, -, -, -, -, -, r0, r1, r2, r3, r4, z0, z1, z2, z3, z4⟩ := (HF3.out.nw HN4.out).chg hchu hwf hwf1
  haveI : In (w.heap.size + 1) W5 := ⟨hs5⟩
  haveI : In gm W5 := ⟨Nat.lt_of_lt_of_le im3 (Nat.le_trans HN4.out.grown.size hchu.size)⟩
  have ne5 : w.heap.size + 1 ≠ W3.heap.size := by have := HS3.out; omega
  have hmu := RMUp.after (HN4.out.trans (Nw.drew (Nw.refl W4))) (RMUp.map (H3.out.nw (HN4.out.trans (Nw.drew (Nw.refl W4)))) HU.out)
  have hmv : ∀ g ∈ (⟨gm, gt, gp, v'⟩ : Pl).foot, g ∉ [W3.heap.size] := fun g hg hx => by
    simp at hx; subst hx
    rcases (RMUp.map (H3.out.nw (HN4.out.trans (Nw.drew (Nw.refl W4)))) HU.out).mv _ hg with h1 | h1
    · have := H3.out.lt h1; omega
    · have : W4.heap.size ≤ W3.heap.size := h1
      have := HB4.out; omega
  have hu2 := hmu.new ((Chg.set1 W5 W3.heap.size 3 (.int .u64 y)).set2 1 (.bool bb)) (fun g hg => by simp at hg; omega) hmv
  have HU2 := Lib.hid hu2
  clear hmu hmv hu2 hchu
  go_wp2
  refine bodyPost_ret (v := res5 0 bb 0 y 0) ?_ rfl ⟨rfl, _, RMUp.res HN3.out (Nat.le_succ _) HS3.out H.out HU2.out ⟨0, bb, 0, y, 0⟩⟩
  simp [results, Tryz.results9, go_sem, r0, r1, r2, r3, r4]
set_option maxRecDepth 20000 in
set_option maxHeartbeats 8000000 in
theorem rdo_k11 (w : World) (p : Pl) (cf : Cf) (s : Md) (h : RAt w p cf s) (t : Nat) (x : Th) (ht : s.th[t]? = some x) (a b c d e f : Int) (hw : Ox.Wf ⟨11, a, b, c, d, e, f⟩) (hr : refM s t ⟨11, a, b, c, d, e, f⟩ = 0) :
    Calls Tryz.prog 9 #[.pointer (some ⟨p.gm, 0, none⟩), .int .i64 t, opV ⟨11, a, b, c, d, e, f⟩] w fun q w' => q = .returned (resV ⟨0, false, 0, 0, 0⟩) ∧ ∃ p', RMUp w p cf { s with th := s.th.set t ⟨true, true, a, b, x.se⟩ } p' w' := by
  have HR := Lib.hid (fun W (hn : Nw w W) => rrefusal_any W p cf s (h.nw hn) t ⟨11, a, b, c, d, e, f⟩ hw)
  have H := Lib.hid h
  have HT := Lib.hid ht
  obtain ⟨p0, _⟩ := List.getElem?_eq_some_iff.1 ht
  have im := h.im
  have it := h.it
  rw [hr] at HR
  obtain ⟨gm, gt, gp, v⟩ := p
  unfold opV at HR ⊢
  unfold resV
  simp only at HR im it ⊢
  clear h hr hw ht
  obtain ⟨W2, hW2⟩ : ∃ W2, W2 = (w.alloc (.cells #[.int .u8 11, .int .u64 a, .int .u64 b, .int .u64 c, .int .u64 d, .int .u64 e, .int .u64 f] 45)).alloc (.cells #[.int .i64 0, .bool false, .int .u64 0, .int .u64 0, .int .i64 0] 42) := ⟨_, rfl⟩
  have hn2 : Nw w W2 := by rw [hW2]; exact (by repeat (first | exact Xt.Nw.refl _ | refine Xt.Nw.drew ?_ | refine Xt.Nw.drewN ?_ _ | refine Xt.Nw.alloc ?_ _ | refine Xt.Nw.joined ?_ | refine Xt.Nw.drewd ?_ | refine Xt.Nw.drewdN ?_ | refine Xt.Nw.ext ?_ | refine Xt.Nw.ext_some ?_ (by assumption) | refine Xt.Nw.setCell ?_ (by simp [go_sem] <;> omega) _))
  have hf2 : Fr w W2 ⟨11, a, b, c, d, e, f⟩ := by rw [hW2]; exact Fr.made w 11 a b c d e f
  have HF2 := Lib.hid hf2
  have HN2 := Lib.hid hn2
  have HW2 := Lib.hid hW2
  haveI : In gm w := ⟨im⟩
  clear hn2 hW2 hf2
  go_enter Tryz.func9, Tryz.ntmps9
  go_wp2_with fail
  rw [← HW2.out]
  refine (HR.out W2 HN2.out).mono ?_
  rintro r W3 ⟨rfl, hn3⟩
  have hn : Nw w W3 := HN2.out.trans hn3
  have h3 := H.out.nw hn
  obtain ⟨ct, m2⟩ := h3.m2
  have m1 : W3.cell? ⟨gm, 16, none⟩ = some (.pointer (some ⟨gp, 0, none⟩)) := h3.m1
  obtain ⟨c0, c1, c2, c3, c4⟩ := (h3.th : RThR W3 gt s.th).cells HT.out
  have y0 : W3.frozen? ⟨gt, t * 5, none⟩ = false := (h3.th : RThR W3 gt s.th).frozen _
  have y1 : W3.frozen? ⟨gt, t * 5 + 1, none⟩ = false := (h3.th : RThR W3 gt s.th).frozen _
  have y2 : W3.frozen? ⟨gt, t * 5 + 2, none⟩ = false := (h3.th : RThR W3 gt s.th).frozen _
  have y3 : W3.frozen? ⟨gt, t * 5 + 3, none⟩ = false := (h3.th : RThR W3 gt s.th).frozen _
  have y4 : W3.frozen? ⟨gt, t * 5 + 3 + 1, none⟩ = false := (h3.th : RThR W3 gt s.th).frozen _
  have HF3 := Lib.hid (HF2.out.nw hn3)
  obtain ⟨hs3, q0, q1, q2, q3, q4, q5, q6, r0, r1, r2, r3, r4, z0, z1, z2, z3, z4⟩ := HF2.out.nw hn3
  have im3 : gm < W3.heap.size := h3.im
  have it3 : gt < W3.heap.size := h3.it
  have HN3 := Lib.hid hn
  have HS3 := Lib.hid hs3
  have H3 := Lib.hid h3
  have ne1 : gt ≠ w.heap.size := Nat.ne_of_lt it
  have ne2 : gt ≠ w.heap.size + 1 := by omega
  haveI : In gm W3 := ⟨im3⟩
  haveI : In gt W3 := ⟨it3⟩
  haveI : In w.heap.size W3 := ⟨by omega⟩
  haveI : In (w.heap.size + 1) W3 := ⟨hs3⟩
  have t1 : (t : Int) < (s.th.length : Int) := by omega
  have t0 : (0 : Int) ≤ (t : Int) := by omega
  simp only at m2 q0 q1 q2 q3 q4 q5 q6
  clear hn h3 hn3 hs3 HR
  obtain ⟨W4, hW4⟩ : ∃ W4, W4 = (W3.alloc (.cells #[.int .i64 0, .bool false, .int .u64 0, .int .u64 0, .int .i64 0] 42)).alloc (.cells #[.int .u64 a, .int .u64 b] 71) := ⟨_, rfl⟩
  have hn4 : Nw W3 W4 := by rw [hW4]; exact (by repeat (first | exact Xt.Nw.refl _ | refine Xt.Nw.drew ?_ | refine Xt.Nw.drewN ?_ _ | refine Xt.Nw.alloc ?_ _ | refine Xt.Nw.joined ?_ | refine Xt.Nw.drewd ?_ | refine Xt.Nw.drewdN ?_ | refine Xt.Nw.ext ?_ | refine Xt.Nw.ext_some ?_ (by assumption) | refine Xt.Nw.setCell ?_ (by simp [go_sem] <;> omega) _))
  have v0 : W4.cell? ⟨W3.heap.size, 0, none⟩ = some (.int .i64 0) := by rw [hW4]; simp [go_sem]
  have v1 : W4.cell? ⟨W3.heap.size, 1, none⟩ = some (.bool false) := by rw [hW4]; simp [go_sem]
  have v2 : W4.cell? ⟨W3.heap.size, 2, none⟩ = some (.int .u64 0) := by rw [hW4]; simp [go_sem]
  have v3 : W4.cell? ⟨W3.heap.size, 3, none⟩ = some (.int .u64 0) := by rw [hW4]; simp [go_sem]
  have v4 : W4.cell? ⟨W3.heap.size, 4, none⟩ = some (.int .i64 0) := by rw [hW4]; simp [go_sem]
  have g1 := cell_nw m1 hn4
  have g2 := cell_nw q1 hn4
  have HB4 := Lib.hid (show W3.heap.size < W4.heap.size by rw [hW4]; simp [go_sem])
  have xz1 := Lib.hid (show W4.frozen? ⟨W3.heap.size, 1, none⟩ = false by rw [hW4]; simp [go_sem])
  have xz3 := Lib.hid (show W4.frozen? ⟨W3.heap.size, 3, none⟩ = false by rw [hW4]; simp [go_sem])
  have k0 : W4.cell? ⟨W3.heap.size + 1, 0, none⟩ = some (.int .u64 a) := by rw [hW4]; simp [go_sem]
  have k1 : W4.cell? ⟨W3.heap.size + 1, 1, none⟩ = some (.int .u64 b) := by rw [hW4]; simp [go_sem]
  have xz4 := Lib.hid (show W4.frozen? ⟨W3.heap.size, 4, none⟩ = false by rw [hW4]; simp [go_sem])
  have HK4 := Lib.hid (show W3.heap.size + 1 < W4.heap.size by rw [hW4]; simp [go_sem])
  have HW4 := Lib.hid hW4
  have HN4 := Lib.hid hn4
  clear hW4 hn4
  have ne3 : W3.heap.size ≠ gt := by omega
  have ne4 : gt ≠ W3.heap.size := by omega
  have ne6 : gt ≠ W3.heap.size + 1 := by omega
  have hk3 : W3.heap.size + 1 ∉ [gt] := by simp; omega
  have ne5 : w.heap.size + 1 ≠ W3.heap.size := by have := HS3.out; omega
  haveI : In gt W4 := ⟨Nat.lt_of_lt_of_le it3 HN4.out.grown.size⟩
  haveI : In W3.heap.size W4 := ⟨HB4.out⟩
  haveI : In (W3.heap.size + 1) W4 := ⟨HK4.out⟩
  obtain ⟨hs5, -, -, -, -, -, -, -, r0, r1, r2, r3, r4, z0, z1, z2, z3, z4⟩ := HF3.out.nw HN4.out
  haveI : In (w.heap.size + 1) W4 := ⟨hs5⟩
  replace c1 := cell_nw c1 HN4.out
  replace c2 := cell_nw c2 HN4.out
  replace c3 := cell_nw c3 HN4.out
  replace c4 := cell_nw c4 HN4.out
  have h4 := H3.out.nw HN4.out
  replace y1 : W4.frozen? ⟨gt, t * 5 + 1, none⟩ = false := (h4.th : RThR W4 gt s.th).frozen _
  replace y2 : W4.frozen? ⟨gt, t * 5 + 2, none⟩ = false := (h4.th : RThR W4 gt s.th).frozen _
  replace y3 : W4.frozen? ⟨gt, t * 5 + 3, none⟩ = false := (h4.th : RThR W4 gt s.th).frozen _
  replace y4 : W4.frozen? ⟨gt, t * 5 + 3 + 1, none⟩ = false := (h4.th : RThR W4 gt s.th).frozen _
  have H4 := Lib.hid h4
  clear h4
  go_upto_region 36 with (fail)
  rw [← HW4.out]
  go_region_held3 (fun w' => w'.cell? ⟨W3.heap.size + 1, 0, none⟩ = some (.int .u64 a) ∧ w'.cell? ⟨W3.heap.size + 1, 1, none⟩ = some (.int .u64 b)) (first | exact ⟨k0, k1⟩ | exact ⟨cell_nw k0 (Nw.drew (Nw.refl _)), cell_nw k1 (Nw.drew (Nw.refl _))⟩ | exact ⟨by simp [go_sem, k0], by simp [go_sem, k1]⟩) (fail)
  go_wp2
  have hu : RMUp W3 ⟨gm, gt, gp, v⟩ cf { s with th := s.th.set t { x with op := true, mo := true, lo := a, hi := b } } ⟨gm, gt, gp, v⟩ _ := RMUp.after HN4.out (RMUp.ths H4.out (by simp) (by
    have h1 := RThR.op H4.out.th HT.out true
    have h2 := h1.mo (set_at HT.out _) true
    have h3 := h2.lo (set_at (set_at HT.out _) _) a
    have h4 := h3.hi (set_at (set_at (set_at HT.out _) _) _) b
    rw [List.set_set, List.set_set, List.set_set] at h4
    exact h4) ((((Chg.set1 W4 gt _ _).set2 _ _).set2 _ _).set2 _ _))
  refine bodyPost_ret (v := res5 0 false 0 0 0) ?_ rfl ⟨rfl, _, (RMUp.res HN3.out (Nat.le_succ _) HS3.out H.out hu ⟨0, false, 0, 0, 0⟩).nw (Nw.drew (Nw.refl _))⟩
  simp [results, Tryz.results9, go_sem, r0, r1, r2, r3, r4]
end Go.Proofs.YtahagplegmcaaaaGreatDoor
