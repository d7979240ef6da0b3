import Derived.Test.YtahagplegmcaaaaGreatDoorGVn
set_option linter.unusedVariables false
set_option linter.unusedSimpArgs false
set_option linter.unnecessarySimpa false
namespace Go.Proofs.YtahagplegmcaaaaGreatDoor
open Go.RowKit Go.Xt
/-! The reference's model: Do of the kinds that write the map. -/
set_option maxRecDepth 20000 in
set_option maxHeartbeats 8000000 in
theorem rdo_k6 (w : World) (p : Pl) (cf : Cf) (s : Md) (h : RAt w p cf s) (t : Nat) (x : Th) (ht : s.th[t]? = some x) (a b c d e f : Int) (hw : Ox.Wf ⟨6, a, b, c, d, e, f⟩) (hr : refM s t ⟨6, a, b, c, d, e, f⟩ = 0) (hl : s.l.length ≤ 500000) :
    Calls Tryz.prog 9 #[.pointer (some ⟨p.gm, 0, none⟩), .int .i64 t, opV ⟨6, a, b, c, d, e, f⟩] w fun q w' => q = .returned (resV ⟨0, hasK a s.l, 0, valL a s.l, 0⟩) ∧ ∃ p', RMUp w p cf { s with l := delL a s.l } p' w' := by
  have HR := Lib.hid (fun W (hn : Nw w W) => rrefusal_any W p cf s (h.nw hn) t ⟨6, a, b, c, d, e, f⟩ hw)
  have H := Lib.hid h
  have HT := Lib.hid ht
  obtain ⟨p0, _⟩ := List.getElem?_eq_some_iff.1 ht
  have im := h.im
  have it := h.it
  rw [hr] at HR
  have HG := Lib.hid (fun W (hn : Nw w W) => rdel_om (h.nw hn).om (by omega) a)
  obtain ⟨y, hy⟩ : ∃ y, y = valL a s.l := ⟨_, rfl⟩
  obtain ⟨bb, hb⟩ : ∃ y, y = hasK a s.l := ⟨_, rfl⟩
  obtain ⟨L, hL⟩ : ∃ y, y = delL a s.l := ⟨_, rfl⟩
  rw [← hy, ← hb, ← hL] at HG
  rw [← hy, ← hb, ← hL]
  clear hy hb hL
  obtain ⟨gm, gt, gp, v⟩ := p
  unfold opV at HR ⊢
  unfold resV
  simp only at HR HG im it ⊢
  clear h hr hw ht
  obtain ⟨W2, hW2⟩ : ∃ W2, W2 = (w.alloc (.cells #[.int .u8 6, .int .u64 a, .int .u64 b, .int .u64 c, .int .u64 d, .int .u64 e, .int .u64 f] 45)).alloc (.cells #[.int .i64 0, .bool false, .int .u64 0, .int .u64 0, .int .i64 0] 42) := ⟨_, rfl⟩
  have hn2 : Nw w W2 := by rw [hW2]; exact (by repeat (first | exact Xt.Nw.refl _ | refine Xt.Nw.drew ?_ | refine Xt.Nw.drewN ?_ _ | refine Xt.Nw.alloc ?_ _ | refine Xt.Nw.joined ?_ | refine Xt.Nw.drewd ?_ | refine Xt.Nw.drewdN ?_ | refine Xt.Nw.ext ?_ | refine Xt.Nw.ext_some ?_ (by assumption) | refine Xt.Nw.setCell ?_ (by simp [go_sem] <;> omega) _))
  have hf2 : Fr w W2 ⟨6, a, b, c, d, e, f⟩ := by rw [hW2]; exact Fr.made w 6 a b c d e f
  have HF2 := Lib.hid hf2
  have HN2 := Lib.hid hn2
  have HW2 := Lib.hid hW2
  haveI : In gm w := ⟨im⟩
  clear hn2 hW2 hf2
  go_enter Tryz.func9, Tryz.ntmps9
  go_wp2_with fail
  rw [← HW2.out]
  refine (HR.out W2 HN2.out).mono ?_
  rintro r W3 ⟨rfl, hn3⟩
  have hn : Nw w W3 := HN2.out.trans hn3
  have h3 := H.out.nw hn
  obtain ⟨ct, m2⟩ := h3.m2
  have m1 : W3.cell? ⟨gm, 16, none⟩ = some (.pointer (some ⟨gp, 0, none⟩)) := h3.m1
  obtain ⟨c0, c1, c2, c3, c4⟩ := (h3.th : RThR W3 gt s.th).cells HT.out
  have y0 : W3.frozen? ⟨gt, t * 5, none⟩ = false := (h3.th : RThR W3 gt s.th).frozen _
  have y1 : W3.frozen? ⟨gt, t * 5 + 1, none⟩ = false := (h3.th : RThR W3 gt s.th).frozen _
  have y2 : W3.frozen? ⟨gt, t * 5 + 2, none⟩ = false := (h3.th : RThR W3 gt s.th).frozen _
  have y3 : W3.frozen? ⟨gt, t * 5 + 3, none⟩ = false := (h3.th : RThR W3 gt s.th).frozen _
  have y4 : W3.frozen? ⟨gt, t * 5 + 3 + 1, none⟩ = false := (h3.th : RThR W3 gt s.th).frozen _
  have HF3 := Lib.hid (HF2.out.nw hn3)
  obtain ⟨hs3, q0, q1, q2, q3, q4, q5, q6, r0, r1, r2, r3, r4, z0, z1, z2, z3, z4⟩ := HF2.out.nw hn3
  have im3 : gm < W3.heap.size := h3.im
  have it3 : gt < W3.heap.size := h3.it
  have HN3 := Lib.hid hn
  have HS3 := Lib.hid hs3
  have H3 := Lib.hid h3
  have ne1 : gt ≠ w.heap.size := Nat.ne_of_lt it
  have ne2 : gt ≠ w.heap.size + 1 := by omega
  haveI : In gm W3 := ⟨im3⟩
  haveI : In gt W3 := ⟨it3⟩
  haveI : In w.heap.size W3 := ⟨by omega⟩
  haveI : In (w.heap.size + 1) W3 := ⟨hs3⟩
  have t1 : (t : Int) < (s.th.length : Int) := by omega
  have t0 : (0 : Int) ≤ (t : Int) := by omega
  simp only at m2 q0 q1 q2 q3 q4 q5 q6
  clear hn h3 hn3 hs3 HR
  obtain ⟨W4, hW4⟩ : ∃ W4, W4 = (W3.alloc (.cells #[.int .i64 0, .bool false, .int .u64 0, .int .u64 0, .int .i64 0] 42)).alloc (.cells #[.int .u64 a, .int .u64 b] 71) := ⟨_, rfl⟩
  have hn4 : Nw W3 W4 := by rw [hW4]; exact (by repeat (first | exact Xt.Nw.refl _ | refine Xt.Nw.drew ?_ | refine Xt.Nw.drewN ?_ _ | refine Xt.Nw.alloc ?_ _ | refine Xt.Nw.joined ?_ | refine Xt.Nw.drewd ?_ | refine Xt.Nw.drewdN ?_ | refine Xt.Nw.ext ?_ | refine Xt.Nw.ext_some ?_ (by assumption) | refine Xt.Nw.setCell ?_ (by simp [go_sem] <;> omega) _))
  have v0 : W4.cell? ⟨W3.heap.size, 0, none⟩ = some (.int .i64 0) := by rw [hW4]; simp [go_sem]
  have v1 : W4.cell? ⟨W3.heap.size, 1, none⟩ = some (.bool false) := by rw [hW4]; simp [go_sem]
  have v2 : W4.cell? ⟨W3.heap.size, 2, none⟩ = some (.int .u64 0) := by rw [hW4]; simp [go_sem]
  have v3 : W4.cell? ⟨W3.heap.size, 3, none⟩ = some (.int .u64 0) := by rw [hW4]; simp [go_sem]
  have v4 : W4.cell? ⟨W3.heap.size, 4, none⟩ = some (.int .i64 0) := by rw [hW4]; simp [go_sem]
  have g1 := cell_nw m1 hn4
  have g2 := cell_nw q1 hn4
  have HB4 := Lib.hid (show W3.heap.size < W4.heap.size by rw [hW4]; simp [go_sem])
  have xz1 := Lib.hid (show W4.frozen? ⟨W3.heap.size, 1, none⟩ = false by rw [hW4]; simp [go_sem])
  have xz3 := Lib.hid (show W4.frozen? ⟨W3.heap.size, 3, none⟩ = false by rw [hW4]; simp [go_sem])
  have HW4 := Lib.hid hW4
  have HN4 := Lib.hid hn4
  clear hW4 hn4
  have hmf : gm ∉ foot gp v := fun e => by
    rcases mem_foot.1 e with e | e
    · exact H3.out.nmp e
    · exact H3.out.nmv e
  have hff : ∀ g, g ∈ foot gp v → g < w.heap.size := fun g hg => H.out.lt (by simp [Pl.foot, hg])
  have hwf : w.heap.size ∉ foot gp v := fun e => Nat.lt_irrefl _ (hff _ e)
  have hwf1 : w.heap.size + 1 ∉ foot gp v := fun e => by have := hff _ e; omega
  have h3f : W3.heap.size ∉ foot gp v := fun e => by have := hff _ e; have := HS3.out; omega
  have nb0 : gm ∉ [W3.heap.size] := by simp; omega
  have nb1 : w.heap.size ∉ [W3.heap.size] := by have := HS3.out; simp; omega
  clear hff
  go_upto_region 23 with (fail)
  rw [← HW4.out]
  go_region_held3 (fun w' => w'.cell? ⟨gm, 16, none⟩ = some (.pointer (some ⟨gp, 0, none⟩)) ∧ w'.cell? ⟨w.heap.size, 1, none⟩ = some (.int .u64 a)) (first | exact ⟨g1, g2⟩ | exact ⟨cell_nw g1 (Nw.drew (Nw.refl _)), cell_nw g2 (Nw.drew (Nw.refl _))⟩ | exact ⟨hchu.cell g1 hmf, hchu.cell g2 hwf⟩ | exact ⟨(Chg.set1 W5 W3.heap.size 3 _).cell (hchu.cell g1 hmf) nb0, (Chg.set1 W5 W3.heap.size 3 _).cell (hchu.cell g2 hwf) nb1⟩ | exact ⟨((Chg.set1 W5 W3.heap.size 3 _).set2 1 _).cell (hchu.cell g1 hmf) nb0, ((Chg.set1 W5 W3.heap.size 3 _).set2 1 _).cell (hchu.cell g2 hwf) nb1⟩)
    ((first | (go_at_call 25; refine (HG.out W4.drew (Nw.drew (HN3.out.trans HN4.out))).mono ?_; rintro e W5 ⟨rfl, v', hu⟩; have hchu : Chg (foot gp v) W4 W5 := ((Chg.of_nw (Nw.drew (Nw.refl W4)) : Chg [] W4 W4.drew).wide (by simp)).trans hu.chg; replace v0 := hchu.cell v0 h3f; replace v1 := hchu.cell v1 h3f; replace v2 := hchu.cell v2 h3f; replace v3 := hchu.cell v3 h3f; replace v4 := hchu.cell v4 h3f; have x1 := (hchu.frozen (i := 1) HB4.out h3f).trans xz1.out; have x3 := (hchu.frozen (i := 3) HB4.out h3f).trans xz3.out; haveI : In W3.heap.size W5 := ⟨Nat.lt_of_lt_of_le HB4.out hchu.size⟩; have HU := Lib.hid hu; clear hu)))
  obtain ⟨hs5, -, -, -, -, -, -, -, r0, r1, r2, r3, r4, z0, z1, z2, z3, z4⟩ := (HF3.out.nw HN4.out).chg hchu hwf hwf1
  haveI : In (w.heap.size + 1) W5 := ⟨hs5⟩
  haveI : In gm W5 := ⟨Nat.lt_of_lt_of_le im3 (Nat.le_trans HN4.out.grown.size hchu.size)⟩
  have ne5 : w.heap.size + 1 ≠ W3.heap.size := by have := HS3.out; omega
  have hmu := RMUp.after (HN4.out.trans (Nw.drew (Nw.refl W4))) (RMUp.map (H3.out.nw (HN4.out.trans (Nw.drew (Nw.refl W4)))) HU.out)
  have hmv : ∀ g ∈ (⟨gm, gt, gp, v'⟩ : Pl).foot, g ∉ [W3.heap.size] := fun g hg hx => by
    simp at hx; subst hx
    rcases (RMUp.map (H3.out.nw (HN4.out.trans (Nw.drew (Nw.refl W4)))) HU.out).mv _ hg with h1 | h1
    · have := H3.out.lt h1; omega
    · have : W4.heap.size ≤ W3.heap.size := h1
      have := HB4.out; omega
  have hu2 := hmu.new ((Chg.set1 W5 W3.heap.size 3 (.int .u64 y)).set2 1 (.bool bb)) (fun g hg => by simp at hg; omega) hmv
  have HU2 := Lib.hid hu2
  clear hmu hmv hu2 hchu
  go_wp2
  refine bodyPost_ret (v := res5 0 bb 0 y 0) ?_ rfl ⟨rfl, _, RMUp.res HN3.out (Nat.le_succ _) HS3.out H.out HU2.out ⟨0, bb, 0, y, 0⟩⟩
  simp [results, Tryz.results9, go_sem, r0, r1, r2, r3, r4]
set_option maxRecDepth 20000 in
set_option maxHeartbeats 8000000 in
theorem rdo_k4 (w : World) (p : Pl) (cf : Cf) (s : Md) (h : RAt w p cf s) (t : Nat) (x : Th) (ht : s.th[t]? = some x) (a b c d e f : Int) (hw : Ox.Wf ⟨4, a, b, c, d, e, f⟩) (hr : refM s t ⟨4, a, b, c, d, e, f⟩ = 0) (hl : s.l.length ≤ 500000) :
    Calls Tryz.prog 9 #[.pointer (some ⟨p.gm, 0, none⟩), .int .i64 t, opV ⟨4, a, b, c, d, e, f⟩] w fun q w' => q = .returned (resV ⟨0, hasK a s.l, 0, valL a s.l, 0⟩) ∧ ∃ p', RMUp w p cf { s with l := putL a c s.l } p' w' := by
  have HR := Lib.hid (fun W (hn : Nw w W) => rrefusal_any W p cf s (h.nw hn) t ⟨4, a, b, c, d, e, f⟩ hw)
  have H := Lib.hid h
  have HT := Lib.hid ht
  obtain ⟨p0, _⟩ := List.getElem?_eq_some_iff.1 ht
  have im := h.im
  have it := h.it
  rw [hr] at HR
  have HG := Lib.hid (fun W (hn : Nw w W) => rput_om (h.nw hn).om (by omega) a c)
  obtain ⟨y, hy⟩ : ∃ y, y = valL a s.l := ⟨_, rfl⟩
  obtain ⟨bb, hb⟩ : ∃ y, y = hasK a s.l := ⟨_, rfl⟩
  obtain ⟨L, hL⟩ : ∃ y, y = putL a c s.l := ⟨_, rfl⟩
  rw [← hy, ← hb, ← hL] at HG
  rw [← hy, ← hb, ← hL]
  clear hy hb hL
  obtain ⟨gm, gt, gp, v⟩ := p
  unfold opV at HR ⊢
  unfold resV
  simp only at HR HG im it ⊢
  clear h hr hw ht
  obtain ⟨W2, hW2⟩ : ∃ W2, W2 = (w.alloc (.cells #[.int .u8 4, .int .u64 a, .int .u64 b, .int .u64 c, .int .u64 d, .int .u64 e, .int .u64 f] 45)).alloc (.cells #[.int .i64 0, .bool false, .int .u64 0, .int .u64 0, .int .i64 0] 42) := ⟨_, rfl⟩
  have hn2 : Nw w W2 := by rw [hW2]; exact (by repeat (first | exact Xt.Nw.refl _ | refine Xt.Nw.drew ?_ | refine Xt.Nw.drewN ?_ _ | refine Xt.Nw.alloc ?_ _ | refine Xt.Nw.joined ?_ | refine Xt.Nw.drewd ?_ | refine Xt.Nw.drewdN ?_ | refine Xt.Nw.ext ?_ | refine Xt.Nw.ext_some ?_ (by assumption) | refine Xt.Nw.setCell ?_ (by simp [go_sem] <;> omega) _))
  have hf2 : Fr w W2 ⟨4, a, b, c, d, e, f⟩ := by rw [hW2]; exact Fr.made w 4 a b c d e f
  have HF2 := Lib.hid hf2
  have HN2 := Lib.hid hn2
  have HW2 := Lib.hid hW2
  haveI : In gm w := ⟨im⟩
  clear hn2 hW2 hf2
  go_enter Tryz.func9, Tryz.ntmps9
  go_wp2_with fail
  rw [← HW2.out]
  refine (HR.out W2 HN2.out).mono ?_
  rintro r W3 ⟨rfl, hn3⟩
  have hn : Nw w W3 := HN2.out.trans hn3
  have h3 := H.out.nw hn
  obtain ⟨ct, m2⟩ := h3.m2
  have m1 : W3.cell? ⟨gm, 16, none⟩ = some (.pointer (some ⟨gp, 0, none⟩)) := h3.m1
  obtain ⟨c0, c1, c2, c3, c4⟩ := (h3.th : RThR W3 gt s.th).cells HT.out
  have y0 : W3.frozen? ⟨gt, t * 5, none⟩ = false := (h3.th : RThR W3 gt s.th).frozen _
  have y1 : W3.frozen? ⟨gt, t * 5 + 1, none⟩ = false := (h3.th : RThR W3 gt s.th).frozen _
  have y2 : W3.frozen? ⟨gt, t * 5 + 2, none⟩ = false := (h3.th : RThR W3 gt s.th).frozen _
  have y3 : W3.frozen? ⟨gt, t * 5 + 3, none⟩ = false := (h3.th : RThR W3 gt s.th).frozen _
  have y4 : W3.frozen? ⟨gt, t * 5 + 3 + 1, none⟩ = false := (h3.th : RThR W3 gt s.th).frozen _
  have HF3 := Lib.hid (HF2.out.nw hn3)
  obtain ⟨hs3, q0, q1, q2, q3, q4, q5, q6, r0, r1, r2, r3, r4, z0, z1, z2, z3, z4⟩ := HF2.out.nw hn3
  have im3 : gm < W3.heap.size := h3.im
  have it3 : gt < W3.heap.size := h3.it
  have HN3 := Lib.hid hn
  have HS3 := Lib.hid hs3
  have H3 := Lib.hid h3
  have ne1 : gt ≠ w.heap.size := Nat.ne_of_lt it
  have ne2 : gt ≠ w.heap.size + 1 := by omega
  haveI : In gm W3 := ⟨im3⟩
  haveI : In gt W3 := ⟨it3⟩
  haveI : In w.heap.size W3 := ⟨by omega⟩
  haveI : In (w.heap.size + 1) W3 := ⟨hs3⟩
  have t1 : (t : Int) < (s.th.length : Int) := by omega
  have t0 : (0 : Int) ≤ (t : Int) := by omega
  simp only at m2 q0 q1 q2 q3 q4 q5 q6
  clear hn h3 hn3 hs3 HR
  obtain ⟨W4, hW4⟩ : ∃ W4, W4 = (W3.alloc (.cells #[.int .i64 0, .bool false, .int .u64 0, .int .u64 0, .int .i64 0] 42)).alloc (.cells #[.int .u64 a, .int .u64 b] 71) := ⟨_, rfl⟩
  have hn4 : Nw W3 W4 := by rw [hW4]; exact (by repeat (first | exact Xt.Nw.refl _ | refine Xt.Nw.drew ?_ | refine Xt.Nw.drewN ?_ _ | refine Xt.Nw.alloc ?_ _ | refine Xt.Nw.joined ?_ | refine Xt.Nw.drewd ?_ | refine Xt.Nw.drewdN ?_ | refine Xt.Nw.ext ?_ | refine Xt.Nw.ext_some ?_ (by assumption) | refine Xt.Nw.setCell ?_ (by simp [go_sem] <;> omega) _))
  have v0 : W4.cell? ⟨W3.heap.size, 0, none⟩ = some (.int .i64 0) := by rw [hW4]; simp [go_sem]
  have v1 : W4.cell? ⟨W3.heap.size, 1, none⟩ = some (.bool false) := by rw [hW4]; simp [go_sem]
  have v2 : W4.cell? ⟨W3.heap.size, 2, none⟩ = some (.int .u64 0) := by rw [hW4]; simp [go_sem]
  have v3 : W4.cell? ⟨W3.heap.size, 3, none⟩ = some (.int .u64 0) := by rw [hW4]; simp [go_sem]
  have v4 : W4.cell? ⟨W3.heap.size, 4, none⟩ = some (.int .i64 0) := by rw [hW4]; simp [go_sem]
  have g1 := cell_nw m1 hn4
  have g2 := cell_nw q1 hn4
  have HB4 := Lib.hid (show W3.heap.size < W4.heap.size by rw [hW4]; simp [go_sem])
  have xz1 := Lib.hid (show W4.frozen? ⟨W3.heap.size, 1, none⟩ = false by rw [hW4]; simp [go_sem])
  have xz3 := Lib.hid (show W4.frozen? ⟨W3.heap.size, 3, none⟩ = false by rw [hW4]; simp [go_sem])
  have HW4 := Lib.hid hW4
  have HN4 := Lib.hid hn4
  clear hW4 hn4
  have g3 := cell_nw q3 HN4.out
  have hmf : gm ∉ foot gp v := fun e => by
    rcases mem_foot.1 e with e | e
    · exact H3.out.nmp e
    · exact H3.out.nmv e
  have hff : ∀ g, g ∈ foot gp v → g < w.heap.size := fun g hg => H.out.lt (by simp [Pl.foot, hg])
  have hwf : w.heap.size ∉ foot gp v := fun e => Nat.lt_irrefl _ (hff _ e)
  have hwf1 : w.heap.size + 1 ∉ foot gp v := fun e => by have := hff _ e; omega
  have h3f : W3.heap.size ∉ foot gp v := fun e => by have := hff _ e; have := HS3.out; omega
  have nb0 : gm ∉ [W3.heap.size] := by simp; omega
  have nb1 : w.heap.size ∉ [W3.heap.size] := by have := HS3.out; simp; omega
  clear hff
  go_upto_region 19 with (fail)
  rw [← HW4.out]
  go_region_held3 (fun w' => w'.cell? ⟨gm, 16, none⟩ = some (.pointer (some ⟨gp, 0, none⟩)) ∧ w'.cell? ⟨w.heap.size, 1, none⟩ = some (.int .u64 a) ∧ w'.cell? ⟨w.heap.size, 3, none⟩ = some (.int .u64 c)) (first | exact ⟨g1, g2, g3⟩ | exact ⟨cell_nw g1 (Nw.drew (Nw.refl _)), cell_nw g2 (Nw.drew (Nw.refl _)), cell_nw g3 (Nw.drew (Nw.refl _))⟩ | exact ⟨hchu.cell g1 hmf, hchu.cell g2 hwf, hchu.cell g3 hwf⟩ | exact ⟨(Chg.set1 W5 W3.heap.size 3 _).cell (hchu.cell g1 hmf) nb0, (Chg.set1 W5 W3.heap.size 3 _).cell (hchu.cell g2 hwf) nb1, (Chg.set1 W5 W3.heap.size 3 _).cell (hchu.cell g3 hwf) nb1⟩ | exact ⟨((Chg.set1 W5 W3.heap.size 3 _).set2 1 _).cell (hchu.cell g1 hmf) nb0, ((Chg.set1 W5 W3.heap.size 3 _).set2 1 _).cell (hchu.cell g2 hwf) nb1, ((Chg.set1 W5 W3.heap.size 3 _).set2 1 _).cell (hchu.cell g3 hwf) nb1⟩)
    ((first | (go_at_call 23; refine (HG.out W4.drew (Nw.drew (HN3.out.trans HN4.out))).mono ?_; rintro e W5 ⟨rfl, v', hu⟩; have hchu : Chg (foot gp v) W4 W5 := ((Chg.of_nw (Nw.drew (Nw.refl W4)) : Chg [] W4 W4.drew).wide (by simp)).trans hu.chg; replace v0 := hchu.cell v0 h3f; replace v1 := hchu.cell v1 h3f; replace v2 := hchu.cell v2 h3f; replace v3 := hchu.cell v3 h3f; replace v4 := hchu.cell v4 h3f; have x1 := (hchu.frozen (i := 1) HB4.out h3f).trans xz1.out; have x3 := (hchu.frozen (i := 3) HB4.out h3f).trans xz3.out; haveI : In W3.heap.size W5 := ⟨Nat.lt_of_lt_of_le HB4.out hchu.size⟩; have HU := Lib.hid hu; clear hu)))
  obtain ⟨hs5, -, -, -, -, -, -, -, r0, r1, r2, r3, r4, z0, z1, z2, z3, z4⟩ := (HF3.out.nw HN4.out).chg hchu hwf hwf1
  haveI : In (w.heap.size + 1) W5 := ⟨hs5⟩
  haveI : In gm W5 := ⟨Nat.lt_of_lt_of_le im3 (Nat.le_trans HN4.out.grown.size hchu.size)⟩
  have ne5 : w.heap.size + 1 ≠ W3.heap.size := by have := HS3.out; omega
  have hmu := RMUp.after (HN4.out.trans (Nw.drew (Nw.refl W4))) (RMUp.map (H3.out.nw (HN4.out.trans (Nw.drew (Nw.refl W4)))) HU.out)
  have hmv : ∀ g ∈ (⟨gm, gt, gp, v'⟩ : Pl).foot, g ∉ [W3.heap.size] := fun g hg hx => by
    simp at hx; subst hx
    rcases (RMUp.map (H3.out.nw (HN4.out.trans (Nw.drew (Nw.refl W4)))) HU.out).mv _ hg with h1 | h1
    · have := H3.out.lt h1; omega
    · have : W4.heap.size ≤ W3.heap.size := h1
      have := HB4.out; omega
  have hu2 := hmu.new ((Chg.set1 W5 W3.heap.size 3 (.int .u64 y)).set2 1 (.bool bb)) (fun g hg => by simp at hg; omega) hmv
  have HU2 := Lib.hid hu2
  clear hmu hmv hu2 hchu
  go_wp2
  refine bodyPost_ret (v := res5 0 bb 0 y 0) ?_ rfl ⟨rfl, _, RMUp.res HN3.out (Nat.le_succ _) HS3.out H.out HU2.out ⟨0, bb, 0, y, 0⟩⟩
  simp [results, Tryz.results9, go_sem, r0, r1, r2, r3, r4]
set_option maxRecDepth 20000 in
set_option maxHeartbeats 8000000 in
theorem rdo_k5 (w : World) (p : Pl) (cf : Cf) (s : Md) (h : RAt w p cf s) (t : Nat) (x : Th) (ht : s.th[t]? = some x) (a b c d e f : Int) (hw : Ox.Wf ⟨5, a, b, c, d, e, f⟩) (hr : refM s t ⟨5, a, b, c, d, e, f⟩ = 0) (hl : s.l.length ≤ 500000) :
    Calls Tryz.prog 9 #[.pointer (some ⟨p.gm, 0, none⟩), .int .i64 t, opV ⟨5, a, b, c, d, e, f⟩] w fun q w' => q = .returned (resV ⟨0, hasK a s.l, 0, valL a s.l, 0⟩) ∧ ∃ p', RMUp w p cf { s with l := addL a c s.l } p' w' := by
  have HR := Lib.hid (fun W (hn : Nw w W) => rrefusal_any W p cf s (h.nw hn) t ⟨5, a, b, c, d, e, f⟩ hw)
  have H := Lib.hid h
  have HT := Lib.hid ht
  obtain ⟨p0, _⟩ := List.getElem?_eq_some_iff.1 ht
  have im := h.im
  have it := h.it
  rw [hr] at HR
  have HG := Lib.hid (fun W (hn : Nw w W) => radd_om (h.nw hn).om (by omega) a c)
  obtain ⟨y, hy⟩ : ∃ y, y = valL a s.l := ⟨_, rfl⟩
  obtain ⟨bb, hb⟩ : ∃ y, y = hasK a s.l := ⟨_, rfl⟩
  obtain ⟨L, hL⟩ : ∃ y, y = addL a c s.l := ⟨_, rfl⟩
  rw [← hy, ← hb, ← hL] at HG
  rw [← hy, ← hb, ← hL]
  clear hy hb hL
  obtain ⟨gm, gt, gp, v⟩ := p
  unfold opV at HR ⊢
  unfold resV
  simp only at HR HG im it ⊢
  clear h hr hw ht
  obtain ⟨W2, hW2⟩ : ∃ W2, W2 = (w.alloc (.cells #[.int .u8 5, .int .u64 a, .int .u64 b, .int .u64 c, .int .u64 d, .int .u64 e, .int .u64 f] 45)).alloc (.cells #[.int .i64 0, .bool false, .int .u64 0, .int .u64 0, .int .i64 0] 42) := ⟨_, rfl⟩
  have hn2 : Nw w W2 := by rw [hW2]; exact (by repeat (first | exact Xt.Nw.refl _ | refine Xt.Nw.drew ?_ | refine Xt.Nw.drewN ?_ _ | refine Xt.Nw.alloc ?_ _ | refine Xt.Nw.joined ?_ | refine Xt.Nw.drewd ?_ | refine Xt.Nw.drewdN ?_ | refine Xt.Nw.ext ?_ | refine Xt.Nw.ext_some ?_ (by assumption) | refine Xt.Nw.setCell ?_ (by simp [go_sem] <;> omega) _))
  have hf2 : Fr w W2 ⟨5, a, b, c, d, e, f⟩ := by rw [hW2]; exact Fr.made w 5 a b c d e f
  have HF2 := Lib.hid hf2
  have HN2 := Lib.hid hn2
  have HW2 := Lib.hid hW2
  haveI : In gm w := ⟨im⟩
  clear hn2 hW2 hf2
  go_enter Tryz.func9, Tryz.ntmps9
  go_wp2_with fail
  rw [← HW2.out]
  refine (HR.out W2 HN2.out).mono ?_
  rintro r W3 ⟨rfl, hn3⟩
  have hn : Nw w W3 := HN2.out.trans hn3
  have h3 := H.out.nw hn
  obtain ⟨ct, m2⟩ := h3.m2
  have m1 : W3.cell? ⟨gm, 16, none⟩ = some (.pointer (some ⟨gp, 0, none⟩)) := h3.m1
  obtain ⟨c0, c1, c2, c3, c4⟩ := (h3.th : RThR W3 gt s.th).cells HT.out
  have y0 : W3.frozen? ⟨gt, t * 5, none⟩ = false := (h3.th : RThR W3 gt s.th).frozen _
  have y1 : W3.frozen? ⟨gt, t * 5 + 1, none⟩ = false := (h3.th : RThR W3 gt s.th).frozen _
  have y2 : W3.frozen? ⟨gt, t * 5 + 2, none⟩ = false := (h3.th : RThR W3 gt s.th).frozen _
  have y3 : W3.frozen? ⟨gt, t * 5 + 3, none⟩ = false := (h3.th : RThR W3 gt s.th).frozen _
  have y4 : W3.frozen? ⟨gt, t * 5 + 3 + 1, none⟩ = false := (h3.th : RThR W3 gt s.th).frozen _
  have HF3 := Lib.hid (HF2.out.nw hn3)
  obtain ⟨hs3, q0, q1, q2, q3, q4, q5, q6, r0, r1, r2, r3, r4, z0, z1, z2, z3, z4⟩ := HF2.out.nw hn3
  have im3 : gm < W3.heap.size := h3.im
  have it3 : gt < W3.heap.size := h3.it
  have HN3 := Lib.hid hn
  have HS3 := Lib.hid hs3
  have H3 := Lib.hid h3
  have ne1 : gt ≠ w.heap.size := Nat.ne_of_lt it
  have ne2 : gt ≠ w.heap.size + 1 := by omega
  haveI : In gm W3 := ⟨im3⟩
  haveI : In gt W3 := ⟨it3⟩
  haveI : In w.heap.size W3 := ⟨by omega⟩
  haveI : In (w.heap.size + 1) W3 := ⟨hs3⟩
  have t1 : (t : Int) < (s.th.length : Int) := by omega
  have t0 : (0 : Int) ≤ (t : Int) := by omega
  simp only at m2 q0 q1 q2 q3 q4 q5 q6
  clear hn h3 hn3 hs3 HR
  obtain ⟨W4, hW4⟩ : ∃ W4, W4 = (W3.alloc (.cells #[.int .i64 0, .bool false, .int .u64 0, .int .u64 0, .int .i64 0] 42)).alloc (.cells #[.int .u64 a, .int .u64 b] 71) := ⟨_, rfl⟩
  have hn4 : Nw W3 W4 := by rw [hW4]; exact (by repeat (first | exact Xt.Nw.refl _ | refine Xt.Nw.drew ?_ | refine Xt.Nw.drewN ?_ _ | refine Xt.Nw.alloc ?_ _ | refine Xt.Nw.joined ?_ | refine Xt.Nw.drewd ?_ | refine Xt.Nw.drewdN ?_ | refine Xt.Nw.ext ?_ | refine Xt.Nw.ext_some ?_ (by assumption) | refine Xt.Nw.setCell ?_ (by simp [go_sem] <;> omega) _))
  have v0 : W4.cell? ⟨W3.heap.size, 0, none⟩ = some (.int .i64 0) := by rw [hW4]; simp [go_sem]
  have v1 : W4.cell? ⟨W3.heap.size, 1, none⟩ = some (.bool false) := by rw [hW4]; simp [go_sem]
  have v2 : W4.cell? ⟨W3.heap.size, 2, none⟩ = some (.int .u64 0) := by rw [hW4]; simp [go_sem]
  have v3 : W4.cell? ⟨W3.heap.size, 3, none⟩ = some (.int .u64 0) := by rw [hW4]; simp [go_sem]
  have v4 : W4.cell? ⟨W3.heap.size, 4, none⟩ = some (.int .i64 0) := by rw [hW4]; simp [go_sem]
  have g1 := cell_nw m1 hn4
  have g2 := cell_nw q1 hn4
  have HB4 := Lib.hid (show W3.heap.size < W4.heap.size by rw [hW4]; simp [go_sem])
  have xz1 := Lib.hid (show W4.frozen? ⟨W3.heap.size, 1, none⟩ = false by rw [hW4]; simp [go_sem])
  have xz3 := Lib.hid (show W4.frozen? ⟨W3.heap.size, 3, none⟩ = false by rw [hW4]; simp [go_sem])
  have HW4 := Lib.hid hW4
  have HN4 := Lib.hid hn4
  clear hW4 hn4
  have g3 := cell_nw q3 HN4.out
  have hmf : gm ∉ foot gp v := fun e => by
    rcases mem_foot.1 e with e | e
    · exact H3.out.nmp e
    · exact H3.out.nmv e
  have hff : ∀ g, g ∈ foot gp v → g < w.heap.size := fun g hg => H.out.lt (by simp [Pl.foot, hg])
  have hwf : w.heap.size ∉ foot gp v := fun e => Nat.lt_irrefl _ (hff _ e)
  have hwf1 : w.heap.size + 1 ∉ foot gp v := fun e => by have := hff _ e; omega
  have h3f : W3.heap.size ∉ foot gp v := fun e => by have := hff _ e; have := HS3.out; omega
  have nb0 : gm ∉ [W3.heap.size] := by simp; omega
  have nb1 : w.heap.size ∉ [W3.heap.size] := by have := HS3.out; simp; omega
  clear hff
  go_upto_region 21 with (fail)
  rw [← HW4.out]
  go_region_held3 (fun w' => w'.cell? ⟨gm, 16, none⟩ = some (.pointer (some ⟨gp, 0, none⟩)) ∧ w'.cell? ⟨w.heap.size, 1, none⟩ = some (.int .u64 a) ∧ w'.cell? ⟨w.heap.size, 3, none⟩ = some (.int .u64 c)) (first | exact ⟨g1, g2, g3⟩ | exact ⟨cell_nw g1 (Nw.drew (Nw.refl _)), cell_nw g2 (Nw.drew (Nw.refl _)), cell_nw g3 (Nw.drew (Nw.refl _))⟩ | exact ⟨hchu.cell g1 hmf, hchu.cell g2 hwf, hchu.cell g3 hwf⟩ | exact ⟨(Chg.set1 W5 W3.heap.size 3 _).cell (hchu.cell g1 hmf) nb0, (Chg.set1 W5 W3.heap.size 3 _).cell (hchu.cell g2 hwf) nb1, (Chg.set1 W5 W3.heap.size 3 _).cell (hchu.cell g3 hwf) nb1⟩ | exact ⟨((Chg.set1 W5 W3.heap.size 3 _).set2 1 _).cell (hchu.cell g1 hmf) nb0, ((Chg.set1 W5 W3.heap.size 3 _).set2 1 _).cell (hchu.cell g2 hwf) nb1, ((Chg.set1 W5 W3.heap.size 3 _).set2 1 _).cell (hchu.cell g3 hwf) nb1⟩)
    ((first | (go_at_call 24; refine (HG.out W4.drew (Nw.drew (HN3.out.trans HN4.out))).mono ?_; rintro e W5 ⟨rfl, v', hu⟩; have hchu : Chg (foot gp v) W4 W5 := ((Chg.of_nw (Nw.drew (Nw.refl W4)) : Chg [] W4 W4.drew).wide (by simp)).trans hu.chg; replace v0 := hchu.cell v0 h3f; replace v1 := hchu.cell v1 h3f; replace v2 := hchu.cell v2 h3f; replace v3 := hchu.cell v3 h3f; replace v4 := hchu.cell v4 h3f; have x1 := (hchu.frozen (i := 1) HB4.out h3f).trans xz1.out; have x3 := (hchu.frozen (i := 3) HB4.out h3f).trans xz3.out; haveI : In W3.heap.size W5 := ⟨Nat.lt_of_lt_of_le HB4.out hchu.size⟩; have HU := Lib.hid hu; clear hu)))
  obtain ⟨hs5, -, -, -, -, -, -, -, r0, r1, r2, r3, r4, z0, z1, z2, z3, z4⟩ := (HF3.out.nw HN4.out).chg hchu hwf hwf1
  haveI : In (w.heap.size + 1) W5 := ⟨hs5⟩
  haveI : In gm W5 := ⟨Nat.lt_of_lt_of_le im3 (Nat.le_trans HN4.out.grown.size hchu.size)⟩
  have ne5 : w.heap.size + 1 ≠ W3.heap.size := by have := HS3.out; omega
  have hmu := RMUp.after (HN4.out.trans (Nw.drew (Nw.refl W4))) (RMUp.map (H3.out.nw (HN4.out.trans (Nw.drew (Nw.refl W4)))) HU.out)
  have hmv : ∀ g ∈ (⟨gm, gt, gp, v'⟩ : Pl).foot, g ∉ [W3.heap.size] := fun g hg hx => by
    simp at hx; subst hx
    rcases (RMUp.map (H3.out.nw (HN4.out.trans (Nw.drew (Nw.refl W4)))) HU.out).mv _ hg with h1 | h1
    · have := H3.out.lt h1; omega
    · have : W4.heap.size ≤ W3.heap.size := h1
      have := HB4.out; omega
  have hu2 := hmu.new ((Chg.set1 W5 W3.heap.size 3 (.int .u64 y)).set2 1 (.bool bb)) (fun g hg => by simp at hg; omega) hmv
  have HU2 := Lib.hid hu2
  clear hmu hmv hu2 hchu
  go_wp2
  refine bodyPost_ret (v := res5 0 bb 0 y 0) ?_ rfl ⟨rfl, _, RMUp.res HN3.out (Nat.le_succ _) HS3.out H.out HU2.out ⟨0, bb, 0, y, 0⟩⟩
  simp [results, Tryz.results9, go_sem, r0, r1, r2, r3, r4]
end Go.Proofs.YtahagplegmcaaaaGreatDoor
