import Derived.Test.YtahagplegmcaaaaGreatDoorGVr
set_option linter.unusedVariables false
set_option linter.unusedSimpArgs false
set_option linter.unnecessarySimpa false
namespace Go.Proofs.YtahagplegmcaaaaGreatDoor
open Go.RowKit Go.Xt
/-! The reference's model: next; Do of kind 12. -/
theorem Th.after_in {x : Th} {k : Int} (hm : x.mo = true) (h1 : x.lo ≤ k) (h2 : k ≤ x.hi) (h3 : x.hi < 18446744073709551616) : x.after k = if x.hi ≤ k then x.fin else { x with lo := k + 1 } := by
  unfold Th.after Th.from_
  by_cases hk : k = 18446744073709551615
  · rw [if_pos hk, if_pos (by omega)]
  · rw [if_neg hk]
    by_cases hh : x.hi ≤ k
    · rw [if_pos hh, if_neg (by rintro ⟨_, h⟩; omega)]
    · rw [if_neg hh, if_pos ⟨hm, by omega⟩]
      congr 1; omega
theorem Th.from_in {x : Th} {k : Int} (hm : x.mo = true) (h1 : x.lo ≤ k) : x.from_ k = if x.hi < k then x.fin else { x with lo := k } := by
  unfold Th.from_
  by_cases hh : x.hi < k
  · rw [if_pos hh, if_neg (by rintro ⟨_, h⟩; omega)]
  · rw [if_neg hh, if_pos ⟨hm, by omega⟩]
    congr 1; omega
set_option maxRecDepth 20000 in
set_option maxHeartbeats 8000000 in
theorem rnext0 (w : World) (p : Pl) (cf : Cf) (s : Md) (h : RAt w p cf s) (t : Nat) (x : Th) (ht : s.th[t]? = some x) (hl : s.l.length ≤ 500000) (hlx : x.lo ≤ x.hi) (hx : nextL x.lo x.hi s.l = none) :
    Calls Tryz.prog 29 #[.pointer (some ⟨p.gm, 0, none⟩), .pointer (some ⟨p.gt, t * 5, none⟩)] w fun q w' => q = .returned (resV ⟨14, false, 0, 0, 0⟩) ∧ ∃ p', RMUp w p cf { s with th := s.th.set t x.fin } p' w' := by
  have HS := Lib.hid (fun W (hw : Nw w W) => show Calls Tryz.prog 68 #[.pointer (some ⟨p.gp, 0, none⟩), spV x.lo x.hi] W fun e w' => e = .returned (.tuple #[spV 0 0, .bool false, .int .i64 0]) ∧ Nw W w' by
    have h1 := rnext_om (h.nw hw).om (by omega) x.lo x.hi hlx
    rw [hx] at h1
    exact h1)
  obtain ⟨gm, gt, gp, v⟩ := p
  obtain ⟨p0, _⟩ := List.getElem?_eq_some_iff.1 ht
  obtain ⟨c0, c1, c2, c3, c4⟩ := RThR.cells (gt := gt) h.th ht
  have m1 : w.cell? ⟨gm, 16, none⟩ = some (.pointer (some ⟨gp, 0, none⟩)) := h.m1
  have it : gt < w.heap.size := h.it
  haveI : In gm w := ⟨h.im⟩
  haveI : In gt w := ⟨h.it⟩
  have H := Lib.hid h
  have HT := Lib.hid ht
  have HTH := Lib.hid (h.th : RThR w gt s.th)
  have HLEN := Lib.hid (fun y : Th => (List.length_set .. : (s.th.set t y).length = s.th.length))
  unfold resV
  simp only
  unfold spV at HS
  simp only at HS
  obtain ⟨lo, hlo⟩ : ∃ z, z = x.lo := ⟨_, rfl⟩
  obtain ⟨hi, hhi'⟩ : ∃ z, z = x.hi := ⟨_, rfl⟩
  rw [← hlo, ← hhi'] at HS
  rw [← hlo] at c3
  rw [← hhi'] at c4
  obtain ⟨W2, hW2⟩ : ∃ W2, W2 = w.alloc (.cells #[.int .i64 0, .bool false, .int .u64 0, .int .u64 0, .int .i64 0] 42) := ⟨_, rfl⟩
  have hn2 : Nw w W2 := by rw [hW2]; exact (by repeat (first | exact Xt.Nw.refl _ | refine Xt.Nw.drew ?_ | refine Xt.Nw.drewN ?_ _ | refine Xt.Nw.alloc ?_ _ | refine Xt.Nw.joined ?_ | refine Xt.Nw.drewd ?_ | refine Xt.Nw.drewdN ?_ | refine Xt.Nw.ext ?_ | refine Xt.Nw.ext_some ?_ (by assumption) | refine Xt.Nw.setCell ?_ (by simp [go_sem] <;> omega) _))
  have r0 : W2.cell? ⟨w.heap.size, 0, none⟩ = some (.int .i64 0) := by rw [hW2]; simp [go_sem]
  have r1 : W2.cell? ⟨w.heap.size, 1, none⟩ = some (.bool false) := by rw [hW2]; simp [go_sem]
  have r2 : W2.cell? ⟨w.heap.size, 2, none⟩ = some (.int .u64 0) := by rw [hW2]; simp [go_sem]
  have r3 : W2.cell? ⟨w.heap.size, 3, none⟩ = some (.int .u64 0) := by rw [hW2]; simp [go_sem]
  have r4 : W2.cell? ⟨w.heap.size, 4, none⟩ = some (.int .i64 0) := by rw [hW2]; simp [go_sem]
  have rz : ∀ j, W2.frozen? ⟨w.heap.size, j, none⟩ = false := fun j => by rw [hW2]; simp [go_sem]
  have HRZ := Lib.hid rz
  have HN2 := Lib.hid hn2
  have HW2 := Lib.hid hW2
  have HS2 := Lib.hid (World.block_lt_of_cell? W2 _ r0)
  replace m1 := cell_nw m1 hn2
  replace c2 := cell_nw c2 hn2
  replace c3 := cell_nw c3 hn2
  replace c4 := cell_nw c4 hn2
  have HLX := Lib.hid hlx
  skip
  clear h ht hW2 hn2 c0 c1 hx hl hlx hlo hhi' rz 
  haveI : In gm W2 := ⟨World.block_lt_of_cell? W2 _ m1⟩
  haveI : In gt W2 := ⟨World.block_lt_of_cell? W2 _ c2⟩
  have HA := Lib.hid (show (W2.alloc (.cells #[.int .u64 0, .int .u64 0] 106)).drew.cell? ⟨W2.heap.size, 0, none⟩ = some (.int .u64 0) ∧ (W2.alloc (.cells #[.int .u64 0, .int .u64 0] 106)).drew.cell? ⟨W2.heap.size, 1, none⟩ = some (.int .u64 0) ∧ (W2.alloc (.cells #[.int .u64 0, .int .u64 0] 106)).drew.frozen? ⟨W2.heap.size, 0, none⟩ = false ∧ (W2.alloc (.cells #[.int .u64 0, .int .u64 0] 106)).drew.frozen? ⟨W2.heap.size, 1, none⟩ = false ∧ W2.heap.size < (W2.alloc (.cells #[.int .u64 0, .int .u64 0] 106)).drew.heap.size from ⟨by simp [go_sem], by simp [go_sem], by simp [go_sem], by simp [go_sem], by simp⟩)
  go_enter Tryz.func29, Tryz.ntmps29
  go_upto_region 1 with (fail)
  rw [← HW2.out]
  go_region_held3 (fun w' => w'.cell? ⟨gm, 16, none⟩ = some (.pointer (some ⟨gp, 0, none⟩)) ∧ w'.cell? ⟨gt, t * 5 + 3, none⟩ = some (.int .u64 lo) ∧ w'.cell? ⟨gt, t * 5 + 3 + 1, none⟩ = some (.int .u64 hi)) (first | exact ⟨m1, c3, c4⟩ | exact ⟨cell_nw m1 hnk, cell_nw c3 hnk, cell_nw c4 hnk⟩ | exact ⟨cell_nw m1 (Xt.Nw.alloc hnk _), cell_nw c3 (Xt.Nw.alloc hnk _), cell_nw c4 (Xt.Nw.alloc hnk _)⟩ | exact ⟨cell_nw m1 (Xt.Nw.setCell (Xt.Nw.setCell hnk (Nat.le_refl _) _) (Nat.le_refl _) _), cell_nw c3 (Xt.Nw.setCell (Xt.Nw.setCell hnk (Nat.le_refl _) _) (Nat.le_refl _) _), cell_nw c4 (Xt.Nw.setCell (Xt.Nw.setCell hnk (Nat.le_refl _) _) (Nat.le_refl _) _)⟩ | exact ⟨cell_nw m1 (Xt.Nw.alloc (Nw.refl W2) _), cell_nw c3 (Xt.Nw.alloc (Nw.refl W2) _), cell_nw c4 (Xt.Nw.alloc (Nw.refl W2) _)⟩ | exact ⟨cell_nw m1 (Xt.Nw.drew (Xt.Nw.alloc (Nw.refl W2) _)), cell_nw c3 (Xt.Nw.drew (Xt.Nw.alloc (Nw.refl W2) _)), cell_nw c4 (Xt.Nw.drew (Xt.Nw.alloc (Nw.refl W2) _))⟩)
    ((first | (go_at_call 68; refine (HS.out W2.drew (Nw.drew HN2.out)).mono ?_; rintro r Wk ⟨rfl, hnk0⟩; have hnk : Nw W2 Wk := (Nw.drew (Nw.refl W2)).trans hnk0) | (go_at_call 68; refine (HS.out ((W2.alloc (.cells #[.int .u64 0, .int .u64 0] 106)).drew) (Nw.drew (Nw.alloc HN2.out _))).mono ?_; rintro r Wk ⟨rfl, hnk0⟩; have hnk : Nw W2 Wk := (Nw.drew (Nw.alloc (Nw.refl W2) _)).trans hnk0; have g0 := cell_nw HA.out.1 hnk0; have g1 := cell_nw HA.out.2.1 hnk0; have g2 := (frozen_nw HA.out.2.2.2.2 hnk0).trans HA.out.2.2.1; have g3 := (frozen_nw HA.out.2.2.2.2 hnk0).trans HA.out.2.2.2.1)))
  · skip
    rename_i hHeld
    clear hHeld
    obtain ⟨W3, hW3⟩ : ∃ W3, W3 = Wk.alloc (.cells #[.int .u64 0, .int .u64 0] 106) := ⟨_, rfl⟩
    rw [← hW3]
    have hn3 : Nw W2 W3 := by rw [hW3]; exact Xt.Nw.alloc hnk _
    obtain ⟨g, hg⟩ : ∃ g, g = Wk.heap.size := ⟨_, rfl⟩
    rw [← hg]
    have hgs := hnk.grown.size
    have hs2 := HS2.out
    have hxg : g ∉ [gt] := by simp; have := HN2.out.grown.size; omega
    have hxr : w.heap.size ∉ [gt] := by simp; omega
    have e0 : W3.cell? ⟨g, 0, none⟩ = some (.int .u64 0) := by rw [hW3, hg]; simp [go_sem]
    have e1 : W3.cell? ⟨g, 1, none⟩ = some (.int .u64 0) := by rw [hW3, hg]; simp [go_sem]
    skip
    replace r0 := cell_nw r0 hn3
    replace r1 := cell_nw r1 hn3
    replace r2 := cell_nw r2 hn3
    replace r3 := cell_nw r3 hn3
    replace r4 := cell_nw r4 hn3
    have rz3 : ∀ j, W3.frozen? ⟨w.heap.size, j, none⟩ = false := fun j => (frozen_nw HS2.out hn3).trans (HRZ.out j)
    have h3 := H.out.nw (HN2.out.trans hn3)
    have H3 := Lib.hid h3
    have HN3 := Lib.hid hn3
    have HS3 := Lib.hid (World.block_lt_of_cell? W3 _ r0)
    haveI : In w.heap.size W3 := ⟨HS3.out⟩
    haveI : In g W3 := ⟨World.block_lt_of_cell? W3 _ e0⟩
    haveI : In gt W3 := ⟨h3.it⟩
    obtain ⟨-, -, c2, c3, c4⟩ := RThR.cells (gt := gt) h3.th HT.out
    have y2 : W3.frozen? ⟨gt, t * 5 + 2, none⟩ = false := (h3.th : RThR W3 gt s.th).frozen _
    have y3 : W3.frozen? ⟨gt, t * 5 + 3, none⟩ = false := (h3.th : RThR W3 gt s.th).frozen _
    have y4 : W3.frozen? ⟨gt, t * 5 + 3 + 1, none⟩ = false := (h3.th : RThR W3 gt s.th).frozen _
    have f0 := rz3 0
    have f1 := rz3 1
    have f2 := rz3 2
    have f3 := rz3 3
    have f4 := rz3 4
    have ne1 : gt ≠ w.heap.size := by omega
    clear hgs hW3 hg hnk hnk0 hs2 h3 rz3 hn3 e0 e1
    go_wp2
    have hu : RMUp W3 ⟨gm, gt, gp, v⟩ cf { s with th := s.th.set t x.fin } ⟨gm, gt, gp, v⟩ _ := RMUp.ths H3.out (HLEN.out _) (RThR.fin H3.out.th HT.out) (((Chg.set1 W3 gt _ _).set2 _ _).set2 _ _)
    refine bodyPost_ret (v := res5 14 false 0 0 0) ?_ rfl ⟨rfl, _, RMUp.res (HN2.out.trans HN3.out) (Nat.le_refl _) HS3.out H.out hu ⟨14, false, 0, 0, 0⟩⟩
    simp [results, Tryz.results29, go_sem, r0, r1, r2, r3, r4]
  · skip
    rename_i hHeld
    clear hHeld
    obtain ⟨W3, hW3⟩ : ∃ W3, W3 = (Wk.setCell ⟨W2.heap.size, 0, none⟩ (.int .u64 0)).setCell ⟨W2.heap.size, 1, none⟩ (.int .u64 0) := ⟨_, rfl⟩
    rw [← hW3]
    have hn3 : Nw W2 W3 := by rw [hW3]; exact Xt.Nw.setCell (Xt.Nw.setCell hnk (Nat.le_refl _) _) (Nat.le_refl _) _
    obtain ⟨g, hg⟩ : ∃ g, g = W2.heap.size := ⟨_, rfl⟩
    rw [← hg]
    have hgs := hnk.grown.size
    have hs2 := HS2.out
    have hxg : g ∉ [gt] := by simp; have := HN2.out.grown.size; omega
    have hxr : w.heap.size ∉ [gt] := by simp; omega
    have e0 : W3.cell? ⟨g, 0, none⟩ = some (.int .u64 0) := by rw [hW3, hg]; simp [go_sem, g0, g1]
    have e1 : W3.cell? ⟨g, 1, none⟩ = some (.int .u64 0) := by rw [hW3, hg]; simp [go_sem, g0, g1]
    clear g0 g1 g2 g3
    replace r0 := cell_nw r0 hn3
    replace r1 := cell_nw r1 hn3
    replace r2 := cell_nw r2 hn3
    replace r3 := cell_nw r3 hn3
    replace r4 := cell_nw r4 hn3
    have rz3 : ∀ j, W3.frozen? ⟨w.heap.size, j, none⟩ = false := fun j => (frozen_nw HS2.out hn3).trans (HRZ.out j)
    have h3 := H.out.nw (HN2.out.trans hn3)
    have H3 := Lib.hid h3
    have HN3 := Lib.hid hn3
    have HS3 := Lib.hid (World.block_lt_of_cell? W3 _ r0)
    haveI : In w.heap.size W3 := ⟨HS3.out⟩
    haveI : In g W3 := ⟨World.block_lt_of_cell? W3 _ e0⟩
    haveI : In gt W3 := ⟨h3.it⟩
    obtain ⟨-, -, c2, c3, c4⟩ := RThR.cells (gt := gt) h3.th HT.out
    have y2 : W3.frozen? ⟨gt, t * 5 + 2, none⟩ = false := (h3.th : RThR W3 gt s.th).frozen _
    have y3 : W3.frozen? ⟨gt, t * 5 + 3, none⟩ = false := (h3.th : RThR W3 gt s.th).frozen _
    have y4 : W3.frozen? ⟨gt, t * 5 + 3 + 1, none⟩ = false := (h3.th : RThR W3 gt s.th).frozen _
    have f0 := rz3 0
    have f1 := rz3 1
    have f2 := rz3 2
    have f3 := rz3 3
    have f4 := rz3 4
    have ne1 : gt ≠ w.heap.size := by omega
    clear hgs hW3 hg hnk hnk0 hs2 h3 rz3 hn3 e0 e1
    go_wp2
    have hu : RMUp W3 ⟨gm, gt, gp, v⟩ cf { s with th := s.th.set t x.fin } ⟨gm, gt, gp, v⟩ _ := RMUp.ths H3.out (HLEN.out _) (RThR.fin H3.out.th HT.out) (((Chg.set1 W3 gt _ _).set2 _ _).set2 _ _)
    refine bodyPost_ret (v := res5 14 false 0 0 0) ?_ rfl ⟨rfl, _, RMUp.res (HN2.out.trans HN3.out) (Nat.le_refl _) HS3.out H.out hu ⟨14, false, 0, 0, 0⟩⟩
    simp [results, Tryz.results29, go_sem, r0, r1, r2, r3, r4]
set_option maxRecDepth 20000 in
set_option maxHeartbeats 8000000 in
theorem rnext1 (w : World) (p : Pl) (cf : Cf) (s : Md) (h : RAt w p cf s) (t : Nat) (x : Th) (ht : s.th[t]? = some x) (hl : s.l.length ≤ 500000) (hlx : x.lo ≤ x.hi) (hmo : x.mo = true) (hhi : x.hi < 18446744073709551616) (k y : Int) (hk : 0 ≤ k ∧ x.lo ≤ k ∧ k ≤ x.hi) (hx : nextL x.lo x.hi s.l = some (k, y)) :
    Calls Tryz.prog 29 #[.pointer (some ⟨p.gm, 0, none⟩), .pointer (some ⟨p.gt, t * 5, none⟩)] w fun q w' => q = .returned (resV ⟨0, true, k, y, 0⟩) ∧ ∃ p', RMUp w p cf { s with th := s.th.set t (x.after k) } p' w' := by
  have HS := Lib.hid (fun W (hw : Nw w W) => show Calls Tryz.prog 68 #[.pointer (some ⟨p.gp, 0, none⟩), spV x.lo x.hi] W fun e w' => e = .returned (.tuple #[spV k y, .bool true, .int .i64 0]) ∧ Nw W w' by
    have h1 := rnext_om (h.nw hw).om (by omega) x.lo x.hi hlx
    rw [hx] at h1
    exact h1)
  obtain ⟨gm, gt, gp, v⟩ := p
  obtain ⟨p0, _⟩ := List.getElem?_eq_some_iff.1 ht
  obtain ⟨c0, c1, c2, c3, c4⟩ := RThR.cells (gt := gt) h.th ht
  have m1 : w.cell? ⟨gm, 16, none⟩ = some (.pointer (some ⟨gp, 0, none⟩)) := h.m1
  have it : gt < w.heap.size := h.it
  haveI : In gm w := ⟨h.im⟩
  haveI : In gt w := ⟨h.it⟩
  have H := Lib.hid h
  have HT := Lib.hid ht
  have HTH := Lib.hid (h.th : RThR w gt s.th)
  have HLEN := Lib.hid (fun y : Th => (List.length_set .. : (s.th.set t y).length = s.th.length))
  unfold resV
  simp only
  unfold spV at HS
  simp only at HS
  obtain ⟨lo, hlo⟩ : ∃ z, z = x.lo := ⟨_, rfl⟩
  obtain ⟨hi, hhi'⟩ : ∃ z, z = x.hi := ⟨_, rfl⟩
  rw [← hlo, ← hhi'] at HS
  rw [← hlo] at c3
  rw [← hhi'] at c4
  obtain ⟨W2, hW2⟩ : ∃ W2, W2 = w.alloc (.cells #[.int .i64 0, .bool false, .int .u64 0, .int .u64 0, .int .i64 0] 42) := ⟨_, rfl⟩
  have hn2 : Nw w W2 := by rw [hW2]; exact (by repeat (first | exact Xt.Nw.refl _ | refine Xt.Nw.drew ?_ | refine Xt.Nw.drewN ?_ _ | refine Xt.Nw.alloc ?_ _ | refine Xt.Nw.joined ?_ | refine Xt.Nw.drewd ?_ | refine Xt.Nw.drewdN ?_ | refine Xt.Nw.ext ?_ | refine Xt.Nw.ext_some ?_ (by assumption) | refine Xt.Nw.setCell ?_ (by simp [go_sem] <;> omega) _))
  have r0 : W2.cell? ⟨w.heap.size, 0, none⟩ = some (.int .i64 0) := by rw [hW2]; simp [go_sem]
  have r1 : W2.cell? ⟨w.heap.size, 1, none⟩ = some (.bool false) := by rw [hW2]; simp [go_sem]
  have r2 : W2.cell? ⟨w.heap.size, 2, none⟩ = some (.int .u64 0) := by rw [hW2]; simp [go_sem]
  have r3 : W2.cell? ⟨w.heap.size, 3, none⟩ = some (.int .u64 0) := by rw [hW2]; simp [go_sem]
  have r4 : W2.cell? ⟨w.heap.size, 4, none⟩ = some (.int .i64 0) := by rw [hW2]; simp [go_sem]
  have rz : ∀ j, W2.frozen? ⟨w.heap.size, j, none⟩ = false := fun j => by rw [hW2]; simp [go_sem]
  have HRZ := Lib.hid rz
  have HN2 := Lib.hid hn2
  have HW2 := Lib.hid hW2
  have HS2 := Lib.hid (World.block_lt_of_cell? W2 _ r0)
  replace m1 := cell_nw m1 hn2
  replace c2 := cell_nw c2 hn2
  replace c3 := cell_nw c3 hn2
  replace c4 := cell_nw c4 hn2
  have HLX := Lib.hid hlx
  have HK := Lib.hid (And.intro hmo (And.intro hhi hk))
  clear h ht hW2 hn2 c0 c1 hx hl hlx hlo hhi' rz hmo hhi hk
  haveI : In gm W2 := ⟨World.block_lt_of_cell? W2 _ m1⟩
  haveI : In gt W2 := ⟨World.block_lt_of_cell? W2 _ c2⟩
  have HA := Lib.hid (show (W2.alloc (.cells #[.int .u64 0, .int .u64 0] 106)).drew.cell? ⟨W2.heap.size, 0, none⟩ = some (.int .u64 0) ∧ (W2.alloc (.cells #[.int .u64 0, .int .u64 0] 106)).drew.cell? ⟨W2.heap.size, 1, none⟩ = some (.int .u64 0) ∧ (W2.alloc (.cells #[.int .u64 0, .int .u64 0] 106)).drew.frozen? ⟨W2.heap.size, 0, none⟩ = false ∧ (W2.alloc (.cells #[.int .u64 0, .int .u64 0] 106)).drew.frozen? ⟨W2.heap.size, 1, none⟩ = false ∧ W2.heap.size < (W2.alloc (.cells #[.int .u64 0, .int .u64 0] 106)).drew.heap.size from ⟨by simp [go_sem], by simp [go_sem], by simp [go_sem], by simp [go_sem], by simp⟩)
  go_enter Tryz.func29, Tryz.ntmps29
  go_upto_region 1 with (fail)
  rw [← HW2.out]
  go_region_held3 (fun w' => w'.cell? ⟨gm, 16, none⟩ = some (.pointer (some ⟨gp, 0, none⟩)) ∧ w'.cell? ⟨gt, t * 5 + 3, none⟩ = some (.int .u64 lo) ∧ w'.cell? ⟨gt, t * 5 + 3 + 1, none⟩ = some (.int .u64 hi)) (first | exact ⟨m1, c3, c4⟩ | exact ⟨cell_nw m1 hnk, cell_nw c3 hnk, cell_nw c4 hnk⟩ | exact ⟨cell_nw m1 (Xt.Nw.alloc hnk _), cell_nw c3 (Xt.Nw.alloc hnk _), cell_nw c4 (Xt.Nw.alloc hnk _)⟩ | exact ⟨cell_nw m1 (Xt.Nw.setCell (Xt.Nw.setCell hnk (Nat.le_refl _) _) (Nat.le_refl _) _), cell_nw c3 (Xt.Nw.setCell (Xt.Nw.setCell hnk (Nat.le_refl _) _) (Nat.le_refl _) _), cell_nw c4 (Xt.Nw.setCell (Xt.Nw.setCell hnk (Nat.le_refl _) _) (Nat.le_refl _) _)⟩ | exact ⟨cell_nw m1 (Xt.Nw.alloc (Nw.refl W2) _), cell_nw c3 (Xt.Nw.alloc (Nw.refl W2) _), cell_nw c4 (Xt.Nw.alloc (Nw.refl W2) _)⟩ | exact ⟨cell_nw m1 (Xt.Nw.drew (Xt.Nw.alloc (Nw.refl W2) _)), cell_nw c3 (Xt.Nw.drew (Xt.Nw.alloc (Nw.refl W2) _)), cell_nw c4 (Xt.Nw.drew (Xt.Nw.alloc (Nw.refl W2) _))⟩)
    ((first | (go_at_call 68; refine (HS.out W2.drew (Nw.drew HN2.out)).mono ?_; rintro r Wk ⟨rfl, hnk0⟩; have hnk : Nw W2 Wk := (Nw.drew (Nw.refl W2)).trans hnk0) | (go_at_call 68; refine (HS.out ((W2.alloc (.cells #[.int .u64 0, .int .u64 0] 106)).drew) (Nw.drew (Nw.alloc HN2.out _))).mono ?_; rintro r Wk ⟨rfl, hnk0⟩; have hnk : Nw W2 Wk := (Nw.drew (Nw.alloc (Nw.refl W2) _)).trans hnk0; have g0 := cell_nw HA.out.1 hnk0; have g1 := cell_nw HA.out.2.1 hnk0; have g2 := (frozen_nw HA.out.2.2.2.2 hnk0).trans HA.out.2.2.1; have g3 := (frozen_nw HA.out.2.2.2.2 hnk0).trans HA.out.2.2.2.1)))
  · skip
    rename_i hHeld
    clear hHeld
    obtain ⟨W3, hW3⟩ : ∃ W3, W3 = Wk.alloc (.cells #[.int .u64 k, .int .u64 y] 106) := ⟨_, rfl⟩
    rw [← hW3]
    have hn3 : Nw W2 W3 := by rw [hW3]; exact Xt.Nw.alloc hnk _
    obtain ⟨g, hg⟩ : ∃ g, g = Wk.heap.size := ⟨_, rfl⟩
    rw [← hg]
    have hgs := hnk.grown.size
    have hs2 := HS2.out
    have hxg : g ∉ [gt] := by simp; have := HN2.out.grown.size; omega
    have hxr : w.heap.size ∉ [gt] := by simp; omega
    have e0 : W3.cell? ⟨g, 0, none⟩ = some (.int .u64 k) := by rw [hW3, hg]; simp [go_sem]
    have e1 : W3.cell? ⟨g, 1, none⟩ = some (.int .u64 y) := by rw [hW3, hg]; simp [go_sem]
    skip
    replace r0 := cell_nw r0 hn3
    replace r1 := cell_nw r1 hn3
    replace r2 := cell_nw r2 hn3
    replace r3 := cell_nw r3 hn3
    replace r4 := cell_nw r4 hn3
    have rz3 : ∀ j, W3.frozen? ⟨w.heap.size, j, none⟩ = false := fun j => (frozen_nw HS2.out hn3).trans (HRZ.out j)
    have h3 := H.out.nw (HN2.out.trans hn3)
    have H3 := Lib.hid h3
    have HN3 := Lib.hid hn3
    have HS3 := Lib.hid (World.block_lt_of_cell? W3 _ r0)
    haveI : In w.heap.size W3 := ⟨HS3.out⟩
    haveI : In g W3 := ⟨World.block_lt_of_cell? W3 _ e0⟩
    haveI : In gt W3 := ⟨h3.it⟩
    clear hgs hW3 hg hnk hnk0 hs2 h3
    go_wp2_with fail
    refine (rafter_any W3 gt s.th H3.out.th t x HT.out k HK.out.2.2.1 HK.out.2.1).mono ?_
    rintro r W4 ⟨rfl, hth, hch⟩
    rw [← Th.after_in HK.out.1 HK.out.2.2.2.1 HK.out.2.2.2.2 HK.out.2.1] at hth
    have hmu := RMUp.ths H3.out (HLEN.out _) hth hch
    replace r0 := hch.cell r0 hxr
    replace r1 := hch.cell r1 hxr
    replace r2 := hch.cell r2 hxr
    replace r3 := hch.cell r3 hxr
    replace r4 := hch.cell r4 hxr
    have rz4 : ∀ j, W4.frozen? ⟨w.heap.size, j, none⟩ = false := fun j => (hch.frozen HS3.out hxr).trans (rz3 j)
    have f0 := rz4 0
    have f1 := rz4 1
    have f2 := rz4 2
    have f3 := rz4 3
    have f4 := rz4 4
    replace e0 := hch.cell e0 hxg
    replace e1 := hch.cell e1 hxg
    haveI : In g W4 := ⟨World.block_lt_of_cell? W4 _ e0⟩
    haveI : In w.heap.size W4 := ⟨World.block_lt_of_cell? W4 _ r0⟩
    have HU := Lib.hid hmu
    clear hch hth hmu hn3 rz3 rz4
    go_wp2
    refine bodyPost_ret (v := res5 0 true k y 0) ?_ rfl ⟨rfl, _, RMUp.res (HN2.out.trans HN3.out) (Nat.le_refl _) HS3.out H.out HU.out ⟨0, true, k, y, 0⟩⟩
    simp [results, Tryz.results29, go_sem, r0, r1, r2, r3, r4]
  · skip
    rename_i hHeld
    clear hHeld
    obtain ⟨W3, hW3⟩ : ∃ W3, W3 = (Wk.setCell ⟨W2.heap.size, 0, none⟩ (.int .u64 k)).setCell ⟨W2.heap.size, 1, none⟩ (.int .u64 y) := ⟨_, rfl⟩
    rw [← hW3]
    have hn3 : Nw W2 W3 := by rw [hW3]; exact Xt.Nw.setCell (Xt.Nw.setCell hnk (Nat.le_refl _) _) (Nat.le_refl _) _
    obtain ⟨g, hg⟩ : ∃ g, g = W2.heap.size := ⟨_, rfl⟩
    rw [← hg]
    have hgs := hnk.grown.size
    have hs2 := HS2.out
    have hxg : g ∉ [gt] := by simp; have := HN2.out.grown.size; omega
    have hxr : w.heap.size ∉ [gt] := by simp; omega
    have e0 : W3.cell? ⟨g, 0, none⟩ = some (.int .u64 k) := by rw [hW3, hg]; simp [go_sem, g0, g1]
    have e1 : W3.cell? ⟨g, 1, none⟩ = some (.int .u64 y) := by rw [hW3, hg]; simp [go_sem, g0, g1]
    clear g0 g1 g2 g3
    replace r0 := cell_nw r0 hn3
    replace r1 := cell_nw r1 hn3
    replace r2 := cell_nw r2 hn3
    replace r3 := cell_nw r3 hn3
    replace r4 := cell_nw r4 hn3
    have rz3 : ∀ j, W3.frozen? ⟨w.heap.size, j, none⟩ = false := fun j => (frozen_nw HS2.out hn3).trans (HRZ.out j)
    have h3 := H.out.nw (HN2.out.trans hn3)
    have H3 := Lib.hid h3
    have HN3 := Lib.hid hn3
    have HS3 := Lib.hid (World.block_lt_of_cell? W3 _ r0)
    haveI : In w.heap.size W3 := ⟨HS3.out⟩
    haveI : In g W3 := ⟨World.block_lt_of_cell? W3 _ e0⟩
    haveI : In gt W3 := ⟨h3.it⟩
    clear hgs hW3 hg hnk hnk0 hs2 h3
    go_wp2_with fail
    refine (rafter_any W3 gt s.th H3.out.th t x HT.out k HK.out.2.2.1 HK.out.2.1).mono ?_
    rintro r W4 ⟨rfl, hth, hch⟩
    rw [← Th.after_in HK.out.1 HK.out.2.2.2.1 HK.out.2.2.2.2 HK.out.2.1] at hth
    have hmu := RMUp.ths H3.out (HLEN.out _) hth hch
    replace r0 := hch.cell r0 hxr
    replace r1 := hch.cell r1 hxr
    replace r2 := hch.cell r2 hxr
    replace r3 := hch.cell r3 hxr
    replace r4 := hch.cell r4 hxr
    have rz4 : ∀ j, W4.frozen? ⟨w.heap.size, j, none⟩ = false := fun j => (hch.frozen HS3.out hxr).trans (rz3 j)
    have f0 := rz4 0
    have f1 := rz4 1
    have f2 := rz4 2
    have f3 := rz4 3
    have f4 := rz4 4
    replace e0 := hch.cell e0 hxg
    replace e1 := hch.cell e1 hxg
    haveI : In g W4 := ⟨World.block_lt_of_cell? W4 _ e0⟩
    haveI : In w.heap.size W4 := ⟨World.block_lt_of_cell? W4 _ r0⟩
    have HU := Lib.hid hmu
    clear hch hth hmu hn3 rz3 rz4
    go_wp2
    refine bodyPost_ret (v := res5 0 true k y 0) ?_ rfl ⟨rfl, _, RMUp.res (HN2.out.trans HN3.out) (Nat.le_refl _) HS3.out H.out HU.out ⟨0, true, k, y, 0⟩⟩
    simp [results, Tryz.results29, go_sem, r0, r1, r2, r3, r4]
end Go.Proofs.YtahagplegmcaaaaGreatDoor
