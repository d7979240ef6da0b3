import Derived.Test.YtahagplegmcaaaaDoorGMf
set_option linter.unusedVariables false
set_option linter.unusedSimpArgs false
set_option linter.unnecessarySimpa false
namespace Go.Proofs.YtahagplegmcaaaaDoor
open Go.RowKit Go.Xt
/-! Do at opening and shutting. -/
set_option maxRecDepth 20000 in
set_option maxHeartbeats 8000000 in
theorem do_1ff (base : Nat) (w : World) (gm gt gp : Nat) (slots : Int) (b : List Bool) (L : Value) (h : Mdl base w gm gt gp slots b L) (hb : b.length ≤ 1000) (t : Nat) (ht : b[t]? = some false) :
    Calls Tryd.prog 9 #[.pointer (some ⟨gm, 0, none⟩), .int .i64 t, op7 1 0 0 0 0 0 0] w fun e w' => e = .returned (res5 (opE slots b) false 0 0 0) ∧ Chg [gt] w w' ∧ ThRow base w' gt (opB slots b t) := by
  haveI : In gm w := ⟨h.im⟩
  have HR := Lib.hid (fun W (hw : Nw w W) => refuse_1_ff base W gm gt gp slots b L (h.nw hw) t ht)
  have HS := Lib.hid (fun W (hw : Nw w W) => perform_1 base W gm gt gp slots b L (h.nw hw) hb t false ht)
  have H := Lib.hid h
  clear h
  obtain ⟨W2, hW2⟩ : ∃ W2, W2 = (w.alloc (.cells #[.int .u8 1, .int .u64 0, .int .u64 0, .int .u64 0, .int .u64 0, .int .u64 0, .int .u64 0] 25)).alloc (.cells #[.int .i64 0, .bool false, .int .u64 0, .int .u64 0, .int .i64 0] 28) := ⟨_, rfl⟩
  have hn2 : Nw w W2 := by rw [hW2]; exact (by repeat (first | exact Xt.Nw.refl _ | refine Xt.Nw.drew ?_ | refine Xt.Nw.drewN ?_ _ | refine Xt.Nw.alloc ?_ _ | refine Xt.Nw.joined ?_ | refine Xt.Nw.drewd ?_ | refine Xt.Nw.drewdN ?_ | refine Xt.Nw.ext ?_ | refine Xt.Nw.ext_some ?_ (by assumption) | refine Xt.Nw.setCell ?_ (by simp [go_sem] <;> omega) _))
  have q0 : W2.cell? ⟨w.heap.size, 0, none⟩ = some (.int .u8 1) := by rw [hW2]; simp [go_sem]
  have q1 : W2.cell? ⟨w.heap.size, 1, none⟩ = some (.int .u64 0) := by rw [hW2]; simp [go_sem]
  have q2 : W2.cell? ⟨w.heap.size, 2, none⟩ = some (.int .u64 0) := by rw [hW2]; simp [go_sem]
  have q3 : W2.cell? ⟨w.heap.size, 3, none⟩ = some (.int .u64 0) := by rw [hW2]; simp [go_sem]
  have q4 : W2.cell? ⟨w.heap.size, 4, none⟩ = some (.int .u64 0) := by rw [hW2]; simp [go_sem]
  have q5 : W2.cell? ⟨w.heap.size, 5, none⟩ = some (.int .u64 0) := by rw [hW2]; simp [go_sem]
  have q6 : W2.cell? ⟨w.heap.size, 6, none⟩ = some (.int .u64 0) := by rw [hW2]; simp [go_sem]
  have r0 : W2.cell? ⟨w.heap.size + 1, 0, none⟩ = some (.int .i64 0) := by rw [hW2]; simp [go_sem]
  have r1 : W2.cell? ⟨w.heap.size + 1, 1, none⟩ = some (.bool false) := by rw [hW2]; simp [go_sem]
  have r2 : W2.cell? ⟨w.heap.size + 1, 2, none⟩ = some (.int .u64 0) := by rw [hW2]; simp [go_sem]
  have r3 : W2.cell? ⟨w.heap.size + 1, 3, none⟩ = some (.int .u64 0) := by rw [hW2]; simp [go_sem]
  have r4 : W2.cell? ⟨w.heap.size + 1, 4, none⟩ = some (.int .i64 0) := by rw [hW2]; simp [go_sem]
  have zz : ∀ o, W2.frozen? ⟨w.heap.size + 1, o, none⟩ = false := fun o => by rw [hW2]; simp [go_sem]
  have hs2 : w.heap.size + 1 < W2.heap.size := by rw [hW2]; simp
  have HN2 := Lib.hid hn2
  have HW2 := Lib.hid hW2
  have HS2 := Lib.hid hs2
  have HZ := Lib.hid zz
  clear hn2 hW2 hs2 zz
  go_enter Tryd.func9, Tryd.ntmps9
  go_wp2_with fail
  rw [← HW2.out]
  refine (HR.out W2 HN2.out).mono ?_
  rintro e W3 ⟨rfl, hn3⟩
  replace q0 := cell_nw q0 hn3
  replace q1 := cell_nw q1 hn3
  replace q2 := cell_nw q2 hn3
  replace q3 := cell_nw q3 hn3
  replace q4 := cell_nw q4 hn3
  replace q5 := cell_nw q5 hn3
  replace q6 := cell_nw q6 hn3
  replace r0 := cell_nw r0 hn3
  replace r1 := cell_nw r1 hn3
  replace r2 := cell_nw r2 hn3
  replace r3 := cell_nw r3 hn3
  replace r4 := cell_nw r4 hn3
  have z0 : W3.frozen? ⟨w.heap.size + 1, 0, none⟩ = false := (frozen_nw HS2.out hn3).trans (HZ.out 0)
  have z1 : W3.frozen? ⟨w.heap.size + 1, 1, none⟩ = false := (frozen_nw HS2.out hn3).trans (HZ.out 1)
  have z2 : W3.frozen? ⟨w.heap.size + 1, 2, none⟩ = false := (frozen_nw HS2.out hn3).trans (HZ.out 2)
  have z3 : W3.frozen? ⟨w.heap.size + 1, 3, none⟩ = false := (frozen_nw HS2.out hn3).trans (HZ.out 3)
  have z4 : W3.frozen? ⟨w.heap.size + 1, 4, none⟩ = false := (frozen_nw HS2.out hn3).trans (HZ.out 4)
  have HS3 := Lib.hid (Nat.lt_of_lt_of_le HS2.out hn3.grown.size)
  have HN3 := Lib.hid (HN2.out.trans hn3)
  clear hn3
  have HR3 := Lib.hid (⟨r0, r1, r2, r3, r4⟩ : W3.cell? ⟨w.heap.size + 1, 0, none⟩ = some (.int .i64 0) ∧ W3.cell? ⟨w.heap.size + 1, 1, none⟩ = some (.bool false) ∧ W3.cell? ⟨w.heap.size + 1, 2, none⟩ = some (.int .u64 0) ∧ W3.cell? ⟨w.heap.size + 1, 3, none⟩ = some (.int .u64 0) ∧ W3.cell? ⟨w.heap.size + 1, 4, none⟩ = some (.int .i64 0))
  have HZ3 := Lib.hid (⟨z0, z1, z2, z3, z4⟩ : W3.frozen? ⟨w.heap.size + 1, 0, none⟩ = false ∧ W3.frozen? ⟨w.heap.size + 1, 1, none⟩ = false ∧ W3.frozen? ⟨w.heap.size + 1, 2, none⟩ = false ∧ W3.frozen? ⟨w.heap.size + 1, 3, none⟩ = false ∧ W3.frozen? ⟨w.heap.size + 1, 4, none⟩ = false)
  clear r0 r1 r2 r3 r4 z0 z1 z2 z3 z4
  go_wp2_with fail
  refine (HS.out W3 HN3.out).mono ?_
  rintro e W4 ⟨rfl, hch, hpo⟩
  have hX : w.heap.size + 1 ∉ ([gt] : List Nat) := by have := H.out.it; simp; omega
  have r0 := hch.cell HR3.out.1 hX
  have r1 := hch.cell HR3.out.2.1 hX
  have r2 := hch.cell HR3.out.2.2.1 hX
  have r3 := hch.cell HR3.out.2.2.2.1 hX
  have r4 := hch.cell HR3.out.2.2.2.2 hX
  have z0 := (hch.frozen HS3.out hX).trans HZ3.out.1
  have z1 := (hch.frozen HS3.out hX).trans HZ3.out.2.1
  have z2 := (hch.frozen HS3.out hX).trans HZ3.out.2.2.1
  have z3 := (hch.frozen HS3.out hX).trans HZ3.out.2.2.2.1
  have z4 := (hch.frozen HS3.out hX).trans HZ3.out.2.2.2.2
  go_wp2
  have hset : Chg [w.heap.size + 1] W4 _ := ((((Chg.set1 W4 (w.heap.size + 1) 0 (.int .i64 (opE slots b))).set2 1 (.bool false)).set2 2 (.int .u64 0)).set2 3 (.int .u64 0)).set2 4 (.int .i64 0)
  have hall : Chg [gt] w _ := (((((((Chg.of_nw HN3.out).trans hch).setNew (p := ⟨w.heap.size + 1, 0, none⟩) (Nat.le_succ _) (.int .i64 (opE slots b))).setNew (p := ⟨w.heap.size + 1, 1, none⟩) (Nat.le_succ _) (.bool false)).setNew (p := ⟨w.heap.size + 1, 2, none⟩) (Nat.le_succ _) (.int .u64 0)).setNew (p := ⟨w.heap.size + 1, 3, none⟩) (Nat.le_succ _) (.int .u64 0)).setNew (p := ⟨w.heap.size + 1, 4, none⟩) (Nat.le_succ _) (.int .i64 0))
  refine bodyPost_ret (v := res5 (opE slots b) false 0 0 0) ?_ rfl ⟨rfl, hall, th_chg hpo hset (by have := H.out.it; simp; omega)⟩
  simp [results, Tryd.results9, go_sem, *]
set_option maxRecDepth 20000 in
set_option maxHeartbeats 8000000 in
theorem do_1tt (base : Nat) (w : World) (gm gt gp : Nat) (slots : Int) (b : List Bool) (L : Value) (h : Mdl base w gm gt gp slots b L) (t : Nat) (ht : b[t]? = some true) :
    Calls Tryd.prog 9 #[.pointer (some ⟨gm, 0, none⟩), .int .i64 t, op7 1 0 0 0 0 0 0] w fun e w' => e = .returned (res5 8 false 0 0 0) ∧ Chg [gt] w w' ∧ ThRow base w' gt b := by
  haveI : In gm w := ⟨h.im⟩
  have HR := Lib.hid (fun W (hw : Nw w W) => refuse_1_tt base W gm gt gp slots b L (h.nw hw) t ht)
  have HS := Lib.hid (trivial)
  have H := Lib.hid h
  clear h
  obtain ⟨W2, hW2⟩ : ∃ W2, W2 = (w.alloc (.cells #[.int .u8 1, .int .u64 0, .int .u64 0, .int .u64 0, .int .u64 0, .int .u64 0, .int .u64 0] 25)).alloc (.cells #[.int .i64 0, .bool false, .int .u64 0, .int .u64 0, .int .i64 0] 28) := ⟨_, rfl⟩
  have hn2 : Nw w W2 := by rw [hW2]; exact (by repeat (first | exact Xt.Nw.refl _ | refine Xt.Nw.drew ?_ | refine Xt.Nw.drewN ?_ _ | refine Xt.Nw.alloc ?_ _ | refine Xt.Nw.joined ?_ | refine Xt.Nw.drewd ?_ | refine Xt.Nw.drewdN ?_ | refine Xt.Nw.ext ?_ | refine Xt.Nw.ext_some ?_ (by assumption) | refine Xt.Nw.setCell ?_ (by simp [go_sem] <;> omega) _))
  have q0 : W2.cell? ⟨w.heap.size, 0, none⟩ = some (.int .u8 1) := by rw [hW2]; simp [go_sem]
  have q1 : W2.cell? ⟨w.heap.size, 1, none⟩ = some (.int .u64 0) := by rw [hW2]; simp [go_sem]
  have q2 : W2.cell? ⟨w.heap.size, 2, none⟩ = some (.int .u64 0) := by rw [hW2]; simp [go_sem]
  have q3 : W2.cell? ⟨w.heap.size, 3, none⟩ = some (.int .u64 0) := by rw [hW2]; simp [go_sem]
  have q4 : W2.cell? ⟨w.heap.size, 4, none⟩ = some (.int .u64 0) := by rw [hW2]; simp [go_sem]
  have q5 : W2.cell? ⟨w.heap.size, 5, none⟩ = some (.int .u64 0) := by rw [hW2]; simp [go_sem]
  have q6 : W2.cell? ⟨w.heap.size, 6, none⟩ = some (.int .u64 0) := by rw [hW2]; simp [go_sem]
  have r0 : W2.cell? ⟨w.heap.size + 1, 0, none⟩ = some (.int .i64 0) := by rw [hW2]; simp [go_sem]
  have r1 : W2.cell? ⟨w.heap.size + 1, 1, none⟩ = some (.bool false) := by rw [hW2]; simp [go_sem]
  have r2 : W2.cell? ⟨w.heap.size + 1, 2, none⟩ = some (.int .u64 0) := by rw [hW2]; simp [go_sem]
  have r3 : W2.cell? ⟨w.heap.size + 1, 3, none⟩ = some (.int .u64 0) := by rw [hW2]; simp [go_sem]
  have r4 : W2.cell? ⟨w.heap.size + 1, 4, none⟩ = some (.int .i64 0) := by rw [hW2]; simp [go_sem]
  have zz : ∀ o, W2.frozen? ⟨w.heap.size + 1, o, none⟩ = false := fun o => by rw [hW2]; simp [go_sem]
  have hs2 : w.heap.size + 1 < W2.heap.size := by rw [hW2]; simp
  have HN2 := Lib.hid hn2
  have HW2 := Lib.hid hW2
  have HS2 := Lib.hid hs2
  have HZ := Lib.hid zz
  clear hn2 hW2 hs2 zz
  go_enter Tryd.func9, Tryd.ntmps9
  go_wp2_with fail
  rw [← HW2.out]
  refine (HR.out W2 HN2.out).mono ?_
  rintro e W3 ⟨rfl, hn3⟩
  replace q0 := cell_nw q0 hn3
  replace q1 := cell_nw q1 hn3
  replace q2 := cell_nw q2 hn3
  replace q3 := cell_nw q3 hn3
  replace q4 := cell_nw q4 hn3
  replace q5 := cell_nw q5 hn3
  replace q6 := cell_nw q6 hn3
  replace r0 := cell_nw r0 hn3
  replace r1 := cell_nw r1 hn3
  replace r2 := cell_nw r2 hn3
  replace r3 := cell_nw r3 hn3
  replace r4 := cell_nw r4 hn3
  have z0 : W3.frozen? ⟨w.heap.size + 1, 0, none⟩ = false := (frozen_nw HS2.out hn3).trans (HZ.out 0)
  have z1 : W3.frozen? ⟨w.heap.size + 1, 1, none⟩ = false := (frozen_nw HS2.out hn3).trans (HZ.out 1)
  have z2 : W3.frozen? ⟨w.heap.size + 1, 2, none⟩ = false := (frozen_nw HS2.out hn3).trans (HZ.out 2)
  have z3 : W3.frozen? ⟨w.heap.size + 1, 3, none⟩ = false := (frozen_nw HS2.out hn3).trans (HZ.out 3)
  have z4 : W3.frozen? ⟨w.heap.size + 1, 4, none⟩ = false := (frozen_nw HS2.out hn3).trans (HZ.out 4)
  have HS3 := Lib.hid (Nat.lt_of_lt_of_le HS2.out hn3.grown.size)
  have HN3 := Lib.hid (HN2.out.trans hn3)
  clear hn3
  go_wp2
  have hset : Chg [w.heap.size + 1] W3 _ := ((((Chg.set1 W3 (w.heap.size + 1) 0 (.int .i64 (8))).set2 1 (.bool false)).set2 2 (.int .u64 0)).set2 3 (.int .u64 0)).set2 4 (.int .i64 0)
  have hall : Chg [gt] w _ := ((((((Chg.of_nw HN3.out : Chg [gt] w W3).setNew (p := ⟨w.heap.size + 1, 0, none⟩) (Nat.le_succ _) (.int .i64 (8))).setNew (p := ⟨w.heap.size + 1, 1, none⟩) (Nat.le_succ _) (.bool false)).setNew (p := ⟨w.heap.size + 1, 2, none⟩) (Nat.le_succ _) (.int .u64 0)).setNew (p := ⟨w.heap.size + 1, 3, none⟩) (Nat.le_succ _) (.int .u64 0)).setNew (p := ⟨w.heap.size + 1, 4, none⟩) (Nat.le_succ _) (.int .i64 0))
  have hall0 := th_chg (own_nw H.out.th HN3.out) hset (by have := H.out.it; simp; omega)
  refine bodyPost_ret (v := res5 8 false 0 0 0) ?_ rfl ⟨rfl, hall, hall0⟩
  simp [results, Tryd.results9, go_sem, *]
set_option maxRecDepth 20000 in
set_option maxHeartbeats 8000000 in
theorem do_2tt (base : Nat) (w : World) (gm gt gp : Nat) (slots : Int) (b : List Bool) (L : Value) (h : Mdl base w gm gt gp slots b L) (t : Nat) (ht : b[t]? = some true) :
    Calls Tryd.prog 9 #[.pointer (some ⟨gm, 0, none⟩), .int .i64 t, op7 2 0 0 0 0 0 0] w fun e w' => e = .returned (res5 0 false 0 0 0) ∧ Chg [gt] w w' ∧ ThRow base w' gt (b.set t false) := by
  haveI : In gm w := ⟨h.im⟩
  have HR := Lib.hid (fun W (hw : Nw w W) => refuse_2_tt base W gm gt gp slots b L (h.nw hw) t ht)
  have HS := Lib.hid (fun W (hw : Nw w W) => perform_2 base W gm gt gp slots b L (h.nw hw) t true ht)
  have H := Lib.hid h
  clear h
  obtain ⟨W2, hW2⟩ : ∃ W2, W2 = (w.alloc (.cells #[.int .u8 2, .int .u64 0, .int .u64 0, .int .u64 0, .int .u64 0, .int .u64 0, .int .u64 0] 25)).alloc (.cells #[.int .i64 0, .bool false, .int .u64 0, .int .u64 0, .int .i64 0] 28) := ⟨_, rfl⟩
  have hn2 : Nw w W2 := by rw [hW2]; exact (by repeat (first | exact Xt.Nw.refl _ | refine Xt.Nw.drew ?_ | refine Xt.Nw.drewN ?_ _ | refine Xt.Nw.alloc ?_ _ | refine Xt.Nw.joined ?_ | refine Xt.Nw.drewd ?_ | refine Xt.Nw.drewdN ?_ | refine Xt.Nw.ext ?_ | refine Xt.Nw.ext_some ?_ (by assumption) | refine Xt.Nw.setCell ?_ (by simp [go_sem] <;> omega) _))
  have q0 : W2.cell? ⟨w.heap.size, 0, none⟩ = some (.int .u8 2) := by rw [hW2]; simp [go_sem]
  have q1 : W2.cell? ⟨w.heap.size, 1, none⟩ = some (.int .u64 0) := by rw [hW2]; simp [go_sem]
  have q2 : W2.cell? ⟨w.heap.size, 2, none⟩ = some (.int .u64 0) := by rw [hW2]; simp [go_sem]
  have q3 : W2.cell? ⟨w.heap.size, 3, none⟩ = some (.int .u64 0) := by rw [hW2]; simp [go_sem]
  have q4 : W2.cell? ⟨w.heap.size, 4, none⟩ = some (.int .u64 0) := by rw [hW2]; simp [go_sem]
  have q5 : W2.cell? ⟨w.heap.size, 5, none⟩ = some (.int .u64 0) := by rw [hW2]; simp [go_sem]
  have q6 : W2.cell? ⟨w.heap.size, 6, none⟩ = some (.int .u64 0) := by rw [hW2]; simp [go_sem]
  have r0 : W2.cell? ⟨w.heap.size + 1, 0, none⟩ = some (.int .i64 0) := by rw [hW2]; simp [go_sem]
  have r1 : W2.cell? ⟨w.heap.size + 1, 1, none⟩ = some (.bool false) := by rw [hW2]; simp [go_sem]
  have r2 : W2.cell? ⟨w.heap.size + 1, 2, none⟩ = some (.int .u64 0) := by rw [hW2]; simp [go_sem]
  have r3 : W2.cell? ⟨w.heap.size + 1, 3, none⟩ = some (.int .u64 0) := by rw [hW2]; simp [go_sem]
  have r4 : W2.cell? ⟨w.heap.size + 1, 4, none⟩ = some (.int .i64 0) := by rw [hW2]; simp [go_sem]
  have zz : ∀ o, W2.frozen? ⟨w.heap.size + 1, o, none⟩ = false := fun o => by rw [hW2]; simp [go_sem]
  have hs2 : w.heap.size + 1 < W2.heap.size := by rw [hW2]; simp
  have HN2 := Lib.hid hn2
  have HW2 := Lib.hid hW2
  have HS2 := Lib.hid hs2
  have HZ := Lib.hid zz
  clear hn2 hW2 hs2 zz
  go_enter Tryd.func9, Tryd.ntmps9
  go_wp2_with fail
  rw [← HW2.out]
  refine (HR.out W2 HN2.out).mono ?_
  rintro e W3 ⟨rfl, hn3⟩
  replace q0 := cell_nw q0 hn3
  replace q1 := cell_nw q1 hn3
  replace q2 := cell_nw q2 hn3
  replace q3 := cell_nw q3 hn3
  replace q4 := cell_nw q4 hn3
  replace q5 := cell_nw q5 hn3
  replace q6 := cell_nw q6 hn3
  replace r0 := cell_nw r0 hn3
  replace r1 := cell_nw r1 hn3
  replace r2 := cell_nw r2 hn3
  replace r3 := cell_nw r3 hn3
  replace r4 := cell_nw r4 hn3
  have z0 : W3.frozen? ⟨w.heap.size + 1, 0, none⟩ = false := (frozen_nw HS2.out hn3).trans (HZ.out 0)
  have z1 : W3.frozen? ⟨w.heap.size + 1, 1, none⟩ = false := (frozen_nw HS2.out hn3).trans (HZ.out 1)
  have z2 : W3.frozen? ⟨w.heap.size + 1, 2, none⟩ = false := (frozen_nw HS2.out hn3).trans (HZ.out 2)
  have z3 : W3.frozen? ⟨w.heap.size + 1, 3, none⟩ = false := (frozen_nw HS2.out hn3).trans (HZ.out 3)
  have z4 : W3.frozen? ⟨w.heap.size + 1, 4, none⟩ = false := (frozen_nw HS2.out hn3).trans (HZ.out 4)
  have HS3 := Lib.hid (Nat.lt_of_lt_of_le HS2.out hn3.grown.size)
  have HN3 := Lib.hid (HN2.out.trans hn3)
  clear hn3
  have HR3 := Lib.hid (⟨r0, r1, r2, r3, r4⟩ : W3.cell? ⟨w.heap.size + 1, 0, none⟩ = some (.int .i64 0) ∧ W3.cell? ⟨w.heap.size + 1, 1, none⟩ = some (.bool false) ∧ W3.cell? ⟨w.heap.size + 1, 2, none⟩ = some (.int .u64 0) ∧ W3.cell? ⟨w.heap.size + 1, 3, none⟩ = some (.int .u64 0) ∧ W3.cell? ⟨w.heap.size + 1, 4, none⟩ = some (.int .i64 0))
  have HZ3 := Lib.hid (⟨z0, z1, z2, z3, z4⟩ : W3.frozen? ⟨w.heap.size + 1, 0, none⟩ = false ∧ W3.frozen? ⟨w.heap.size + 1, 1, none⟩ = false ∧ W3.frozen? ⟨w.heap.size + 1, 2, none⟩ = false ∧ W3.frozen? ⟨w.heap.size + 1, 3, none⟩ = false ∧ W3.frozen? ⟨w.heap.size + 1, 4, none⟩ = false)
  clear r0 r1 r2 r3 r4 z0 z1 z2 z3 z4
  go_wp2_with fail
  refine (HS.out W3 HN3.out).mono ?_
  rintro e W4 ⟨rfl, hch, hpo⟩
  have hX : w.heap.size + 1 ∉ ([gt] : List Nat) := by have := H.out.it; simp; omega
  have r0 := hch.cell HR3.out.1 hX
  have r1 := hch.cell HR3.out.2.1 hX
  have r2 := hch.cell HR3.out.2.2.1 hX
  have r3 := hch.cell HR3.out.2.2.2.1 hX
  have r4 := hch.cell HR3.out.2.2.2.2 hX
  have z0 := (hch.frozen HS3.out hX).trans HZ3.out.1
  have z1 := (hch.frozen HS3.out hX).trans HZ3.out.2.1
  have z2 := (hch.frozen HS3.out hX).trans HZ3.out.2.2.1
  have z3 := (hch.frozen HS3.out hX).trans HZ3.out.2.2.2.1
  have z4 := (hch.frozen HS3.out hX).trans HZ3.out.2.2.2.2
  go_wp2
  have hset : Chg [w.heap.size + 1] W4 _ := ((((Chg.set1 W4 (w.heap.size + 1) 0 (.int .i64 (0))).set2 1 (.bool false)).set2 2 (.int .u64 0)).set2 3 (.int .u64 0)).set2 4 (.int .i64 0)
  have hall : Chg [gt] w _ := (((((((Chg.of_nw HN3.out).trans hch).setNew (p := ⟨w.heap.size + 1, 0, none⟩) (Nat.le_succ _) (.int .i64 (0))).setNew (p := ⟨w.heap.size + 1, 1, none⟩) (Nat.le_succ _) (.bool false)).setNew (p := ⟨w.heap.size + 1, 2, none⟩) (Nat.le_succ _) (.int .u64 0)).setNew (p := ⟨w.heap.size + 1, 3, none⟩) (Nat.le_succ _) (.int .u64 0)).setNew (p := ⟨w.heap.size + 1, 4, none⟩) (Nat.le_succ _) (.int .i64 0))
  refine bodyPost_ret (v := res5 0 false 0 0 0) ?_ rfl ⟨rfl, hall, th_chg hpo hset (by have := H.out.it; simp; omega)⟩
  simp [results, Tryd.results9, go_sem, *]
set_option maxRecDepth 20000 in
set_option maxHeartbeats 8000000 in
theorem do_2ff (base : Nat) (w : World) (gm gt gp : Nat) (slots : Int) (b : List Bool) (L : Value) (h : Mdl base w gm gt gp slots b L) (t : Nat) (ht : b[t]? = some false) :
    Calls Tryd.prog 9 #[.pointer (some ⟨gm, 0, none⟩), .int .i64 t, op7 2 0 0 0 0 0 0] w fun e w' => e = .returned (res5 10 false 0 0 0) ∧ Chg [gt] w w' ∧ ThRow base w' gt b := by
  haveI : In gm w := ⟨h.im⟩
  have HR := Lib.hid (fun W (hw : Nw w W) => refuse_2_ff base W gm gt gp slots b L (h.nw hw) t ht)
  have HS := Lib.hid (trivial)
  have H := Lib.hid h
  clear h
  obtain ⟨W2, hW2⟩ : ∃ W2, W2 = (w.alloc (.cells #[.int .u8 2, .int .u64 0, .int .u64 0, .int .u64 0, .int .u64 0, .int .u64 0, .int .u64 0] 25)).alloc (.cells #[.int .i64 0, .bool false, .int .u64 0, .int .u64 0, .int .i64 0] 28) := ⟨_, rfl⟩
  have hn2 : Nw w W2 := by rw [hW2]; exact (by repeat (first | exact Xt.Nw.refl _ | refine Xt.Nw.drew ?_ | refine Xt.Nw.drewN ?_ _ | refine Xt.Nw.alloc ?_ _ | refine Xt.Nw.joined ?_ | refine Xt.Nw.drewd ?_ | refine Xt.Nw.drewdN ?_ | refine Xt.Nw.ext ?_ | refine Xt.Nw.ext_some ?_ (by assumption) | refine Xt.Nw.setCell ?_ (by simp [go_sem] <;> omega) _))
  have q0 : W2.cell? ⟨w.heap.size, 0, none⟩ = some (.int .u8 2) := by rw [hW2]; simp [go_sem]
  have q1 : W2.cell? ⟨w.heap.size, 1, none⟩ = some (.int .u64 0) := by rw [hW2]; simp [go_sem]
  have q2 : W2.cell? ⟨w.heap.size, 2, none⟩ = some (.int .u64 0) := by rw [hW2]; simp [go_sem]
  have q3 : W2.cell? ⟨w.heap.size, 3, none⟩ = some (.int .u64 0) := by rw [hW2]; simp [go_sem]
  have q4 : W2.cell? ⟨w.heap.size, 4, none⟩ = some (.int .u64 0) := by rw [hW2]; simp [go_sem]
  have q5 : W2.cell? ⟨w.heap.size, 5, none⟩ = some (.int .u64 0) := by rw [hW2]; simp [go_sem]
  have q6 : W2.cell? ⟨w.heap.size, 6, none⟩ = some (.int .u64 0) := by rw [hW2]; simp [go_sem]
  have r0 : W2.cell? ⟨w.heap.size + 1, 0, none⟩ = some (.int .i64 0) := by rw [hW2]; simp [go_sem]
  have r1 : W2.cell? ⟨w.heap.size + 1, 1, none⟩ = some (.bool false) := by rw [hW2]; simp [go_sem]
  have r2 : W2.cell? ⟨w.heap.size + 1, 2, none⟩ = some (.int .u64 0) := by rw [hW2]; simp [go_sem]
  have r3 : W2.cell? ⟨w.heap.size + 1, 3, none⟩ = some (.int .u64 0) := by rw [hW2]; simp [go_sem]
  have r4 : W2.cell? ⟨w.heap.size + 1, 4, none⟩ = some (.int .i64 0) := by rw [hW2]; simp [go_sem]
  have zz : ∀ o, W2.frozen? ⟨w.heap.size + 1, o, none⟩ = false := fun o => by rw [hW2]; simp [go_sem]
  have hs2 : w.heap.size + 1 < W2.heap.size := by rw [hW2]; simp
  have HN2 := Lib.hid hn2
  have HW2 := Lib.hid hW2
  have HS2 := Lib.hid hs2
  have HZ := Lib.hid zz
  clear hn2 hW2 hs2 zz
  go_enter Tryd.func9, Tryd.ntmps9
  go_wp2_with fail
  rw [← HW2.out]
  refine (HR.out W2 HN2.out).mono ?_
  rintro e W3 ⟨rfl, hn3⟩
  replace q0 := cell_nw q0 hn3
  replace q1 := cell_nw q1 hn3
  replace q2 := cell_nw q2 hn3
  replace q3 := cell_nw q3 hn3
  replace q4 := cell_nw q4 hn3
  replace q5 := cell_nw q5 hn3
  replace q6 := cell_nw q6 hn3
  replace r0 := cell_nw r0 hn3
  replace r1 := cell_nw r1 hn3
  replace r2 := cell_nw r2 hn3
  replace r3 := cell_nw r3 hn3
  replace r4 := cell_nw r4 hn3
  have z0 : W3.frozen? ⟨w.heap.size + 1, 0, none⟩ = false := (frozen_nw HS2.out hn3).trans (HZ.out 0)
  have z1 : W3.frozen? ⟨w.heap.size + 1, 1, none⟩ = false := (frozen_nw HS2.out hn3).trans (HZ.out 1)
  have z2 : W3.frozen? ⟨w.heap.size + 1, 2, none⟩ = false := (frozen_nw HS2.out hn3).trans (HZ.out 2)
  have z3 : W3.frozen? ⟨w.heap.size + 1, 3, none⟩ = false := (frozen_nw HS2.out hn3).trans (HZ.out 3)
  have z4 : W3.frozen? ⟨w.heap.size + 1, 4, none⟩ = false := (frozen_nw HS2.out hn3).trans (HZ.out 4)
  have HS3 := Lib.hid (Nat.lt_of_lt_of_le HS2.out hn3.grown.size)
  have HN3 := Lib.hid (HN2.out.trans hn3)
  clear hn3
  go_wp2
  have hset : Chg [w.heap.size + 1] W3 _ := ((((Chg.set1 W3 (w.heap.size + 1) 0 (.int .i64 (10))).set2 1 (.bool false)).set2 2 (.int .u64 0)).set2 3 (.int .u64 0)).set2 4 (.int .i64 0)
  have hall : Chg [gt] w _ := ((((((Chg.of_nw HN3.out : Chg [gt] w W3).setNew (p := ⟨w.heap.size + 1, 0, none⟩) (Nat.le_succ _) (.int .i64 (10))).setNew (p := ⟨w.heap.size + 1, 1, none⟩) (Nat.le_succ _) (.bool false)).setNew (p := ⟨w.heap.size + 1, 2, none⟩) (Nat.le_succ _) (.int .u64 0)).setNew (p := ⟨w.heap.size + 1, 3, none⟩) (Nat.le_succ _) (.int .u64 0)).setNew (p := ⟨w.heap.size + 1, 4, none⟩) (Nat.le_succ _) (.int .i64 0))
  have hall0 := th_chg (own_nw H.out.th HN3.out) hset (by have := H.out.it; simp; omega)
  refine bodyPost_ret (v := res5 10 false 0 0 0) ?_ rfl ⟨rfl, hall, hall0⟩
  simp [results, Tryd.results9, go_sem, *]
end Go.Proofs.YtahagplegmcaaaaDoor
namespace Go.Proofs.YtahagplegmcaaaaDoor
open Go.RowKit Go.Xt
/-! Session. -/
set_option maxRecDepth 20000 in
@[go_sem high] theorem fld_sess (x y z : Bool) (l h : Int) (w : World) : Sem.run Tryd.prog (Instr.field 74 (.agg #[.bool x, .bool y, .int .u64 l, .int .u64 h, .bool z]) 1) w = .ok (.bool z) w := by rfl
end Go.Proofs.YtahagplegmcaaaaDoor
