import Derived.Test.YtenhadpiddocbaaMm
import Derived.Laws.EntriesVeiled
namespace Go.Proofs.Ytenhadpiddocbaa
open Go.RowKit Go.Xt
/-! perform, Do at OpPut, OpDelete, OpLen. -/
set_option maxRecDepth 20000 in
set_option maxHeartbeats 8000000 in
theorem perform_4 (base : Nat) (w : World) (gm gt gp : Nat) (slots : Int) (b : List Bool) (L : Value) (h : Mdl base w gm gt gp slots b L) (hL : L = .slice none 0 0) (t : Nat) :
    Calls Try.prog 12 #[.pointer (some ⟨gm, 0, none⟩), .int .i64 t, op7 4 4 0 2 0 0 0] w fun e w' => e = .returned (res5 0 false 0 0 0) ∧ Chg [gp] w w' ∧ ∃ gl c, One w' gp gl c ∧ w.heap.size ≤ gl := by
  subst hL
  haveI : In gm w := ⟨h.im⟩
  haveI : In gt w := ⟨h.it⟩
  have HS := Lib.hid (fun W (hw : Nw w W) => mput_any base W gm gt gp slots b (h.nw hw) t)
  have H := Lib.hid h
  clear h
  obtain ⟨W3, hW3⟩ : ∃ W3, W3 = ((w.alloc (.cells #[.int .u8 4, .int .u64 4, .int .u64 0, .int .u64 2, .int .u64 0, .int .u64 0, .int .u64 0] 40)).alloc (.cells #[.int .i64 0, .bool false, .int .u64 0, .int .u64 0, .int .i64 0] 42)).alloc (.cells #[.nilFunc, .func (.func 19) #[] #[], .func (.func 20) #[] #[], .func (.func 21) #[] #[], .func (.func 22) #[] #[], .func (.func 23) #[] #[], .func (.func 24) #[] #[], .func (.func 25) #[] #[], .func (.func 26) #[] #[], .func (.func 27) #[] #[], .func (.func 28) #[] #[], .func (.func 29) #[] #[], .func (.func 30) #[] #[], .func (.func 31) #[] #[], .func (.func 32) #[] #[], .func (.func 33) #[] #[]] 74) := ⟨_, rfl⟩
  have hn3 : Nw w W3 := by rw [hW3]; exact (by repeat (first | exact Xt.Nw.refl _ | refine Xt.Nw.drew ?_ | refine Xt.Nw.drewN ?_ _ | refine Xt.Nw.alloc ?_ _ | refine Xt.Nw.joined ?_ | refine Xt.Nw.drewd ?_ | refine Xt.Nw.drewdN ?_ | refine Xt.Nw.ext ?_ | refine Xt.Nw.ext_some ?_ (by assumption) | refine Xt.Nw.setCell ?_ (by simp [go_sem] <;> omega) _))
  have q0 : W3.cell? ⟨w.heap.size, 0, none⟩ = some (.int .u8 4) := by rw [hW3]; simp [go_sem]
  have q1 : W3.cell? ⟨w.heap.size, 1, none⟩ = some (.int .u64 4) := by rw [hW3]; simp [go_sem]
  have q2 : W3.cell? ⟨w.heap.size, 2, none⟩ = some (.int .u64 0) := by rw [hW3]; simp [go_sem]
  have q3 : W3.cell? ⟨w.heap.size, 3, none⟩ = some (.int .u64 2) := by rw [hW3]; simp [go_sem]
  have q4 : W3.cell? ⟨w.heap.size, 4, none⟩ = some (.int .u64 0) := by rw [hW3]; simp [go_sem]
  have q5 : W3.cell? ⟨w.heap.size, 5, none⟩ = some (.int .u64 0) := by rw [hW3]; simp [go_sem]
  have q6 : W3.cell? ⟨w.heap.size, 6, none⟩ = some (.int .u64 0) := by rw [hW3]; simp [go_sem]
  have r0 : W3.cell? ⟨w.heap.size + 1, 0, none⟩ = some (.int .i64 0) := by rw [hW3]; simp [go_sem]
  have r1 : W3.cell? ⟨w.heap.size + 1, 1, none⟩ = some (.bool false) := by rw [hW3]; simp [go_sem]
  have r2 : W3.cell? ⟨w.heap.size + 1, 2, none⟩ = some (.int .u64 0) := by rw [hW3]; simp [go_sem]
  have r3 : W3.cell? ⟨w.heap.size + 1, 3, none⟩ = some (.int .u64 0) := by rw [hW3]; simp [go_sem]
  have r4 : W3.cell? ⟨w.heap.size + 1, 4, none⟩ = some (.int .i64 0) := by rw [hW3]; simp [go_sem]
  have zz : ∀ o, W3.frozen? ⟨w.heap.size + 1, o, none⟩ = false := fun o => by rw [hW3]; simp [go_sem]
  have qf : W3.cell? ⟨w.heap.size + 1 + 1, 4, none⟩ = some (.func (.func 22) #[] #[]) := by rw [hW3]; simp [go_sem]
  have hs3 : w.heap.size + 1 < W3.heap.size := by rw [hW3]; simp
  have HN3 := Lib.hid hn3
  have HW3 := Lib.hid hW3
  have HR := Lib.hid (⟨r0, r1, r2, r3, r4⟩ : W3.cell? ⟨w.heap.size + 1, 0, none⟩ = some (.int .i64 0) ∧ W3.cell? ⟨w.heap.size + 1, 1, none⟩ = some (.bool false) ∧ W3.cell? ⟨w.heap.size + 1, 2, none⟩ = some (.int .u64 0) ∧ W3.cell? ⟨w.heap.size + 1, 3, none⟩ = some (.int .u64 0) ∧ W3.cell? ⟨w.heap.size + 1, 4, none⟩ = some (.int .i64 0))
  have HZ := Lib.hid zz
  have HS3 := Lib.hid hs3
  clear hn3 hW3 r0 r1 r2 r3 r4 zz hs3
  go_enter Try.func12, Try.ntmps12
  go_upto_region 2 with (fail)
  rw [← HW3.out]
  go_still_tail 7, (by kernel_rfl)
  change wpList _ _ _ _ _ W3.drew
  go_wp2_with fail
  refine (HS.out W3.drew (Nw.drew HN3.out)).mono ?_
  rintro e W4 ⟨rfl, hch, hpo⟩
  have hX : w.heap.size + 1 ∉ ([gp] : List Nat) := by have := H.out.ip; simp; omega
  have hch0 : Chg [gp] W3 W4 := ⟨hch.os, hch.tape, hch.output, hch.size, hch.block⟩
  have r0 := hch0.cell HR.out.1 hX
  have r1 := hch0.cell HR.out.2.1 hX
  have r2 := hch0.cell HR.out.2.2.1 hX
  have r3 := hch0.cell HR.out.2.2.2.1 hX
  have r4 := hch0.cell HR.out.2.2.2.2 hX
  have z0 : W4.frozen? ⟨w.heap.size + 1, 0, none⟩ = false := (hch0.frozen HS3.out hX).trans (HZ.out 0)
  have z1 : W4.frozen? ⟨w.heap.size + 1, 1, none⟩ = false := (hch0.frozen HS3.out hX).trans (HZ.out 1)
  have z2 : W4.frozen? ⟨w.heap.size + 1, 2, none⟩ = false := (hch0.frozen HS3.out hX).trans (HZ.out 2)
  have z3 : W4.frozen? ⟨w.heap.size + 1, 3, none⟩ = false := (hch0.frozen HS3.out hX).trans (HZ.out 3)
  have z4 : W4.frozen? ⟨w.heap.size + 1, 4, none⟩ = false := (hch0.frozen HS3.out hX).trans (HZ.out 4)
  obtain ⟨gl, c, hone, hgl⟩ := hpo
  go_wp2
  have hset : Chg [w.heap.size + 1] W4 _ := ((((Chg.set1 W4 (w.heap.size + 1) 0 (.int .i64 (0))).set2 1 (.bool false)).set2 2 (.int .u64 0)).set2 3 (.int .u64 0)).set2 4 (.int .i64 0)
  have hall : Chg [gp] w _ := (((((((Chg.of_nw HN3.out).trans hch0).setNew (p := ⟨w.heap.size + 1, 0, none⟩) (Nat.le_succ _) (.int .i64 (0))).setNew (p := ⟨w.heap.size + 1, 1, none⟩) (Nat.le_succ _) (.bool false)).setNew (p := ⟨w.heap.size + 1, 2, none⟩) (Nat.le_succ _) (.int .u64 0)).setNew (p := ⟨w.heap.size + 1, 3, none⟩) (Nat.le_succ _) (.int .u64 0)).setNew (p := ⟨w.heap.size + 1, 4, none⟩) (Nat.le_succ _) (.int .i64 0))
  refine bodyPost_ret (v := res5 0 false 0 0 0) ?_ rfl ⟨rfl, hall, ⟨gl, c, hone.chg hset (by have := H.out.ip; simp; omega) (by have := HS3.out; have h5 : W3.heap.size ≤ gl := hgl; simp; omega), Nat.le_trans HN3.out.grown.size hgl⟩⟩
  simp [results, Try.results12, go_sem, *]
set_option maxRecDepth 20000 in
set_option maxHeartbeats 8000000 in
theorem perform_6 (base : Nat) (w : World) (gm gt gp : Nat) (slots : Int) (b : List Bool) (L : Value) (h : Mdl base w gm gt gp slots b L) (gl c : Nat) (hL : L = .slice (some ⟨gl, 0, none⟩) 1 c) (hone : One w gp gl c) (hgl : gl ≠ gp) (hglm : gl ≠ gm) (hgll : gl < w.heap.size) (t : Nat) :
    Calls Try.prog 12 #[.pointer (some ⟨gm, 0, none⟩), .int .i64 t, op7 6 4 0 0 0 0 0] w fun e w' => e = .returned (res5 0 true 0 2 0) ∧ Chg [gp, gl] w w' ∧ w'.cell? ⟨gp, 0, none⟩ = some (.slice (some ⟨gl, 0, none⟩) 0 c) ∧ w'.frozen? ⟨gp, 0, none⟩ = false := by
  subst hL
  haveI : In gm w := ⟨h.im⟩
  haveI : In gt w := ⟨h.it⟩
  have HS := Lib.hid (fun W (hw : Nw w W) => mremove_any base W gm gt gp slots b gl c (h.nw hw) (hone.chg (Chg.of_nw hw : Chg [] w W) (by simp) (by simp)) hgl hglm (Nat.lt_of_lt_of_le hgll hw.grown.size) t)
  have H := Lib.hid h
  clear h
  obtain ⟨W3, hW3⟩ : ∃ W3, W3 = ((w.alloc (.cells #[.int .u8 6, .int .u64 4, .int .u64 0, .int .u64 0, .int .u64 0, .int .u64 0, .int .u64 0] 40)).alloc (.cells #[.int .i64 0, .bool false, .int .u64 0, .int .u64 0, .int .i64 0] 42)).alloc (.cells #[.nilFunc, .func (.func 19) #[] #[], .func (.func 20) #[] #[], .func (.func 21) #[] #[], .func (.func 22) #[] #[], .func (.func 23) #[] #[], .func (.func 24) #[] #[], .func (.func 25) #[] #[], .func (.func 26) #[] #[], .func (.func 27) #[] #[], .func (.func 28) #[] #[], .func (.func 29) #[] #[], .func (.func 30) #[] #[], .func (.func 31) #[] #[], .func (.func 32) #[] #[], .func (.func 33) #[] #[]] 74) := ⟨_, rfl⟩
  have hn3 : Nw w W3 := by rw [hW3]; exact (by repeat (first | exact Xt.Nw.refl _ | refine Xt.Nw.drew ?_ | refine Xt.Nw.drewN ?_ _ | refine Xt.Nw.alloc ?_ _ | refine Xt.Nw.joined ?_ | refine Xt.Nw.drewd ?_ | refine Xt.Nw.drewdN ?_ | refine Xt.Nw.ext ?_ | refine Xt.Nw.ext_some ?_ (by assumption) | refine Xt.Nw.setCell ?_ (by simp [go_sem] <;> omega) _))
  have q0 : W3.cell? ⟨w.heap.size, 0, none⟩ = some (.int .u8 6) := by rw [hW3]; simp [go_sem]
  have q1 : W3.cell? ⟨w.heap.size, 1, none⟩ = some (.int .u64 4) := by rw [hW3]; simp [go_sem]
  have q2 : W3.cell? ⟨w.heap.size, 2, none⟩ = some (.int .u64 0) := by rw [hW3]; simp [go_sem]
  have q3 : W3.cell? ⟨w.heap.size, 3, none⟩ = some (.int .u64 0) := by rw [hW3]; simp [go_sem]
  have q4 : W3.cell? ⟨w.heap.size, 4, none⟩ = some (.int .u64 0) := by rw [hW3]; simp [go_sem]
  have q5 : W3.cell? ⟨w.heap.size, 5, none⟩ = some (.int .u64 0) := by rw [hW3]; simp [go_sem]
  have q6 : W3.cell? ⟨w.heap.size, 6, none⟩ = some (.int .u64 0) := by rw [hW3]; simp [go_sem]
  have r0 : W3.cell? ⟨w.heap.size + 1, 0, none⟩ = some (.int .i64 0) := by rw [hW3]; simp [go_sem]
  have r1 : W3.cell? ⟨w.heap.size + 1, 1, none⟩ = some (.bool false) := by rw [hW3]; simp [go_sem]
  have r2 : W3.cell? ⟨w.heap.size + 1, 2, none⟩ = some (.int .u64 0) := by rw [hW3]; simp [go_sem]
  have r3 : W3.cell? ⟨w.heap.size + 1, 3, none⟩ = some (.int .u64 0) := by rw [hW3]; simp [go_sem]
  have r4 : W3.cell? ⟨w.heap.size + 1, 4, none⟩ = some (.int .i64 0) := by rw [hW3]; simp [go_sem]
  have zz : ∀ o, W3.frozen? ⟨w.heap.size + 1, o, none⟩ = false := fun o => by rw [hW3]; simp [go_sem]
  have qf : W3.cell? ⟨w.heap.size + 1 + 1, 6, none⟩ = some (.func (.func 24) #[] #[]) := by rw [hW3]; simp [go_sem]
  have hs3 : w.heap.size + 1 < W3.heap.size := by rw [hW3]; simp
  have HN3 := Lib.hid hn3
  have HW3 := Lib.hid hW3
  have HR := Lib.hid (⟨r0, r1, r2, r3, r4⟩ : W3.cell? ⟨w.heap.size + 1, 0, none⟩ = some (.int .i64 0) ∧ W3.cell? ⟨w.heap.size + 1, 1, none⟩ = some (.bool false) ∧ W3.cell? ⟨w.heap.size + 1, 2, none⟩ = some (.int .u64 0) ∧ W3.cell? ⟨w.heap.size + 1, 3, none⟩ = some (.int .u64 0) ∧ W3.cell? ⟨w.heap.size + 1, 4, none⟩ = some (.int .i64 0))
  have HZ := Lib.hid zz
  have HS3 := Lib.hid hs3
  clear hn3 hW3 r0 r1 r2 r3 r4 zz hs3
  go_enter Try.func12, Try.ntmps12
  go_upto_region 2 with (fail)
  rw [← HW3.out]
  go_still_tail 7, (by kernel_rfl)
  change wpList _ _ _ _ _ W3.drew
  go_wp2_with fail
  refine (HS.out W3.drew (Nw.drew HN3.out)).mono ?_
  rintro e W4 ⟨rfl, hch, hpo⟩
  have hX : w.heap.size + 1 ∉ ([gp, gl] : List Nat) := by have h1 := H.out.ip; simp; omega
  have hch0 : Chg [gp, gl] W3 W4 := ⟨hch.os, hch.tape, hch.output, hch.size, hch.block⟩
  have r0 := hch0.cell HR.out.1 hX
  have r1 := hch0.cell HR.out.2.1 hX
  have r2 := hch0.cell HR.out.2.2.1 hX
  have r3 := hch0.cell HR.out.2.2.2.1 hX
  have r4 := hch0.cell HR.out.2.2.2.2 hX
  have z0 : W4.frozen? ⟨w.heap.size + 1, 0, none⟩ = false := (hch0.frozen HS3.out hX).trans (HZ.out 0)
  have z1 : W4.frozen? ⟨w.heap.size + 1, 1, none⟩ = false := (hch0.frozen HS3.out hX).trans (HZ.out 1)
  have z2 : W4.frozen? ⟨w.heap.size + 1, 2, none⟩ = false := (hch0.frozen HS3.out hX).trans (HZ.out 2)
  have z3 : W4.frozen? ⟨w.heap.size + 1, 3, none⟩ = false := (hch0.frozen HS3.out hX).trans (HZ.out 3)
  have z4 : W4.frozen? ⟨w.heap.size + 1, 4, none⟩ = false := (hch0.frozen HS3.out hX).trans (HZ.out 4)
  go_wp2
  have hset : Chg [w.heap.size + 1] W4 _ := ((((Chg.set1 W4 (w.heap.size + 1) 0 (.int .i64 (0))).set2 1 (.bool true)).set2 2 (.int .u64 0)).set2 3 (.int .u64 2)).set2 4 (.int .i64 0)
  have hall : Chg [gp, gl] w _ := (((((((Chg.of_nw HN3.out).trans hch0).setNew (p := ⟨w.heap.size + 1, 0, none⟩) (Nat.le_succ _) (.int .i64 (0))).setNew (p := ⟨w.heap.size + 1, 1, none⟩) (Nat.le_succ _) (.bool true)).setNew (p := ⟨w.heap.size + 1, 2, none⟩) (Nat.le_succ _) (.int .u64 0)).setNew (p := ⟨w.heap.size + 1, 3, none⟩) (Nat.le_succ _) (.int .u64 2)).setNew (p := ⟨w.heap.size + 1, 4, none⟩) (Nat.le_succ _) (.int .i64 0))
  refine bodyPost_ret (v := res5 0 true 0 2 0) ?_ rfl ⟨rfl, hall, hset.cell hpo.1 (by have := H.out.ip; simp; omega), (hset.frozen (World.block_lt_of_cell? _ _ hpo.1) (by have := H.out.ip; simp; omega)).trans hpo.2⟩
  simp [results, Try.results12, go_sem, *]
set_option maxRecDepth 20000 in
set_option maxHeartbeats 8000000 in
theorem perform_10 (base : Nat) (w : World) (gm gt gp : Nat) (slots : Int) (b : List Bool) (L : Value) (h : Mdl base w gm gt gp slots b L) (A : Option Addr) (c : Nat) (hL : L = .slice A 0 c) (t : Nat) :
    Calls Try.prog 12 #[.pointer (some ⟨gm, 0, none⟩), .int .i64 t, op7 10 0 0 0 0 0 0] w fun e w' => e = .returned (res5 0 false 0 0 0) ∧ Chg ([] : List Nat) w w' ∧ True := by
  subst hL
  haveI : In gm w := ⟨h.im⟩
  haveI : In gt w := ⟨h.it⟩
  have HS := Lib.hid (fun W (hw : Nw w W) => (msize_any base W gm gt gp slots b A c (h.nw hw) t).mono (fun e w' hh => (⟨hh.1, Chg.of_nw hh.2, True.intro⟩ : e = .returned (res5 0 false 0 0 0) ∧ Chg [] W w' ∧ True)))
  have H := Lib.hid h
  clear h
  obtain ⟨W3, hW3⟩ : ∃ W3, W3 = ((w.alloc (.cells #[.int .u8 10, .int .u64 0, .int .u64 0, .int .u64 0, .int .u64 0, .int .u64 0, .int .u64 0] 40)).alloc (.cells #[.int .i64 0, .bool false, .int .u64 0, .int .u64 0, .int .i64 0] 42)).alloc (.cells #[.nilFunc, .func (.func 19) #[] #[], .func (.func 20) #[] #[], .func (.func 21) #[] #[], .func (.func 22) #[] #[], .func (.func 23) #[] #[], .func (.func 24) #[] #[], .func (.func 25) #[] #[], .func (.func 26) #[] #[], .func (.func 27) #[] #[], .func (.func 28) #[] #[], .func (.func 29) #[] #[], .func (.func 30) #[] #[], .func (.func 31) #[] #[], .func (.func 32) #[] #[], .func (.func 33) #[] #[]] 74) := ⟨_, rfl⟩
  have hn3 : Nw w W3 := by rw [hW3]; exact (by repeat (first | exact Xt.Nw.refl _ | refine Xt.Nw.drew ?_ | refine Xt.Nw.drewN ?_ _ | refine Xt.Nw.alloc ?_ _ | refine Xt.Nw.joined ?_ | refine Xt.Nw.drewd ?_ | refine Xt.Nw.drewdN ?_ | refine Xt.Nw.ext ?_ | refine Xt.Nw.ext_some ?_ (by assumption) | refine Xt.Nw.setCell ?_ (by simp [go_sem] <;> omega) _))
  have q0 : W3.cell? ⟨w.heap.size, 0, none⟩ = some (.int .u8 10) := by rw [hW3]; simp [go_sem]
  have q1 : W3.cell? ⟨w.heap.size, 1, none⟩ = some (.int .u64 0) := by rw [hW3]; simp [go_sem]
  have q2 : W3.cell? ⟨w.heap.size, 2, none⟩ = some (.int .u64 0) := by rw [hW3]; simp [go_sem]
  have q3 : W3.cell? ⟨w.heap.size, 3, none⟩ = some (.int .u64 0) := by rw [hW3]; simp [go_sem]
  have q4 : W3.cell? ⟨w.heap.size, 4, none⟩ = some (.int .u64 0) := by rw [hW3]; simp [go_sem]
  have q5 : W3.cell? ⟨w.heap.size, 5, none⟩ = some (.int .u64 0) := by rw [hW3]; simp [go_sem]
  have q6 : W3.cell? ⟨w.heap.size, 6, none⟩ = some (.int .u64 0) := by rw [hW3]; simp [go_sem]
  have r0 : W3.cell? ⟨w.heap.size + 1, 0, none⟩ = some (.int .i64 0) := by rw [hW3]; simp [go_sem]
  have r1 : W3.cell? ⟨w.heap.size + 1, 1, none⟩ = some (.bool false) := by rw [hW3]; simp [go_sem]
  have r2 : W3.cell? ⟨w.heap.size + 1, 2, none⟩ = some (.int .u64 0) := by rw [hW3]; simp [go_sem]
  have r3 : W3.cell? ⟨w.heap.size + 1, 3, none⟩ = some (.int .u64 0) := by rw [hW3]; simp [go_sem]
  have r4 : W3.cell? ⟨w.heap.size + 1, 4, none⟩ = some (.int .i64 0) := by rw [hW3]; simp [go_sem]
  have zz : ∀ o, W3.frozen? ⟨w.heap.size + 1, o, none⟩ = false := fun o => by rw [hW3]; simp [go_sem]
  have qf : W3.cell? ⟨w.heap.size + 1 + 1, 10, none⟩ = some (.func (.func 28) #[] #[]) := by rw [hW3]; simp [go_sem]
  have hs3 : w.heap.size + 1 < W3.heap.size := by rw [hW3]; simp
  have HN3 := Lib.hid hn3
  have HW3 := Lib.hid hW3
  have HR := Lib.hid (⟨r0, r1, r2, r3, r4⟩ : W3.cell? ⟨w.heap.size + 1, 0, none⟩ = some (.int .i64 0) ∧ W3.cell? ⟨w.heap.size + 1, 1, none⟩ = some (.bool false) ∧ W3.cell? ⟨w.heap.size + 1, 2, none⟩ = some (.int .u64 0) ∧ W3.cell? ⟨w.heap.size + 1, 3, none⟩ = some (.int .u64 0) ∧ W3.cell? ⟨w.heap.size + 1, 4, none⟩ = some (.int .i64 0))
  have HZ := Lib.hid zz
  have HS3 := Lib.hid hs3
  clear hn3 hW3 r0 r1 r2 r3 r4 zz hs3
  go_enter Try.func12, Try.ntmps12
  go_upto_region 2 with (fail)
  rw [← HW3.out]
  go_still_tail 7, (by kernel_rfl)
  change wpList _ _ _ _ _ W3.drew
  go_wp2_with fail
  refine (HS.out W3.drew (Nw.drew HN3.out)).mono ?_
  rintro e W4 ⟨rfl, hch, hpo⟩
  have hX : w.heap.size + 1 ∉ (([] : List Nat) : List Nat) := by simp
  have hch0 : Chg ([] : List Nat) W3 W4 := ⟨hch.os, hch.tape, hch.output, hch.size, hch.block⟩
  have r0 := hch0.cell HR.out.1 hX
  have r1 := hch0.cell HR.out.2.1 hX
  have r2 := hch0.cell HR.out.2.2.1 hX
  have r3 := hch0.cell HR.out.2.2.2.1 hX
  have r4 := hch0.cell HR.out.2.2.2.2 hX
  have z0 : W4.frozen? ⟨w.heap.size + 1, 0, none⟩ = false := (hch0.frozen HS3.out hX).trans (HZ.out 0)
  have z1 : W4.frozen? ⟨w.heap.size + 1, 1, none⟩ = false := (hch0.frozen HS3.out hX).trans (HZ.out 1)
  have z2 : W4.frozen? ⟨w.heap.size + 1, 2, none⟩ = false := (hch0.frozen HS3.out hX).trans (HZ.out 2)
  have z3 : W4.frozen? ⟨w.heap.size + 1, 3, none⟩ = false := (hch0.frozen HS3.out hX).trans (HZ.out 3)
  have z4 : W4.frozen? ⟨w.heap.size + 1, 4, none⟩ = false := (hch0.frozen HS3.out hX).trans (HZ.out 4)
  go_wp2
  have hset : Chg [w.heap.size + 1] W4 _ := ((((Chg.set1 W4 (w.heap.size + 1) 0 (.int .i64 (0))).set2 1 (.bool false)).set2 2 (.int .u64 0)).set2 3 (.int .u64 0)).set2 4 (.int .i64 0)
  have hall : Chg ([] : List Nat) w _ := (((((((Chg.of_nw HN3.out).trans hch0).setNew (p := ⟨w.heap.size + 1, 0, none⟩) (Nat.le_succ _) (.int .i64 (0))).setNew (p := ⟨w.heap.size + 1, 1, none⟩) (Nat.le_succ _) (.bool false)).setNew (p := ⟨w.heap.size + 1, 2, none⟩) (Nat.le_succ _) (.int .u64 0)).setNew (p := ⟨w.heap.size + 1, 3, none⟩) (Nat.le_succ _) (.int .u64 0)).setNew (p := ⟨w.heap.size + 1, 4, none⟩) (Nat.le_succ _) (.int .i64 0))
  refine bodyPost_ret (v := res5 0 false 0 0 0) ?_ rfl ⟨rfl, hall, True.intro⟩
  simp [results, Try.results12, go_sem, *]
set_option maxRecDepth 20000 in
set_option maxHeartbeats 8000000 in
theorem do_4tt (base : Nat) (w : World) (gm gt gp : Nat) (slots : Int) (b : List Bool) (L : Value) (h : Mdl base w gm gt gp slots b L) (hL : L = .slice none 0 0) (t : Nat) (ht : b[t]? = some true) :
    Calls Try.prog 7 #[.pointer (some ⟨gm, 0, none⟩), .int .i64 t, op7 4 4 0 2 0 0 0] w fun e w' => e = .returned (res5 0 false 0 0 0) ∧ Chg [gp] w w' ∧ ∃ gl c, One w' gp gl c ∧ w.heap.size ≤ gl := by
  subst hL
  haveI : In gm w := ⟨h.im⟩
  have HR := Lib.hid (fun W (hw : Nw w W) => refuse_4_tt base W gm gt gp slots b _ (h.nw hw) t ht)
  have HS := Lib.hid (fun W (hw : Nw w W) => perform_4 base W gm gt gp slots b _ (h.nw hw) rfl t)
  have H := Lib.hid h
  clear h
  obtain ⟨W2, hW2⟩ : ∃ W2, W2 = (w.alloc (.cells #[.int .u8 4, .int .u64 4, .int .u64 0, .int .u64 2, .int .u64 0, .int .u64 0, .int .u64 0] 40)).alloc (.cells #[.int .i64 0, .bool false, .int .u64 0, .int .u64 0, .int .i64 0] 42) := ⟨_, rfl⟩
  have hn2 : Nw w W2 := by rw [hW2]; exact (by repeat (first | exact Xt.Nw.refl _ | refine Xt.Nw.drew ?_ | refine Xt.Nw.drewN ?_ _ | refine Xt.Nw.alloc ?_ _ | refine Xt.Nw.joined ?_ | refine Xt.Nw.drewd ?_ | refine Xt.Nw.drewdN ?_ | refine Xt.Nw.ext ?_ | refine Xt.Nw.ext_some ?_ (by assumption) | refine Xt.Nw.setCell ?_ (by simp [go_sem] <;> omega) _))
  have q0 : W2.cell? ⟨w.heap.size, 0, none⟩ = some (.int .u8 4) := by rw [hW2]; simp [go_sem]
  have q1 : W2.cell? ⟨w.heap.size, 1, none⟩ = some (.int .u64 4) := by rw [hW2]; simp [go_sem]
  have q2 : W2.cell? ⟨w.heap.size, 2, none⟩ = some (.int .u64 0) := by rw [hW2]; simp [go_sem]
  have q3 : W2.cell? ⟨w.heap.size, 3, none⟩ = some (.int .u64 2) := by rw [hW2]; simp [go_sem]
  have q4 : W2.cell? ⟨w.heap.size, 4, none⟩ = some (.int .u64 0) := by rw [hW2]; simp [go_sem]
  have q5 : W2.cell? ⟨w.heap.size, 5, none⟩ = some (.int .u64 0) := by rw [hW2]; simp [go_sem]
  have q6 : W2.cell? ⟨w.heap.size, 6, none⟩ = some (.int .u64 0) := by rw [hW2]; simp [go_sem]
  have r0 : W2.cell? ⟨w.heap.size + 1, 0, none⟩ = some (.int .i64 0) := by rw [hW2]; simp [go_sem]
  have r1 : W2.cell? ⟨w.heap.size + 1, 1, none⟩ = some (.bool false) := by rw [hW2]; simp [go_sem]
  have r2 : W2.cell? ⟨w.heap.size + 1, 2, none⟩ = some (.int .u64 0) := by rw [hW2]; simp [go_sem]
  have r3 : W2.cell? ⟨w.heap.size + 1, 3, none⟩ = some (.int .u64 0) := by rw [hW2]; simp [go_sem]
  have r4 : W2.cell? ⟨w.heap.size + 1, 4, none⟩ = some (.int .i64 0) := by rw [hW2]; simp [go_sem]
  have zz : ∀ o, W2.frozen? ⟨w.heap.size + 1, o, none⟩ = false := fun o => by rw [hW2]; simp [go_sem]
  have hs2 : w.heap.size + 1 < W2.heap.size := by rw [hW2]; simp
  have HN2 := Lib.hid hn2
  have HW2 := Lib.hid hW2
  have HS2 := Lib.hid hs2
  have HZ := Lib.hid zz
  clear hn2 hW2 hs2 zz
  go_enter Try.func7, Try.ntmps7
  go_wp2_with fail
  rw [← HW2.out]
  refine (HR.out W2 HN2.out).mono ?_
  rintro e W3 ⟨rfl, hn3⟩
  replace q0 := cell_nw q0 hn3
  replace q1 := cell_nw q1 hn3
  replace q2 := cell_nw q2 hn3
  replace q3 := cell_nw q3 hn3
  replace q4 := cell_nw q4 hn3
  replace q5 := cell_nw q5 hn3
  replace q6 := cell_nw q6 hn3
  replace r0 := cell_nw r0 hn3
  replace r1 := cell_nw r1 hn3
  replace r2 := cell_nw r2 hn3
  replace r3 := cell_nw r3 hn3
  replace r4 := cell_nw r4 hn3
  have z0 : W3.frozen? ⟨w.heap.size + 1, 0, none⟩ = false := (frozen_nw HS2.out hn3).trans (HZ.out 0)
  have z1 : W3.frozen? ⟨w.heap.size + 1, 1, none⟩ = false := (frozen_nw HS2.out hn3).trans (HZ.out 1)
  have z2 : W3.frozen? ⟨w.heap.size + 1, 2, none⟩ = false := (frozen_nw HS2.out hn3).trans (HZ.out 2)
  have z3 : W3.frozen? ⟨w.heap.size + 1, 3, none⟩ = false := (frozen_nw HS2.out hn3).trans (HZ.out 3)
  have z4 : W3.frozen? ⟨w.heap.size + 1, 4, none⟩ = false := (frozen_nw HS2.out hn3).trans (HZ.out 4)
  have HS3 := Lib.hid (Nat.lt_of_lt_of_le HS2.out hn3.grown.size)
  have HN3 := Lib.hid (HN2.out.trans hn3)
  clear hn3
  have HR3 := Lib.hid (⟨r0, r1, r2, r3, r4⟩ : W3.cell? ⟨w.heap.size + 1, 0, none⟩ = some (.int .i64 0) ∧ W3.cell? ⟨w.heap.size + 1, 1, none⟩ = some (.bool false) ∧ W3.cell? ⟨w.heap.size + 1, 2, none⟩ = some (.int .u64 0) ∧ W3.cell? ⟨w.heap.size + 1, 3, none⟩ = some (.int .u64 0) ∧ W3.cell? ⟨w.heap.size + 1, 4, none⟩ = some (.int .i64 0))
  have HZ3 := Lib.hid (⟨z0, z1, z2, z3, z4⟩ : W3.frozen? ⟨w.heap.size + 1, 0, none⟩ = false ∧ W3.frozen? ⟨w.heap.size + 1, 1, none⟩ = false ∧ W3.frozen? ⟨w.heap.size + 1, 2, none⟩ = false ∧ W3.frozen? ⟨w.heap.size + 1, 3, none⟩ = false ∧ W3.frozen? ⟨w.heap.size + 1, 4, none⟩ = false)
  clear r0 r1 r2 r3 r4 z0 z1 z2 z3 z4
  go_wp2_with fail
  refine (HS.out W3 HN3.out).mono ?_
  rintro e W4 ⟨rfl, hch, hpo⟩
  have hX : w.heap.size + 1 ∉ ([gp] : List Nat) := by have := H.out.ip; simp; omega
  have r0 := hch.cell HR3.out.1 hX
  have r1 := hch.cell HR3.out.2.1 hX
  have r2 := hch.cell HR3.out.2.2.1 hX
  have r3 := hch.cell HR3.out.2.2.2.1 hX
  have r4 := hch.cell HR3.out.2.2.2.2 hX
  have z0 := (hch.frozen HS3.out hX).trans HZ3.out.1
  have z1 := (hch.frozen HS3.out hX).trans HZ3.out.2.1
  have z2 := (hch.frozen HS3.out hX).trans HZ3.out.2.2.1
  have z3 := (hch.frozen HS3.out hX).trans HZ3.out.2.2.2.1
  have z4 := (hch.frozen HS3.out hX).trans HZ3.out.2.2.2.2
  obtain ⟨gl, c, hone, hgl⟩ := hpo
  go_wp2
  have hset : Chg [w.heap.size + 1] W4 _ := ((((Chg.set1 W4 (w.heap.size + 1) 0 (.int .i64 (0))).set2 1 (.bool false)).set2 2 (.int .u64 0)).set2 3 (.int .u64 0)).set2 4 (.int .i64 0)
  have hall : Chg [gp] w _ := (((((((Chg.of_nw HN3.out).trans hch).setNew (p := ⟨w.heap.size + 1, 0, none⟩) (Nat.le_succ _) (.int .i64 (0))).setNew (p := ⟨w.heap.size + 1, 1, none⟩) (Nat.le_succ _) (.bool false)).setNew (p := ⟨w.heap.size + 1, 2, none⟩) (Nat.le_succ _) (.int .u64 0)).setNew (p := ⟨w.heap.size + 1, 3, none⟩) (Nat.le_succ _) (.int .u64 0)).setNew (p := ⟨w.heap.size + 1, 4, none⟩) (Nat.le_succ _) (.int .i64 0))
  refine bodyPost_ret (v := res5 0 false 0 0 0) ?_ rfl ⟨rfl, hall, ⟨gl, c, hone.chg hset (by have := H.out.ip; simp; omega) (by have := HS3.out; have h5 : W3.heap.size ≤ gl := hgl; simp; omega), Nat.le_trans HN3.out.grown.size hgl⟩⟩
  simp [results, Try.results7, go_sem, *]
set_option maxRecDepth 20000 in
set_option maxHeartbeats 8000000 in
theorem do_6tt (base : Nat) (w : World) (gm gt gp : Nat) (slots : Int) (b : List Bool) (L : Value) (h : Mdl base w gm gt gp slots b L) (gl c : Nat) (hL : L = .slice (some ⟨gl, 0, none⟩) 1 c) (hone : One w gp gl c) (hgl : gl ≠ gp) (hglm : gl ≠ gm) (hgll : gl < w.heap.size) (t : Nat) (ht : b[t]? = some true) :
    Calls Try.prog 7 #[.pointer (some ⟨gm, 0, none⟩), .int .i64 t, op7 6 4 0 0 0 0 0] w fun e w' => e = .returned (res5 0 true 0 2 0) ∧ Chg [gp, gl] w w' ∧ w'.cell? ⟨gp, 0, none⟩ = some (.slice (some ⟨gl, 0, none⟩) 0 c) ∧ w'.frozen? ⟨gp, 0, none⟩ = false := by
  subst hL
  haveI : In gm w := ⟨h.im⟩
  have HR := Lib.hid (fun W (hw : Nw w W) => refuse_6_tt base W gm gt gp slots b _ (h.nw hw) t ht)
  have HS := Lib.hid (fun W (hw : Nw w W) => perform_6 base W gm gt gp slots b _ (h.nw hw) gl c rfl (hone.chg (Chg.of_nw hw : Chg [] w W) (by simp) (by simp)) hgl hglm (Nat.lt_of_lt_of_le hgll hw.grown.size) t)
  have H := Lib.hid h
  clear h
  obtain ⟨W2, hW2⟩ : ∃ W2, W2 = (w.alloc (.cells #[.int .u8 6, .int .u64 4, .int .u64 0, .int .u64 0, .int .u64 0, .int .u64 0, .int .u64 0] 40)).alloc (.cells #[.int .i64 0, .bool false, .int .u64 0, .int .u64 0, .int .i64 0] 42) := ⟨_, rfl⟩
  have hn2 : Nw w W2 := by rw [hW2]; exact (by repeat (first | exact Xt.Nw.refl _ | refine Xt.Nw.drew ?_ | refine Xt.Nw.drewN ?_ _ | refine Xt.Nw.alloc ?_ _ | refine Xt.Nw.joined ?_ | refine Xt.Nw.drewd ?_ | refine Xt.Nw.drewdN ?_ | refine Xt.Nw.ext ?_ | refine Xt.Nw.ext_some ?_ (by assumption) | refine Xt.Nw.setCell ?_ (by simp [go_sem] <;> omega) _))
  have q0 : W2.cell? ⟨w.heap.size, 0, none⟩ = some (.int .u8 6) := by rw [hW2]; simp [go_sem]
  have q1 : W2.cell? ⟨w.heap.size, 1, none⟩ = some (.int .u64 4) := by rw [hW2]; simp [go_sem]
  have q2 : W2.cell? ⟨w.heap.size, 2, none⟩ = some (.int .u64 0) := by rw [hW2]; simp [go_sem]
  have q3 : W2.cell? ⟨w.heap.size, 3, none⟩ = some (.int .u64 0) := by rw [hW2]; simp [go_sem]
  have q4 : W2.cell? ⟨w.heap.size, 4, none⟩ = some (.int .u64 0) := by rw [hW2]; simp [go_sem]
  have q5 : W2.cell? ⟨w.heap.size, 5, none⟩ = some (.int .u64 0) := by rw [hW2]; simp [go_sem]
  have q6 : W2.cell? ⟨w.heap.size, 6, none⟩ = some (.int .u64 0) := by rw [hW2]; simp [go_sem]
  have r0 : W2.cell? ⟨w.heap.size + 1, 0, none⟩ = some (.int .i64 0) := by rw [hW2]; simp [go_sem]
  have r1 : W2.cell? ⟨w.heap.size + 1, 1, none⟩ = some (.bool false) := by rw [hW2]; simp [go_sem]
  have r2 : W2.cell? ⟨w.heap.size + 1, 2, none⟩ = some (.int .u64 0) := by rw [hW2]; simp [go_sem]
  have r3 : W2.cell? ⟨w.heap.size + 1, 3, none⟩ = some (.int .u64 0) := by rw [hW2]; simp [go_sem]
  have r4 : W2.cell? ⟨w.heap.size + 1, 4, none⟩ = some (.int .i64 0) := by rw [hW2]; simp [go_sem]
  have zz : ∀ o, W2.frozen? ⟨w.heap.size + 1, o, none⟩ = false := fun o => by rw [hW2]; simp [go_sem]
  have hs2 : w.heap.size + 1 < W2.heap.size := by rw [hW2]; simp
  have HN2 := Lib.hid hn2
  have HW2 := Lib.hid hW2
  have HS2 := Lib.hid hs2
  have HZ := Lib.hid zz
  clear hn2 hW2 hs2 zz
  go_enter Try.func7, Try.ntmps7
  go_wp2_with fail
  rw [← HW2.out]
  refine (HR.out W2 HN2.out).mono ?_
  rintro e W3 ⟨rfl, hn3⟩
  replace q0 := cell_nw q0 hn3
  replace q1 := cell_nw q1 hn3
  replace q2 := cell_nw q2 hn3
  replace q3 := cell_nw q3 hn3
  replace q4 := cell_nw q4 hn3
  replace q5 := cell_nw q5 hn3
  replace q6 := cell_nw q6 hn3
  replace r0 := cell_nw r0 hn3
  replace r1 := cell_nw r1 hn3
  replace r2 := cell_nw r2 hn3
  replace r3 := cell_nw r3 hn3
  replace r4 := cell_nw r4 hn3
  have z0 : W3.frozen? ⟨w.heap.size + 1, 0, none⟩ = false := (frozen_nw HS2.out hn3).trans (HZ.out 0)
  have z1 : W3.frozen? ⟨w.heap.size + 1, 1, none⟩ = false := (frozen_nw HS2.out hn3).trans (HZ.out 1)
  have z2 : W3.frozen? ⟨w.heap.size + 1, 2, none⟩ = false := (frozen_nw HS2.out hn3).trans (HZ.out 2)
  have z3 : W3.frozen? ⟨w.heap.size + 1, 3, none⟩ = false := (frozen_nw HS2.out hn3).trans (HZ.out 3)
  have z4 : W3.frozen? ⟨w.heap.size + 1, 4, none⟩ = false := (frozen_nw HS2.out hn3).trans (HZ.out 4)
  have HS3 := Lib.hid (Nat.lt_of_lt_of_le HS2.out hn3.grown.size)
  have HN3 := Lib.hid (HN2.out.trans hn3)
  clear hn3
  have HR3 := Lib.hid (⟨r0, r1, r2, r3, r4⟩ : W3.cell? ⟨w.heap.size + 1, 0, none⟩ = some (.int .i64 0) ∧ W3.cell? ⟨w.heap.size + 1, 1, none⟩ = some (.bool false) ∧ W3.cell? ⟨w.heap.size + 1, 2, none⟩ = some (.int .u64 0) ∧ W3.cell? ⟨w.heap.size + 1, 3, none⟩ = some (.int .u64 0) ∧ W3.cell? ⟨w.heap.size + 1, 4, none⟩ = some (.int .i64 0))
  have HZ3 := Lib.hid (⟨z0, z1, z2, z3, z4⟩ : W3.frozen? ⟨w.heap.size + 1, 0, none⟩ = false ∧ W3.frozen? ⟨w.heap.size + 1, 1, none⟩ = false ∧ W3.frozen? ⟨w.heap.size + 1, 2, none⟩ = false ∧ W3.frozen? ⟨w.heap.size + 1, 3, none⟩ = false ∧ W3.frozen? ⟨w.heap.size + 1, 4, none⟩ = false)
  clear r0 r1 r2 r3 r4 z0 z1 z2 z3 z4
  go_wp2_with fail
  refine (HS.out W3 HN3.out).mono ?_
  rintro e W4 ⟨rfl, hch, hpo⟩
  have hX : w.heap.size + 1 ∉ ([gp, gl] : List Nat) := by have h1 := H.out.ip; simp; omega
  have r0 := hch.cell HR3.out.1 hX
  have r1 := hch.cell HR3.out.2.1 hX
  have r2 := hch.cell HR3.out.2.2.1 hX
  have r3 := hch.cell HR3.out.2.2.2.1 hX
  have r4 := hch.cell HR3.out.2.2.2.2 hX
  have z0 := (hch.frozen HS3.out hX).trans HZ3.out.1
  have z1 := (hch.frozen HS3.out hX).trans HZ3.out.2.1
  have z2 := (hch.frozen HS3.out hX).trans HZ3.out.2.2.1
  have z3 := (hch.frozen HS3.out hX).trans HZ3.out.2.2.2.1
  have z4 := (hch.frozen HS3.out hX).trans HZ3.out.2.2.2.2
  go_wp2
  have hset : Chg [w.heap.size + 1] W4 _ := ((((Chg.set1 W4 (w.heap.size + 1) 0 (.int .i64 (0))).set2 1 (.bool true)).set2 2 (.int .u64 0)).set2 3 (.int .u64 2)).set2 4 (.int .i64 0)
  have hall : Chg [gp, gl] w _ := (((((((Chg.of_nw HN3.out).trans hch).setNew (p := ⟨w.heap.size + 1, 0, none⟩) (Nat.le_succ _) (.int .i64 (0))).setNew (p := ⟨w.heap.size + 1, 1, none⟩) (Nat.le_succ _) (.bool true)).setNew (p := ⟨w.heap.size + 1, 2, none⟩) (Nat.le_succ _) (.int .u64 0)).setNew (p := ⟨w.heap.size + 1, 3, none⟩) (Nat.le_succ _) (.int .u64 2)).setNew (p := ⟨w.heap.size + 1, 4, none⟩) (Nat.le_succ _) (.int .i64 0))
  refine bodyPost_ret (v := res5 0 true 0 2 0) ?_ rfl ⟨rfl, hall, hset.cell hpo.1 (by have := H.out.ip; simp; omega), (hset.frozen (World.block_lt_of_cell? _ _ hpo.1) (by have := H.out.ip; simp; omega)).trans hpo.2⟩
  simp [results, Try.results7, go_sem, *]
set_option maxRecDepth 20000 in
set_option maxHeartbeats 8000000 in
theorem do_10tt (base : Nat) (w : World) (gm gt gp : Nat) (slots : Int) (b : List Bool) (L : Value) (h : Mdl base w gm gt gp slots b L) (A : Option Addr) (c : Nat) (hL : L = .slice A 0 c) (t : Nat) (ht : b[t]? = some true) :
    Calls Try.prog 7 #[.pointer (some ⟨gm, 0, none⟩), .int .i64 t, op7 10 0 0 0 0 0 0] w fun e w' => e = .returned (res5 0 false 0 0 0) ∧ Chg ([] : List Nat) w w' ∧ True := by
  subst hL
  haveI : In gm w := ⟨h.im⟩
  have HR := Lib.hid (fun W (hw : Nw w W) => refuse_10_tt base W gm gt gp slots b _ (h.nw hw) t ht)
  have HS := Lib.hid (fun W (hw : Nw w W) => perform_10 base W gm gt gp slots b _ (h.nw hw) A c rfl t)
  have H := Lib.hid h
  clear h
  obtain ⟨W2, hW2⟩ : ∃ W2, W2 = (w.alloc (.cells #[.int .u8 10, .int .u64 0, .int .u64 0, .int .u64 0, .int .u64 0, .int .u64 0, .int .u64 0] 40)).alloc (.cells #[.int .i64 0, .bool false, .int .u64 0, .int .u64 0, .int .i64 0] 42) := ⟨_, rfl⟩
  have hn2 : Nw w W2 := by rw [hW2]; exact (by repeat (first | exact Xt.Nw.refl _ | refine Xt.Nw.drew ?_ | refine Xt.Nw.drewN ?_ _ | refine Xt.Nw.alloc ?_ _ | refine Xt.Nw.joined ?_ | refine Xt.Nw.drewd ?_ | refine Xt.Nw.drewdN ?_ | refine Xt.Nw.ext ?_ | refine Xt.Nw.ext_some ?_ (by assumption) | refine Xt.Nw.setCell ?_ (by simp [go_sem] <;> omega) _))
  have q0 : W2.cell? ⟨w.heap.size, 0, none⟩ = some (.int .u8 10) := by rw [hW2]; simp [go_sem]
  have q1 : W2.cell? ⟨w.heap.size, 1, none⟩ = some (.int .u64 0) := by rw [hW2]; simp [go_sem]
  have q2 : W2.cell? ⟨w.heap.size, 2, none⟩ = some (.int .u64 0) := by rw [hW2]; simp [go_sem]
  have q3 : W2.cell? ⟨w.heap.size, 3, none⟩ = some (.int .u64 0) := by rw [hW2]; simp [go_sem]
  have q4 : W2.cell? ⟨w.heap.size, 4, none⟩ = some (.int .u64 0) := by rw [hW2]; simp [go_sem]
  have q5 : W2.cell? ⟨w.heap.size, 5, none⟩ = some (.int .u64 0) := by rw [hW2]; simp [go_sem]
  have q6 : W2.cell? ⟨w.heap.size, 6, none⟩ = some (.int .u64 0) := by rw [hW2]; simp [go_sem]
  have r0 : W2.cell? ⟨w.heap.size + 1, 0, none⟩ = some (.int .i64 0) := by rw [hW2]; simp [go_sem]
  have r1 : W2.cell? ⟨w.heap.size + 1, 1, none⟩ = some (.bool false) := by rw [hW2]; simp [go_sem]
  have r2 : W2.cell? ⟨w.heap.size + 1, 2, none⟩ = some (.int .u64 0) := by rw [hW2]; simp [go_sem]
  have r3 : W2.cell? ⟨w.heap.size + 1, 3, none⟩ = some (.int .u64 0) := by rw [hW2]; simp [go_sem]
  have r4 : W2.cell? ⟨w.heap.size + 1, 4, none⟩ = some (.int .i64 0) := by rw [hW2]; simp [go_sem]
  have zz : ∀ o, W2.frozen? ⟨w.heap.size + 1, o, none⟩ = false := fun o => by rw [hW2]; simp [go_sem]
  have hs2 : w.heap.size + 1 < W2.heap.size := by rw [hW2]; simp
  have HN2 := Lib.hid hn2
  have HW2 := Lib.hid hW2
  have HS2 := Lib.hid hs2
  have HZ := Lib.hid zz
  clear hn2 hW2 hs2 zz
  go_enter Try.func7, Try.ntmps7
  go_wp2_with fail
  rw [← HW2.out]
  refine (HR.out W2 HN2.out).mono ?_
  rintro e W3 ⟨rfl, hn3⟩
  replace q0 := cell_nw q0 hn3
  replace q1 := cell_nw q1 hn3
  replace q2 := cell_nw q2 hn3
  replace q3 := cell_nw q3 hn3
  replace q4 := cell_nw q4 hn3
  replace q5 := cell_nw q5 hn3
  replace q6 := cell_nw q6 hn3
  replace r0 := cell_nw r0 hn3
  replace r1 := cell_nw r1 hn3
  replace r2 := cell_nw r2 hn3
  replace r3 := cell_nw r3 hn3
  replace r4 := cell_nw r4 hn3
  have z0 : W3.frozen? ⟨w.heap.size + 1, 0, none⟩ = false := (frozen_nw HS2.out hn3).trans (HZ.out 0)
  have z1 : W3.frozen? ⟨w.heap.size + 1, 1, none⟩ = false := (frozen_nw HS2.out hn3).trans (HZ.out 1)
  have z2 : W3.frozen? ⟨w.heap.size + 1, 2, none⟩ = false := (frozen_nw HS2.out hn3).trans (HZ.out 2)
  have z3 : W3.frozen? ⟨w.heap.size + 1, 3, none⟩ = false := (frozen_nw HS2.out hn3).trans (HZ.out 3)
  have z4 : W3.frozen? ⟨w.heap.size + 1, 4, none⟩ = false := (frozen_nw HS2.out hn3).trans (HZ.out 4)
  have HS3 := Lib.hid (Nat.lt_of_lt_of_le HS2.out hn3.grown.size)
  have HN3 := Lib.hid (HN2.out.trans hn3)
  clear hn3
  have HR3 := Lib.hid (⟨r0, r1, r2, r3, r4⟩ : W3.cell? ⟨w.heap.size + 1, 0, none⟩ = some (.int .i64 0) ∧ W3.cell? ⟨w.heap.size + 1, 1, none⟩ = some (.bool false) ∧ W3.cell? ⟨w.heap.size + 1, 2, none⟩ = some (.int .u64 0) ∧ W3.cell? ⟨w.heap.size + 1, 3, none⟩ = some (.int .u64 0) ∧ W3.cell? ⟨w.heap.size + 1, 4, none⟩ = some (.int .i64 0))
  have HZ3 := Lib.hid (⟨z0, z1, z2, z3, z4⟩ : W3.frozen? ⟨w.heap.size + 1, 0, none⟩ = false ∧ W3.frozen? ⟨w.heap.size + 1, 1, none⟩ = false ∧ W3.frozen? ⟨w.heap.size + 1, 2, none⟩ = false ∧ W3.frozen? ⟨w.heap.size + 1, 3, none⟩ = false ∧ W3.frozen? ⟨w.heap.size + 1, 4, none⟩ = false)
  clear r0 r1 r2 r3 r4 z0 z1 z2 z3 z4
  go_wp2_with fail
  refine (HS.out W3 HN3.out).mono ?_
  rintro e W4 ⟨rfl, hch, hpo⟩
  have hX : w.heap.size + 1 ∉ (([] : List Nat) : List Nat) := by simp
  have r0 := hch.cell HR3.out.1 hX
  have r1 := hch.cell HR3.out.2.1 hX
  have r2 := hch.cell HR3.out.2.2.1 hX
  have r3 := hch.cell HR3.out.2.2.2.1 hX
  have r4 := hch.cell HR3.out.2.2.2.2 hX
  have z0 := (hch.frozen HS3.out hX).trans HZ3.out.1
  have z1 := (hch.frozen HS3.out hX).trans HZ3.out.2.1
  have z2 := (hch.frozen HS3.out hX).trans HZ3.out.2.2.1
  have z3 := (hch.frozen HS3.out hX).trans HZ3.out.2.2.2.1
  have z4 := (hch.frozen HS3.out hX).trans HZ3.out.2.2.2.2
  go_wp2
  have hset : Chg [w.heap.size + 1] W4 _ := ((((Chg.set1 W4 (w.heap.size + 1) 0 (.int .i64 (0))).set2 1 (.bool false)).set2 2 (.int .u64 0)).set2 3 (.int .u64 0)).set2 4 (.int .i64 0)
  have hall : Chg ([] : List Nat) w _ := (((((((Chg.of_nw HN3.out).trans hch).setNew (p := ⟨w.heap.size + 1, 0, none⟩) (Nat.le_succ _) (.int .i64 (0))).setNew (p := ⟨w.heap.size + 1, 1, none⟩) (Nat.le_succ _) (.bool false)).setNew (p := ⟨w.heap.size + 1, 2, none⟩) (Nat.le_succ _) (.int .u64 0)).setNew (p := ⟨w.heap.size + 1, 3, none⟩) (Nat.le_succ _) (.int .u64 0)).setNew (p := ⟨w.heap.size + 1, 4, none⟩) (Nat.le_succ _) (.int .i64 0))
  refine bodyPost_ret (v := res5 0 false 0 0 0) ?_ rfl ⟨rfl, hall, True.intro⟩
  simp [results, Try.results7, go_sem, *]
end Go.Proofs.Ytenhadpiddocbaa
