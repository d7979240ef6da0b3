import Derived.Test.YtenhadpiddocbaaMl
namespace Go.Proofs.Ytenhadpiddocbaa
open Go.RowKit Go.Xt
/-! The ordered map: Delete, Len; the model's put, remove, size. -/
theorem Chg.mono2 {X Y : List Nat} {a b : World} (h : Chg X a b) (hs : ∀ k ∈ X, k ∈ Y) : Chg Y a b := ⟨h.os, h.tape, h.output, h.size, fun k hk hx => h.block k hk fun e => hx (hs k e)⟩
set_option maxRecDepth 20000 in
set_option maxHeartbeats 4000000 in
theorem delete_1 (gp gl c : Nat) (w : World) (h : One w gp gl c) (hz : w.frozen? ⟨gp, 0, none⟩ = false) (hne : gl ≠ gp) :
    Calls Try.prog 43 #[.pointer (some ⟨gp, 0, none⟩), .int .u64 4] w fun e w' => e = .returned (.tuple #[.int .u64 2, .bool true, .int .i64 0]) ∧ Chg [gp, gl] w w' ∧ (w'.cell? ⟨gp, 0, none⟩ = some (.slice (some ⟨gl, 0, none⟩) 0 c) ∧ w'.frozen? ⟨gp, 0, none⟩ = false) := by
  obtain ⟨p0, l0, l1, lz, hc1, hc2, -⟩ := h
  haveI : In gp w := ⟨World.block_lt_of_cell? w _ p0⟩
  haveI : In gl w := ⟨World.block_lt_of_cell? w _ l0⟩
  have HLZ := Lib.hid lz
  have HC1 := Lib.hid hc1
  have HC2 := Lib.hid hc2
  have HNE := Lib.hid hne
  clear lz hc1 hc2 hne
  go_enter Try.func43, Try.ntmps43
  go_wp2_with fail
  refine (find_1 gp gl c w p0 l0).mono ?_
  rintro e W2 ⟨rfl, hn2⟩
  have q0 := cell_nw p0 hn2
  have q1 := cell_nw l0 hn2
  have q2 := cell_nw l1 hn2
  haveI : In gp W2 := ⟨World.block_lt_of_cell? W2 _ q0⟩
  haveI : In gl W2 := ⟨World.block_lt_of_cell? W2 _ q1⟩
  have HN2 := Lib.hid hn2
  have HLT := Lib.hid (World.block_lt_of_cell? w _ p0)
  have HLL := Lib.hid (World.block_lt_of_cell? w _ l0)
  clear hn2
  go_wp2_with fail
  refine (delete_s gl c W2 q1 q2 (fun o => (frozen_nw HLL.out HN2.out).trans (HLZ.out o)) HC1.out HC2.out).mono ?_
  rintro e W3 ⟨rfl, hch⟩
  have hx : gp ∉ [gl] := by have := HNE.out; simp; omega
  have r0 := hch.cell q0 hx
  have z0 : W3.frozen? ⟨gp, 0, none⟩ = false := (hch.frozen (Nat.lt_of_lt_of_le HLT.out HN2.out.grown.size) hx).trans ((frozen_nw HLT.out HN2.out).trans hz)
  have HCH := Lib.hid hch
  clear hch hx q0 q1 q2
  go_wp2
  have hall : Chg [gp, gl] w (W3.setCell ⟨gp, 0, none⟩ (.slice (some ⟨gl, 0, none⟩) 0 c)) := ((Chg.of_nw HN2.out).trans (HCH.out.mono2 (by simp))).trans ((Chg.set1 W3 gp 0 _).mono2 (by simp))
  refine bodyPost_ret (v := .tuple #[.int .u64 2, .bool true, .int .i64 0]) ?_ rfl ⟨rfl, hall, World.cell?_setCell_same _ _ _ r0, by rw [World.frozen?_setCell]; exact z0⟩
  simp [results, Try.results43, go_sem]
theorem len_any (gp : Nat) (A : Option Addr) (c : Nat) (w : World) (h : w.cell? ⟨gp, 0, none⟩ = some (.slice A 0 c)) :
    Calls Try.prog 48 #[.pointer (some ⟨gp, 0, none⟩)] w fun e w' => e = .returned (.int .i64 0) ∧ Nw w w' := by
  go_enter Try.func48, Try.ntmps48
  go_wp2
  go_ret
  exact ⟨rfl, Nw.refl _⟩
theorem One.chg {W W' : World} {gp gl c : Nat} {X : List Nat} (h : One W gp gl c) (hc : Chg X W W') (h1 : gp ∉ X) (h2 : gl ∉ X) : One W' gp gl c :=
  ⟨hc.cell h.1 h1, hc.cell h.2.1 h2, hc.cell h.2.2.1 h2, fun o => (hc.frozen (World.block_lt_of_cell? W _ h.2.1) h2).trans (h.2.2.2.1 o), h.2.2.2.2.1, h.2.2.2.2.2.1, (hc.frozen (World.block_lt_of_cell? W _ h.1) h1).trans h.2.2.2.2.2.2⟩
set_option maxRecDepth 20000 in
set_option maxHeartbeats 8000000 in
theorem mput_any (base : Nat) (w : World) (gm gt gp : Nat) (slots : Int) (b : List Bool) (h : Mdl base w gm gt gp slots b (.slice none 0 0)) (t : Nat) :
    Calls Try.prog 22 #[.pointer (some ⟨gm, 0, none⟩), .int .i64 t, op7 4 4 0 2 0 0 0] w fun e w' => e = .returned (res5 0 false 0 0 0) ∧ Chg [gp] w w' ∧ ∃ gl c, One w' gp gl c ∧ w.heap.size ≤ gl := by
  have H := Lib.hid h
  obtain ⟨W2, hW2⟩ : ∃ W2, W2 = (w.alloc (.cells #[.int .u8 4, .int .u64 4, .int .u64 0, .int .u64 2, .int .u64 0, .int .u64 0, .int .u64 0] 40)).alloc (.cells #[.int .i64 0, .bool false, .int .u64 0, .int .u64 0, .int .i64 0] 42) := ⟨_, rfl⟩
  have hn2 : Nw w W2 := by rw [hW2]; exact (by repeat (first | exact Xt.Nw.refl _ | refine Xt.Nw.drew ?_ | refine Xt.Nw.drewN ?_ _ | refine Xt.Nw.alloc ?_ _ | refine Xt.Nw.joined ?_ | refine Xt.Nw.drewd ?_ | refine Xt.Nw.drewdN ?_ | refine Xt.Nw.ext ?_ | refine Xt.Nw.ext_some ?_ (by assumption) | refine Xt.Nw.setCell ?_ (by simp [go_sem] <;> omega) _))
  have m1 := cell_nw h.m1 hn2
  have p0 := cell_nw h.p0 hn2
  have pz := (frozen_nw h.ip hn2).trans h.pz
  have q0 : W2.cell? ⟨w.heap.size, 0, none⟩ = some (.int .u8 4) := by rw [hW2]; simp [go_sem]
  have q1 : W2.cell? ⟨w.heap.size, 1, none⟩ = some (.int .u64 4) := by rw [hW2]; simp [go_sem]
  have q2 : W2.cell? ⟨w.heap.size, 2, none⟩ = some (.int .u64 0) := by rw [hW2]; simp [go_sem]
  have q3 : W2.cell? ⟨w.heap.size, 3, none⟩ = some (.int .u64 2) := by rw [hW2]; simp [go_sem]
  have q4 : W2.cell? ⟨w.heap.size, 4, none⟩ = some (.int .u64 0) := by rw [hW2]; simp [go_sem]
  have q5 : W2.cell? ⟨w.heap.size, 5, none⟩ = some (.int .u64 0) := by rw [hW2]; simp [go_sem]
  have q6 : W2.cell? ⟨w.heap.size, 6, none⟩ = some (.int .u64 0) := by rw [hW2]; simp [go_sem]
  have r0 : W2.cell? ⟨w.heap.size + 1, 0, none⟩ = some (.int .i64 0) := by rw [hW2]; simp [go_sem]
  have r1 : W2.cell? ⟨w.heap.size + 1, 1, none⟩ = some (.bool false) := by rw [hW2]; simp [go_sem]
  have r2 : W2.cell? ⟨w.heap.size + 1, 2, none⟩ = some (.int .u64 0) := by rw [hW2]; simp [go_sem]
  have r3 : W2.cell? ⟨w.heap.size + 1, 3, none⟩ = some (.int .u64 0) := by rw [hW2]; simp [go_sem]
  have r4 : W2.cell? ⟨w.heap.size + 1, 4, none⟩ = some (.int .i64 0) := by rw [hW2]; simp [go_sem]
  have zz : ∀ o, W2.frozen? ⟨w.heap.size + 1, o, none⟩ = false := fun o => by rw [hW2]; simp [go_sem]
  have hs2 : w.heap.size + 1 < W2.heap.size := by rw [hW2]; simp
  have HN2 := Lib.hid hn2
  have HW2 := Lib.hid hW2
  have HS2 := Lib.hid hs2
  have HZ := Lib.hid zz
  have HR2 := Lib.hid (⟨r0, r1, r2, r3, r4⟩ : W2.cell? ⟨w.heap.size + 1, 0, none⟩ = some (.int .i64 0) ∧ W2.cell? ⟨w.heap.size + 1, 1, none⟩ = some (.bool false) ∧ W2.cell? ⟨w.heap.size + 1, 2, none⟩ = some (.int .u64 0) ∧ W2.cell? ⟨w.heap.size + 1, 3, none⟩ = some (.int .u64 0) ∧ W2.cell? ⟨w.heap.size + 1, 4, none⟩ = some (.int .i64 0))
  have hxm : gm ∉ ([gp] : List Nat) := by have h1 := H.out.nmp; simp; omega
  have hxb : w.heap.size ∉ ([gp] : List Nat) := by have h1 := H.out.ip; simp; omega
  have hxr : w.heap.size + 1 ∉ ([gp] : List Nat) := by have h1 := H.out.ip; simp; omega
  clear h hn2 hW2 hs2 zz r0 r1 r2 r3 r4
  haveI : In gm w := ⟨H.out.im⟩
  go_enter Try.func22, Try.ntmps22
  go_upto_region 1 with (fail)
  rw [← HW2.out]
  go_region_held3 (fun w' => w'.cell? ⟨gm, 1, none⟩ = some (.pointer (some ⟨gp, 0, none⟩)) ∧ w'.cell? ⟨w.heap.size, 1, none⟩ = some (.int .u64 4) ∧ w'.cell? ⟨w.heap.size, 3, none⟩ = some (.int .u64 2)) (first | exact ⟨m1, q1, q3⟩ | exact ⟨hch.cell m1 hxm, hch.cell q1 hxb, hch.cell q3 hxb⟩)
    ((first | (go_at_call 41; refine (put_0 gp W2.drew p0 pz).mono ?_; rintro e W3 ⟨rfl, hch, gl, c, hone, hgl⟩)))
  have hch0 : Chg [gp] W2 W3 := ⟨hch.os, hch.tape, hch.output, hch.size, hch.block⟩
  have r0 := hch0.cell HR2.out.1 hxr
  have r1 := hch0.cell HR2.out.2.1 hxr
  have r2 := hch0.cell HR2.out.2.2.1 hxr
  have r3 := hch0.cell HR2.out.2.2.2.1 hxr
  have r4 := hch0.cell HR2.out.2.2.2.2 hxr
  have z0 : W3.frozen? ⟨w.heap.size + 1, 0, none⟩ = false := (hch0.frozen HS2.out hxr).trans (HZ.out 0)
  have z1 : W3.frozen? ⟨w.heap.size + 1, 1, none⟩ = false := (hch0.frozen HS2.out hxr).trans (HZ.out 1)
  have z2 : W3.frozen? ⟨w.heap.size + 1, 2, none⟩ = false := (hch0.frozen HS2.out hxr).trans (HZ.out 2)
  have z3 : W3.frozen? ⟨w.heap.size + 1, 3, none⟩ = false := (hch0.frozen HS2.out hxr).trans (HZ.out 3)
  have z4 : W3.frozen? ⟨w.heap.size + 1, 4, none⟩ = false := (hch0.frozen HS2.out hxr).trans (HZ.out 4)
  have HCH := Lib.hid hch0
  clear hch hch0
  go_wp2
  have hset : Chg [w.heap.size + 1] W3 _ := ((((Chg.set1 W3 (w.heap.size + 1) 0 (.int .i64 0)).set2 1 (.bool false)).set2 2 (.int .u64 0)).set2 3 (.int .u64 0)).set2 4 (.int .i64 0)
  have hall : Chg [gp] w _ := (((((((Chg.of_nw HN2.out).trans HCH.out).setNew (p := ⟨w.heap.size + 1, 0, none⟩) (Nat.le_succ _) (.int .i64 0)).setNew (p := ⟨w.heap.size + 1, 1, none⟩) (Nat.le_succ _) (.bool false)).setNew (p := ⟨w.heap.size + 1, 2, none⟩) (Nat.le_succ _) (.int .u64 0)).setNew (p := ⟨w.heap.size + 1, 3, none⟩) (Nat.le_succ _) (.int .u64 0)).setNew (p := ⟨w.heap.size + 1, 4, none⟩) (Nat.le_succ _) (.int .i64 0))
  refine bodyPost_ret (v := res5 0 false 0 0 0) ?_ rfl ⟨rfl, hall, gl, c, hone.chg hset (by have := H.out.ip; simp; omega) (by have := HS2.out; have h5 : W2.heap.size ≤ gl := hgl; simp; omega), Nat.le_trans HN2.out.grown.size hgl⟩
  simp [results, Try.results22, go_sem, *]
set_option maxRecDepth 20000 in
set_option maxHeartbeats 8000000 in
theorem mremove_any (base : Nat) (w : World) (gm gt gp : Nat) (slots : Int) (b : List Bool) (gl c : Nat) (h : Mdl base w gm gt gp slots b (.slice (some ⟨gl, 0, none⟩) 1 c)) (hone : One w gp gl c) (hgl : gl ≠ gp) (hglm : gl ≠ gm) (hgll : gl < w.heap.size) (t : Nat) :
    Calls Try.prog 24 #[.pointer (some ⟨gm, 0, none⟩), .int .i64 t, op7 6 4 0 0 0 0 0] w fun e w' => e = .returned (res5 0 true 0 2 0) ∧ Chg [gp, gl] w w' ∧ w'.cell? ⟨gp, 0, none⟩ = some (.slice (some ⟨gl, 0, none⟩) 0 c) ∧ w'.frozen? ⟨gp, 0, none⟩ = false := by
  have H := Lib.hid h
  obtain ⟨W2, hW2⟩ : ∃ W2, W2 = (w.alloc (.cells #[.int .u8 6, .int .u64 4, .int .u64 0, .int .u64 0, .int .u64 0, .int .u64 0, .int .u64 0] 40)).alloc (.cells #[.int .i64 0, .bool false, .int .u64 0, .int .u64 0, .int .i64 0] 42) := ⟨_, rfl⟩
  have hn2 : Nw w W2 := by rw [hW2]; exact (by repeat (first | exact Xt.Nw.refl _ | refine Xt.Nw.drew ?_ | refine Xt.Nw.drewN ?_ _ | refine Xt.Nw.alloc ?_ _ | refine Xt.Nw.joined ?_ | refine Xt.Nw.drewd ?_ | refine Xt.Nw.drewdN ?_ | refine Xt.Nw.ext ?_ | refine Xt.Nw.ext_some ?_ (by assumption) | refine Xt.Nw.setCell ?_ (by simp [go_sem] <;> omega) _))
  have m1 := cell_nw h.m1 hn2
  have p0 := cell_nw h.p0 hn2
  have pz := (frozen_nw h.ip hn2).trans h.pz
  have q0 : W2.cell? ⟨w.heap.size, 0, none⟩ = some (.int .u8 6) := by rw [hW2]; simp [go_sem]
  have q1 : W2.cell? ⟨w.heap.size, 1, none⟩ = some (.int .u64 4) := by rw [hW2]; simp [go_sem]
  have q2 : W2.cell? ⟨w.heap.size, 2, none⟩ = some (.int .u64 0) := by rw [hW2]; simp [go_sem]
  have q3 : W2.cell? ⟨w.heap.size, 3, none⟩ = some (.int .u64 0) := by rw [hW2]; simp [go_sem]
  have q4 : W2.cell? ⟨w.heap.size, 4, none⟩ = some (.int .u64 0) := by rw [hW2]; simp [go_sem]
  have q5 : W2.cell? ⟨w.heap.size, 5, none⟩ = some (.int .u64 0) := by rw [hW2]; simp [go_sem]
  have q6 : W2.cell? ⟨w.heap.size, 6, none⟩ = some (.int .u64 0) := by rw [hW2]; simp [go_sem]
  have r0 : W2.cell? ⟨w.heap.size + 1, 0, none⟩ = some (.int .i64 0) := by rw [hW2]; simp [go_sem]
  have r1 : W2.cell? ⟨w.heap.size + 1, 1, none⟩ = some (.bool false) := by rw [hW2]; simp [go_sem]
  have r2 : W2.cell? ⟨w.heap.size + 1, 2, none⟩ = some (.int .u64 0) := by rw [hW2]; simp [go_sem]
  have r3 : W2.cell? ⟨w.heap.size + 1, 3, none⟩ = some (.int .u64 0) := by rw [hW2]; simp [go_sem]
  have r4 : W2.cell? ⟨w.heap.size + 1, 4, none⟩ = some (.int .i64 0) := by rw [hW2]; simp [go_sem]
  have zz : ∀ o, W2.frozen? ⟨w.heap.size + 1, o, none⟩ = false := fun o => by rw [hW2]; simp [go_sem]
  have hs2 : w.heap.size + 1 < W2.heap.size := by rw [hW2]; simp
  have HN2 := Lib.hid hn2
  have HW2 := Lib.hid hW2
  have HS2 := Lib.hid hs2
  have HZ := Lib.hid zz
  have HR2 := Lib.hid (⟨r0, r1, r2, r3, r4⟩ : W2.cell? ⟨w.heap.size + 1, 0, none⟩ = some (.int .i64 0) ∧ W2.cell? ⟨w.heap.size + 1, 1, none⟩ = some (.bool false) ∧ W2.cell? ⟨w.heap.size + 1, 2, none⟩ = some (.int .u64 0) ∧ W2.cell? ⟨w.heap.size + 1, 3, none⟩ = some (.int .u64 0) ∧ W2.cell? ⟨w.heap.size + 1, 4, none⟩ = some (.int .i64 0))
  have ho2 : One W2 gp gl c := hone.chg (Chg.of_nw HN2.out : Chg [] w W2) (by simp) (by simp)
  have hxm : gm ∉ ([gp, gl] : List Nat) := by have h1 := H.out.nmp; simp; omega
  have hxb : w.heap.size ∉ ([gp, gl] : List Nat) := by have h1 := H.out.ip; simp; omega
  have hxr : w.heap.size + 1 ∉ ([gp, gl] : List Nat) := by have h1 := H.out.ip; simp; omega
  clear h hn2 hW2 hs2 zz r0 r1 r2 r3 r4
  haveI : In gm w := ⟨H.out.im⟩
  go_enter Try.func24, Try.ntmps24
  go_upto_region 1 with (fail)
  rw [← HW2.out]
  go_region_held3 (fun w' => w'.cell? ⟨gm, 1, none⟩ = some (.pointer (some ⟨gp, 0, none⟩)) ∧ w'.cell? ⟨w.heap.size, 1, none⟩ = some (.int .u64 4) ∧ w'.cell? ⟨w.heap.size, 3, none⟩ = some (.int .u64 0)) (first | exact ⟨m1, q1, q3⟩ | exact ⟨hch.cell m1 hxm, hch.cell q1 hxb, hch.cell q3 hxb⟩)
    ((first | (go_at_call 43; refine (delete_1 gp gl c W2.drew ho2 pz hgl).mono ?_; rintro e W3 ⟨rfl, hch, hl0⟩)))
  have hch0 : Chg [gp, gl] W2 W3 := ⟨hch.os, hch.tape, hch.output, hch.size, hch.block⟩
  have r0 := hch0.cell HR2.out.1 hxr
  have r1 := hch0.cell HR2.out.2.1 hxr
  have r2 := hch0.cell HR2.out.2.2.1 hxr
  have r3 := hch0.cell HR2.out.2.2.2.1 hxr
  have r4 := hch0.cell HR2.out.2.2.2.2 hxr
  have z0 : W3.frozen? ⟨w.heap.size + 1, 0, none⟩ = false := (hch0.frozen HS2.out hxr).trans (HZ.out 0)
  have z1 : W3.frozen? ⟨w.heap.size + 1, 1, none⟩ = false := (hch0.frozen HS2.out hxr).trans (HZ.out 1)
  have z2 : W3.frozen? ⟨w.heap.size + 1, 2, none⟩ = false := (hch0.frozen HS2.out hxr).trans (HZ.out 2)
  have z3 : W3.frozen? ⟨w.heap.size + 1, 3, none⟩ = false := (hch0.frozen HS2.out hxr).trans (HZ.out 3)
  have z4 : W3.frozen? ⟨w.heap.size + 1, 4, none⟩ = false := (hch0.frozen HS2.out hxr).trans (HZ.out 4)
  have HCH := Lib.hid hch0
  clear hch hch0
  go_wp2
  have hset : Chg [w.heap.size + 1] W3 _ := ((((Chg.set1 W3 (w.heap.size + 1) 0 (.int .i64 0)).set2 1 (.bool true)).set2 2 (.int .u64 0)).set2 3 (.int .u64 2)).set2 4 (.int .i64 0)
  have hall : Chg [gp, gl] w _ := (((((((Chg.of_nw HN2.out).trans HCH.out).setNew (p := ⟨w.heap.size + 1, 0, none⟩) (Nat.le_succ _) (.int .i64 0)).setNew (p := ⟨w.heap.size + 1, 1, none⟩) (Nat.le_succ _) (.bool true)).setNew (p := ⟨w.heap.size + 1, 2, none⟩) (Nat.le_succ _) (.int .u64 0)).setNew (p := ⟨w.heap.size + 1, 3, none⟩) (Nat.le_succ _) (.int .u64 2)).setNew (p := ⟨w.heap.size + 1, 4, none⟩) (Nat.le_succ _) (.int .i64 0))
  refine bodyPost_ret (v := res5 0 true 0 2 0) ?_ rfl ⟨rfl, hall, hset.cell hl0.1 (by have := H.out.ip; simp; omega), (hset.frozen (World.block_lt_of_cell? _ _ hl0.1) (by have := H.out.ip; simp; omega)).trans hl0.2⟩
  simp [results, Try.results24, go_sem, *]
set_option maxRecDepth 20000 in
set_option maxHeartbeats 4000000 in
theorem msize_any (base : Nat) (w : World) (gm gt gp : Nat) (slots : Int) (b : List Bool) (A : Option Addr) (c : Nat) (h : Mdl base w gm gt gp slots b (.slice A 0 c)) (t : Nat) :
    Calls Try.prog 28 #[.pointer (some ⟨gm, 0, none⟩), .int .i64 t, op7 10 0 0 0 0 0 0] w fun e w' => e = .returned (res5 0 false 0 0 0) ∧ Nw w w' := by
  have m1 := h.m1
  haveI : In gm w := ⟨h.im⟩
  have HL := Lib.hid (fun W (hw : Nw w W) => len_any gp A c W (cell_nw h.p0 hw))
  clear h
  go_enter Try.func28, Try.ntmps28
  go_wp2_with fail
  refine (HL.out _ ((by repeat (first | exact Xt.Nw.refl _ | refine Xt.Nw.drew ?_ | refine Xt.Nw.drewN ?_ _ | refine Xt.Nw.alloc ?_ _ | refine Xt.Nw.joined ?_ | refine Xt.Nw.drewd ?_ | refine Xt.Nw.drewdN ?_ | refine Xt.Nw.ext ?_ | refine Xt.Nw.ext_some ?_ (by assumption) | refine Xt.Nw.setCell ?_ (by simp [go_sem] <;> omega) _)))).mono ?_
  rintro e w' ⟨rfl, dW, rfl⟩
  go_wp2
  refine bodyPost_ret (v := res5 0 false 0 0 0) ?_ rfl ⟨rfl, (by repeat (first | exact Xt.Nw.refl _ | refine Xt.Nw.drew ?_ | refine Xt.Nw.drewN ?_ _ | refine Xt.Nw.alloc ?_ _ | refine Xt.Nw.joined ?_ | refine Xt.Nw.drewd ?_ | refine Xt.Nw.drewdN ?_ | refine Xt.Nw.ext ?_ | refine Xt.Nw.ext_some ?_ (by assumption) | refine Xt.Nw.setCell ?_ (by simp [go_sem] <;> omega) _))⟩
  simp [results, Try.results28, go_sem, *]
end Go.Proofs.Ytenhadpiddocbaa
