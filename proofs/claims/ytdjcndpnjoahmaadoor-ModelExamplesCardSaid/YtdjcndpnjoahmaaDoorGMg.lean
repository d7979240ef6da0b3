import Derived.Test.YtdjcndpnjoahmaaDoorGMa
import Derived.Laws.EntriesVeiled
set_option linter.unusedVariables false
set_option linter.unusedSimpArgs false
namespace Go.Proofs.YtdjcndpnjoahmaaDoor
open Go.RowKit Go.Xt
/-! perform. -/
/-- Nothing that was there has changed but in these blocks. -/
structure Chg (X : List Nat) (w w' : World) : Prop where
  os : w'.os = w.os
  tape : w'.tape = w.tape
  output : w'.output = w.output
  size : w.heap.size ≤ w'.heap.size
  block : ∀ k, k < w.heap.size → k ∉ X → w'.heap[k]? = w.heap[k]?
theorem Chg.cell {X : List Nat} {w w' : World} (h : Chg X w w') {b i : Nat} {v : Value} (hc : w.cell? ⟨b, i, none⟩ = some v) (hb : b ∉ X) : w'.cell? ⟨b, i, none⟩ = some v :=
  (World.cell?_of_block (h.block b (World.block_lt_of_cell? w _ hc) hb)).trans hc
theorem Chg.frozen {X : List Nat} {w w' : World} (h : Chg X w w') {b i : Nat} (hl : b < w.heap.size) (hb : b ∉ X) : w'.frozen? ⟨b, i, none⟩ = w.frozen? ⟨b, i, none⟩ :=
  World.frozen?_of_block (h.block b hl hb)
theorem Chg.of_grown {g : Nat} {w w' : World} (h : w.grownBy w' (some g)) : Chg [g] w w' := ⟨h.os, h.tape, h.output, h.size, fun k hk hx => h.block k hk (by simpa using hx)⟩
theorem Chg.grown {g : Nat} {w w' : World} (h : Chg [g] w w') : w.grownBy w' (some g) := ⟨h.os, h.tape, h.output, h.size, fun k hk hx => h.block k hk (by simpa using hx)⟩
theorem Chg.of_nw {X : List Nat} {w w' : World} (h : Nw w w') : Chg X w w' := ⟨h.grown.os, h.grown.tape, h.grown.output, h.grown.size, fun k hk _ => h.grown.block k hk (by simp)⟩
theorem Chg.trans {X : List Nat} {a b c : World} (h : Chg X a b) (k : Chg X b c) : Chg X a c := ⟨k.os.trans h.os, k.tape.trans h.tape, k.output.trans h.output, Nat.le_trans h.size k.size, fun j hj hx => (k.block j (Nat.lt_of_lt_of_le hj h.size) hx).trans (h.block j hj hx)⟩
theorem Chg.setNew {X : List Nat} {a b : World} (h : Chg X a b) {p : Addr} (hp : a.heap.size ≤ p.block) (v : Value) : Chg X a (b.setCell p v) :=
  ⟨h.os, h.tape, h.output, by simpa using h.size, fun k hk hx => (RowKit.Below.heap_setCell _ _ _ _ (by omega)).trans (h.block k hk hx)⟩
theorem Chg.set1 (w : World) (g o : Nat) (v : Value) : Chg [g] w (w.setCell ⟨g, o, none⟩ v) :=
  ⟨rfl, rfl, rfl, by simp, fun k _ hx => RowKit.Below.heap_setCell _ _ _ _ (by simp at hx; simpa using hx)⟩
theorem Chg.set2 {a b : World} {g : Nat} (h : Chg [g] a b) (o : Nat) (v : Value) : Chg [g] a (b.setCell ⟨g, o, none⟩ v) := h.trans (Chg.set1 b g o v)
theorem th_chg {base : Nat} {W W' : World} {gt : Nat} {b : List Bool} {X : List Nat} (h : ThRow base W gt b) (hc : Chg X W W') (hx : gt ∉ X) : ThRow base W' gt b := by
  refine ⟨h.1, ?_⟩
  rcases h.2 with ⟨h1, h2⟩ | ⟨g, cap, cur, h1, h2, h3, h4⟩
  · exact .inl ⟨h1, h2⟩
  · have hg : g = gt := by injection h1 with h1; injection h1 with h1; injection h1 with h1; exact h1.symm
    refine .inr ⟨g, cap, cur, h1, h2, ?_, h4⟩
    rw [← h3]
    exact hc.block g (Array.getElem?_eq_some_iff.1 h3).1 (by rw [hg]; exact hx)
set_option maxRecDepth 20000 in
set_option maxHeartbeats 8000000 in
theorem perform_2 (base : Nat) (w : World) (gm gt gp : Nat) (slots : Int) (b : List Bool) (L : Value) (h : Mdl base w gm gt gp slots b L) (t : Nat) (sf : Bool) (ht : b[t]? = some sf) :
    Calls Tryd.prog 23 #[.pointer (some ⟨gm, 0, none⟩), .int .i64 t, op7 2 0 0 0 0 0 0] w fun e w' => e = .returned (res5 0 false 0 0 0) ∧ Chg [gt] w w' ∧ ThRow base w' gt (b.set t false) := by
  haveI : In gm w := ⟨h.im⟩
  haveI : In gt w := ⟨h.it⟩
  have HS := Lib.hid (fun W (hw : Nw w W) => shut_any base W gm gt gp slots b L (h.nw hw) t sf ht)
  have H := Lib.hid h
  clear h
  obtain ⟨W3, hW3⟩ : ∃ W3, W3 = ((w.alloc (.cells #[.int .u8 2, .int .u64 0, .int .u64 0, .int .u64 0, .int .u64 0, .int .u64 0, .int .u64 0] 25)).alloc (.cells #[.int .i64 0, .bool false, .int .u64 0, .int .u64 0, .int .i64 0] 28)).alloc (.cells #[.nilFunc, .func (.func 40) #[] #[], .func (.func 41) #[] #[], .func (.func 42) #[] #[], .func (.func 43) #[] #[], .func (.func 44) #[] #[], .func (.func 45) #[] #[], .func (.func 46) #[] #[], .func (.func 47) #[] #[], .func (.func 48) #[] #[], .func (.func 49) #[] #[], .func (.func 50) #[] #[], .func (.func 51) #[] #[], .func (.func 52) #[] #[], .func (.func 53) #[] #[], .func (.func 54) #[] #[]] 98) := ⟨_, rfl⟩
  have hn3 : Nw w W3 := by rw [hW3]; exact (by repeat (first | exact Xt.Nw.refl _ | refine Xt.Nw.drew ?_ | refine Xt.Nw.drewN ?_ _ | refine Xt.Nw.alloc ?_ _ | refine Xt.Nw.joined ?_ | refine Xt.Nw.drewd ?_ | refine Xt.Nw.drewdN ?_ | refine Xt.Nw.ext ?_ | refine Xt.Nw.ext_some ?_ (by assumption) | refine Xt.Nw.setCell ?_ (by simp [go_sem] <;> omega) _))
  have q0 : W3.cell? ⟨w.heap.size, 0, none⟩ = some (.int .u8 2) := by rw [hW3]; simp [go_sem]
  have q1 : W3.cell? ⟨w.heap.size, 1, none⟩ = some (.int .u64 0) := by rw [hW3]; simp [go_sem]
  have q2 : W3.cell? ⟨w.heap.size, 2, none⟩ = some (.int .u64 0) := by rw [hW3]; simp [go_sem]
  have q3 : W3.cell? ⟨w.heap.size, 3, none⟩ = some (.int .u64 0) := by rw [hW3]; simp [go_sem]
  have q4 : W3.cell? ⟨w.heap.size, 4, none⟩ = some (.int .u64 0) := by rw [hW3]; simp [go_sem]
  have q5 : W3.cell? ⟨w.heap.size, 5, none⟩ = some (.int .u64 0) := by rw [hW3]; simp [go_sem]
  have q6 : W3.cell? ⟨w.heap.size, 6, none⟩ = some (.int .u64 0) := by rw [hW3]; simp [go_sem]
  have r0 : W3.cell? ⟨w.heap.size + 1, 0, none⟩ = some (.int .i64 0) := by rw [hW3]; simp [go_sem]
  have r1 : W3.cell? ⟨w.heap.size + 1, 1, none⟩ = some (.bool false) := by rw [hW3]; simp [go_sem]
  have r2 : W3.cell? ⟨w.heap.size + 1, 2, none⟩ = some (.int .u64 0) := by rw [hW3]; simp [go_sem]
  have r3 : W3.cell? ⟨w.heap.size + 1, 3, none⟩ = some (.int .u64 0) := by rw [hW3]; simp [go_sem]
  have r4 : W3.cell? ⟨w.heap.size + 1, 4, none⟩ = some (.int .i64 0) := by rw [hW3]; simp [go_sem]
  have zz : ∀ o, W3.frozen? ⟨w.heap.size + 1, o, none⟩ = false := fun o => by rw [hW3]; simp [go_sem]
  have qf : W3.cell? ⟨w.heap.size + 1 + 1, 2, none⟩ = some (.func (.func 41) #[] #[]) := by rw [hW3]; simp [go_sem]
  have hs3 : w.heap.size + 1 < W3.heap.size := by rw [hW3]; simp
  have HN3 := Lib.hid hn3
  have HW3 := Lib.hid hW3
  have HR := Lib.hid (⟨r0, r1, r2, r3, r4⟩ : W3.cell? ⟨w.heap.size + 1, 0, none⟩ = some (.int .i64 0) ∧ W3.cell? ⟨w.heap.size + 1, 1, none⟩ = some (.bool false) ∧ W3.cell? ⟨w.heap.size + 1, 2, none⟩ = some (.int .u64 0) ∧ W3.cell? ⟨w.heap.size + 1, 3, none⟩ = some (.int .u64 0) ∧ W3.cell? ⟨w.heap.size + 1, 4, none⟩ = some (.int .i64 0))
  have HZ := Lib.hid zz
  have HS3 := Lib.hid hs3
  clear hn3 hW3 r0 r1 r2 r3 r4 zz hs3
  go_enter Tryd.func23, Tryd.ntmps23
  go_upto_region 2 with (fail)
  rw [← HW3.out]
  go_still_tail 7, (by kernel_rfl)
  change wpList _ _ _ _ _ W3.drew
  go_wp2_with fail
  refine (HS.out W3.drew (Nw.drew HN3.out)).mono ?_
  rintro e W4 ⟨rfl, hch, hpo⟩
  have hX : w.heap.size + 1 ∉ ([gt] : List Nat) := by have := H.out.it; simp; omega
  have hch0 : Chg [gt] W3 W4 := Chg.of_grown (⟨hch.os, hch.tape, hch.output, hch.size, hch.block⟩ : W3.grownBy W4 (some gt))
  have r0 := hch0.cell HR.out.1 hX
  have r1 := hch0.cell HR.out.2.1 hX
  have r2 := hch0.cell HR.out.2.2.1 hX
  have r3 := hch0.cell HR.out.2.2.2.1 hX
  have r4 := hch0.cell HR.out.2.2.2.2 hX
  have z0 : W4.frozen? ⟨w.heap.size + 1, 0, none⟩ = false := (hch0.frozen HS3.out hX).trans (HZ.out 0)
  have z1 : W4.frozen? ⟨w.heap.size + 1, 1, none⟩ = false := (hch0.frozen HS3.out hX).trans (HZ.out 1)
  have z2 : W4.frozen? ⟨w.heap.size + 1, 2, none⟩ = false := (hch0.frozen HS3.out hX).trans (HZ.out 2)
  have z3 : W4.frozen? ⟨w.heap.size + 1, 3, none⟩ = false := (hch0.frozen HS3.out hX).trans (HZ.out 3)
  have z4 : W4.frozen? ⟨w.heap.size + 1, 4, none⟩ = false := (hch0.frozen HS3.out hX).trans (HZ.out 4)
  go_wp2
  have hset : Chg [w.heap.size + 1] W4 _ := ((((Chg.set1 W4 (w.heap.size + 1) 0 (.int .i64 (0))).set2 1 (.bool false)).set2 2 (.int .u64 0)).set2 3 (.int .u64 0)).set2 4 (.int .i64 0)
  have hall : Chg [gt] w _ := (((((((Chg.of_nw HN3.out).trans hch0).setNew (p := ⟨w.heap.size + 1, 0, none⟩) (Nat.le_succ _) (.int .i64 (0))).setNew (p := ⟨w.heap.size + 1, 1, none⟩) (Nat.le_succ _) (.bool false)).setNew (p := ⟨w.heap.size + 1, 2, none⟩) (Nat.le_succ _) (.int .u64 0)).setNew (p := ⟨w.heap.size + 1, 3, none⟩) (Nat.le_succ _) (.int .u64 0)).setNew (p := ⟨w.heap.size + 1, 4, none⟩) (Nat.le_succ _) (.int .i64 0))
  refine bodyPost_ret (v := res5 0 false 0 0 0) ?_ rfl ⟨rfl, hall, th_chg hpo hset (by have := H.out.it; simp; omega)⟩
  simp [results, Tryd.results23, go_sem, *]
set_option maxRecDepth 20000 in
set_option maxHeartbeats 8000000 in
theorem perform_1 (base : Nat) (w : World) (gm gt gp : Nat) (slots : Int) (b : List Bool) (L : Value) (h : Mdl base w gm gt gp slots b L) (hb : b.length ≤ 1000) (t : Nat) (sf : Bool) (ht : b[t]? = some sf) :
    Calls Tryd.prog 23 #[.pointer (some ⟨gm, 0, none⟩), .int .i64 t, op7 1 0 0 0 0 0 0] w fun e w' => e = .returned (res5 (opE slots b) false 0 0 0) ∧ Chg [gt] w w' ∧ ThRow base w' gt (opB slots b t) := by
  haveI : In gm w := ⟨h.im⟩
  haveI : In gt w := ⟨h.it⟩
  have HS := Lib.hid (fun W (hw : Nw w W) => open_any base W gm gt gp slots b L (h.nw hw) hb t sf ht)
  have H := Lib.hid h
  clear h
  obtain ⟨W3, hW3⟩ : ∃ W3, W3 = ((w.alloc (.cells #[.int .u8 1, .int .u64 0, .int .u64 0, .int .u64 0, .int .u64 0, .int .u64 0, .int .u64 0] 25)).alloc (.cells #[.int .i64 0, .bool false, .int .u64 0, .int .u64 0, .int .i64 0] 28)).alloc (.cells #[.nilFunc, .func (.func 40) #[] #[], .func (.func 41) #[] #[], .func (.func 42) #[] #[], .func (.func 43) #[] #[], .func (.func 44) #[] #[], .func (.func 45) #[] #[], .func (.func 46) #[] #[], .func (.func 47) #[] #[], .func (.func 48) #[] #[], .func (.func 49) #[] #[], .func (.func 50) #[] #[], .func (.func 51) #[] #[], .func (.func 52) #[] #[], .func (.func 53) #[] #[], .func (.func 54) #[] #[]] 98) := ⟨_, rfl⟩
  have hn3 : Nw w W3 := by rw [hW3]; exact (by repeat (first | exact Xt.Nw.refl _ | refine Xt.Nw.drew ?_ | refine Xt.Nw.drewN ?_ _ | refine Xt.Nw.alloc ?_ _ | refine Xt.Nw.joined ?_ | refine Xt.Nw.drewd ?_ | refine Xt.Nw.drewdN ?_ | refine Xt.Nw.ext ?_ | refine Xt.Nw.ext_some ?_ (by assumption) | refine Xt.Nw.setCell ?_ (by simp [go_sem] <;> omega) _))
  have q0 : W3.cell? ⟨w.heap.size, 0, none⟩ = some (.int .u8 1) := by rw [hW3]; simp [go_sem]
  have q1 : W3.cell? ⟨w.heap.size, 1, none⟩ = some (.int .u64 0) := by rw [hW3]; simp [go_sem]
  have q2 : W3.cell? ⟨w.heap.size, 2, none⟩ = some (.int .u64 0) := by rw [hW3]; simp [go_sem]
  have q3 : W3.cell? ⟨w.heap.size, 3, none⟩ = some (.int .u64 0) := by rw [hW3]; simp [go_sem]
  have q4 : W3.cell? ⟨w.heap.size, 4, none⟩ = some (.int .u64 0) := by rw [hW3]; simp [go_sem]
  have q5 : W3.cell? ⟨w.heap.size, 5, none⟩ = some (.int .u64 0) := by rw [hW3]; simp [go_sem]
  have q6 : W3.cell? ⟨w.heap.size, 6, none⟩ = some (.int .u64 0) := by rw [hW3]; simp [go_sem]
  have r0 : W3.cell? ⟨w.heap.size + 1, 0, none⟩ = some (.int .i64 0) := by rw [hW3]; simp [go_sem]
  have r1 : W3.cell? ⟨w.heap.size + 1, 1, none⟩ = some (.bool false) := by rw [hW3]; simp [go_sem]
  have r2 : W3.cell? ⟨w.heap.size + 1, 2, none⟩ = some (.int .u64 0) := by rw [hW3]; simp [go_sem]
  have r3 : W3.cell? ⟨w.heap.size + 1, 3, none⟩ = some (.int .u64 0) := by rw [hW3]; simp [go_sem]
  have r4 : W3.cell? ⟨w.heap.size + 1, 4, none⟩ = some (.int .i64 0) := by rw [hW3]; simp [go_sem]
  have zz : ∀ o, W3.frozen? ⟨w.heap.size + 1, o, none⟩ = false := fun o => by rw [hW3]; simp [go_sem]
  have qf : W3.cell? ⟨w.heap.size + 1 + 1, 1, none⟩ = some (.func (.func 40) #[] #[]) := by rw [hW3]; simp [go_sem]
  have hs3 : w.heap.size + 1 < W3.heap.size := by rw [hW3]; simp
  have HN3 := Lib.hid hn3
  have HW3 := Lib.hid hW3
  have HR := Lib.hid (⟨r0, r1, r2, r3, r4⟩ : W3.cell? ⟨w.heap.size + 1, 0, none⟩ = some (.int .i64 0) ∧ W3.cell? ⟨w.heap.size + 1, 1, none⟩ = some (.bool false) ∧ W3.cell? ⟨w.heap.size + 1, 2, none⟩ = some (.int .u64 0) ∧ W3.cell? ⟨w.heap.size + 1, 3, none⟩ = some (.int .u64 0) ∧ W3.cell? ⟨w.heap.size + 1, 4, none⟩ = some (.int .i64 0))
  have HZ := Lib.hid zz
  have HS3 := Lib.hid hs3
  clear hn3 hW3 r0 r1 r2 r3 r4 zz hs3
  go_enter Tryd.func23, Tryd.ntmps23
  go_upto_region 2 with (fail)
  rw [← HW3.out]
  go_still_tail 7, (by kernel_rfl)
  change wpList _ _ _ _ _ W3.drew
  go_wp2_with fail
  refine (HS.out W3.drew (Nw.drew HN3.out)).mono ?_
  rintro e W4 ⟨rfl, hch, hpo⟩
  have hX : w.heap.size + 1 ∉ ([gt] : List Nat) := by have := H.out.it; simp; omega
  have hch0 : Chg [gt] W3 W4 := Chg.of_grown (⟨hch.os, hch.tape, hch.output, hch.size, hch.block⟩ : W3.grownBy W4 (some gt))
  have r0 := hch0.cell HR.out.1 hX
  have r1 := hch0.cell HR.out.2.1 hX
  have r2 := hch0.cell HR.out.2.2.1 hX
  have r3 := hch0.cell HR.out.2.2.2.1 hX
  have r4 := hch0.cell HR.out.2.2.2.2 hX
  have z0 : W4.frozen? ⟨w.heap.size + 1, 0, none⟩ = false := (hch0.frozen HS3.out hX).trans (HZ.out 0)
  have z1 : W4.frozen? ⟨w.heap.size + 1, 1, none⟩ = false := (hch0.frozen HS3.out hX).trans (HZ.out 1)
  have z2 : W4.frozen? ⟨w.heap.size + 1, 2, none⟩ = false := (hch0.frozen HS3.out hX).trans (HZ.out 2)
  have z3 : W4.frozen? ⟨w.heap.size + 1, 3, none⟩ = false := (hch0.frozen HS3.out hX).trans (HZ.out 3)
  have z4 : W4.frozen? ⟨w.heap.size + 1, 4, none⟩ = false := (hch0.frozen HS3.out hX).trans (HZ.out 4)
  go_wp2
  have hset : Chg [w.heap.size + 1] W4 _ := ((((Chg.set1 W4 (w.heap.size + 1) 0 (.int .i64 ((opE slots b)))).set2 1 (.bool false)).set2 2 (.int .u64 0)).set2 3 (.int .u64 0)).set2 4 (.int .i64 0)
  have hall : Chg [gt] w _ := (((((((Chg.of_nw HN3.out).trans hch0).setNew (p := ⟨w.heap.size + 1, 0, none⟩) (Nat.le_succ _) (.int .i64 ((opE slots b)))).setNew (p := ⟨w.heap.size + 1, 1, none⟩) (Nat.le_succ _) (.bool false)).setNew (p := ⟨w.heap.size + 1, 2, none⟩) (Nat.le_succ _) (.int .u64 0)).setNew (p := ⟨w.heap.size + 1, 3, none⟩) (Nat.le_succ _) (.int .u64 0)).setNew (p := ⟨w.heap.size + 1, 4, none⟩) (Nat.le_succ _) (.int .i64 0))
  refine bodyPost_ret (v := res5 (opE slots b) false 0 0 0) ?_ rfl ⟨rfl, hall, th_chg hpo hset (by have := H.out.it; simp; omega)⟩
  simp [results, Tryd.results23, go_sem, *]
end Go.Proofs.YtdjcndpnjoahmaaDoor
namespace Go.Proofs.YtdjcndpnjoahmaaDoor
open Go.RowKit Go.Xt
/-! Do at opening and shutting. -/
set_option maxRecDepth 20000 in
set_option maxHeartbeats 8000000 in
theorem do_1ff (base : Nat) (w : World) (gm gt gp : Nat) (slots : Int) (b : List Bool) (L : Value) (h : Mdl base w gm gt gp slots b L) (hb : b.length ≤ 1000) (t : Nat) (ht : b[t]? = some false) :
    Calls Tryd.prog 12 #[.pointer (some ⟨gm, 0, none⟩), .int .i64 t, op7 1 0 0 0 0 0 0] w fun e w' => e = .returned (res5 (opE slots b) false 0 0 0) ∧ Chg [gt] w w' ∧ ThRow base w' gt (opB slots b t) := by
  haveI : In gm w := ⟨h.im⟩
  have HR := Lib.hid (fun W (hw : Nw w W) => refuse_1_ff base W gm gt gp slots b L (h.nw hw) t ht)
  have HS := Lib.hid (fun W (hw : Nw w W) => perform_1 base W gm gt gp slots b L (h.nw hw) hb t false ht)
  have H := Lib.hid h
  clear h
  obtain ⟨W2, hW2⟩ : ∃ W2, W2 = (w.alloc (.cells #[.int .u8 1, .int .u64 0, .int .u64 0, .int .u64 0, .int .u64 0, .int .u64 0, .int .u64 0] 25)).alloc (.cells #[.int .i64 0, .bool false, .int .u64 0, .int .u64 0, .int .i64 0] 28) := ⟨_, rfl⟩
  have hn2 : Nw w W2 := by rw [hW2]; exact (by repeat (first | exact Xt.Nw.refl _ | refine Xt.Nw.drew ?_ | refine Xt.Nw.drewN ?_ _ | refine Xt.Nw.alloc ?_ _ | refine Xt.Nw.joined ?_ | refine Xt.Nw.drewd ?_ | refine Xt.Nw.drewdN ?_ | refine Xt.Nw.ext ?_ | refine Xt.Nw.ext_some ?_ (by assumption) | refine Xt.Nw.setCell ?_ (by simp [go_sem] <;> omega) _))
  have q0 : W2.cell? ⟨w.heap.size, 0, none⟩ = some (.int .u8 1) := by rw [hW2]; simp [go_sem]
  have q1 : W2.cell? ⟨w.heap.size, 1, none⟩ = some (.int .u64 0) := by rw [hW2]; simp [go_sem]
  have q2 : W2.cell? ⟨w.heap.size, 2, none⟩ = some (.int .u64 0) := by rw [hW2]; simp [go_sem]
  have q3 : W2.cell? ⟨w.heap.size, 3, none⟩ = some (.int .u64 0) := by rw [hW2]; simp [go_sem]
  have q4 : W2.cell? ⟨w.heap.size, 4, none⟩ = some (.int .u64 0) := by rw [hW2]; simp [go_sem]
  have q5 : W2.cell? ⟨w.heap.size, 5, none⟩ = some (.int .u64 0) := by rw [hW2]; simp [go_sem]
  have q6 : W2.cell? ⟨w.heap.size, 6, none⟩ = some (.int .u64 0) := by rw [hW2]; simp [go_sem]
  have r0 : W2.cell? ⟨w.heap.size + 1, 0, none⟩ = some (.int .i64 0) := by rw [hW2]; simp [go_sem]
  have r1 : W2.cell? ⟨w.heap.size + 1, 1, none⟩ = some (.bool false) := by rw [hW2]; simp [go_sem]
  have r2 : W2.cell? ⟨w.heap.size + 1, 2, none⟩ = some (.int .u64 0) := by rw [hW2]; simp [go_sem]
  have r3 : W2.cell? ⟨w.heap.size + 1, 3, none⟩ = some (.int .u64 0) := by rw [hW2]; simp [go_sem]
  have r4 : W2.cell? ⟨w.heap.size + 1, 4, none⟩ = some (.int .i64 0) := by rw [hW2]; simp [go_sem]
  have zz : ∀ o, W2.frozen? ⟨w.heap.size + 1, o, none⟩ = false := fun o => by rw [hW2]; simp [go_sem]
  have hs2 : w.heap.size + 1 < W2.heap.size := by rw [hW2]; simp
  have HN2 := Lib.hid hn2
  have HW2 := Lib.hid hW2
  have HS2 := Lib.hid hs2
  have HZ := Lib.hid zz
  clear hn2 hW2 hs2 zz
  go_enter Tryd.func12, Tryd.ntmps12
  go_wp2_with fail
  rw [← HW2.out]
  refine (HR.out W2 HN2.out).mono ?_
  rintro e W3 ⟨rfl, hn3⟩
  replace q0 := cell_nw q0 hn3
  replace q1 := cell_nw q1 hn3
  replace q2 := cell_nw q2 hn3
  replace q3 := cell_nw q3 hn3
  replace q4 := cell_nw q4 hn3
  replace q5 := cell_nw q5 hn3
  replace q6 := cell_nw q6 hn3
  replace r0 := cell_nw r0 hn3
  replace r1 := cell_nw r1 hn3
  replace r2 := cell_nw r2 hn3
  replace r3 := cell_nw r3 hn3
  replace r4 := cell_nw r4 hn3
  have z0 : W3.frozen? ⟨w.heap.size + 1, 0, none⟩ = false := (frozen_nw HS2.out hn3).trans (HZ.out 0)
  have z1 : W3.frozen? ⟨w.heap.size + 1, 1, none⟩ = false := (frozen_nw HS2.out hn3).trans (HZ.out 1)
  have z2 : W3.frozen? ⟨w.heap.size + 1, 2, none⟩ = false := (frozen_nw HS2.out hn3).trans (HZ.out 2)
  have z3 : W3.frozen? ⟨w.heap.size + 1, 3, none⟩ = false := (frozen_nw HS2.out hn3).trans (HZ.out 3)
  have z4 : W3.frozen? ⟨w.heap.size + 1, 4, none⟩ = false := (frozen_nw HS2.out hn3).trans (HZ.out 4)
  have HS3 := Lib.hid (Nat.lt_of_lt_of_le HS2.out hn3.grown.size)
  have HN3 := Lib.hid (HN2.out.trans hn3)
  clear hn3
  have HR3 := Lib.hid (⟨r0, r1, r2, r3, r4⟩ : W3.cell? ⟨w.heap.size + 1, 0, none⟩ = some (.int .i64 0) ∧ W3.cell? ⟨w.heap.size + 1, 1, none⟩ = some (.bool false) ∧ W3.cell? ⟨w.heap.size + 1, 2, none⟩ = some (.int .u64 0) ∧ W3.cell? ⟨w.heap.size + 1, 3, none⟩ = some (.int .u64 0) ∧ W3.cell? ⟨w.heap.size + 1, 4, none⟩ = some (.int .i64 0))
  have HZ3 := Lib.hid (⟨z0, z1, z2, z3, z4⟩ : W3.frozen? ⟨w.heap.size + 1, 0, none⟩ = false ∧ W3.frozen? ⟨w.heap.size + 1, 1, none⟩ = false ∧ W3.frozen? ⟨w.heap.size + 1, 2, none⟩ = false ∧ W3.frozen? ⟨w.heap.size + 1, 3, none⟩ = false ∧ W3.frozen? ⟨w.heap.size + 1, 4, none⟩ = false)
  clear r0 r1 r2 r3 r4 z0 z1 z2 z3 z4
  go_wp2_with fail
  refine (HS.out W3 HN3.out).mono ?_
  rintro e W4 ⟨rfl, hch, hpo⟩
  have hX : w.heap.size + 1 ∉ ([gt] : List Nat) := by have := H.out.it; simp; omega
  have r0 := hch.cell HR3.out.1 hX
  have r1 := hch.cell HR3.out.2.1 hX
  have r2 := hch.cell HR3.out.2.2.1 hX
  have r3 := hch.cell HR3.out.2.2.2.1 hX
  have r4 := hch.cell HR3.out.2.2.2.2 hX
  have z0 := (hch.frozen HS3.out hX).trans HZ3.out.1
  have z1 := (hch.frozen HS3.out hX).trans HZ3.out.2.1
  have z2 := (hch.frozen HS3.out hX).trans HZ3.out.2.2.1
  have z3 := (hch.frozen HS3.out hX).trans HZ3.out.2.2.2.1
  have z4 := (hch.frozen HS3.out hX).trans HZ3.out.2.2.2.2
  go_wp2
  have hset : Chg [w.heap.size + 1] W4 _ := ((((Chg.set1 W4 (w.heap.size + 1) 0 (.int .i64 (opE slots b))).set2 1 (.bool false)).set2 2 (.int .u64 0)).set2 3 (.int .u64 0)).set2 4 (.int .i64 0)
  have hall : Chg [gt] w _ := (((((((Chg.of_nw HN3.out).trans hch).setNew (p := ⟨w.heap.size + 1, 0, none⟩) (Nat.le_succ _) (.int .i64 (opE slots b))).setNew (p := ⟨w.heap.size + 1, 1, none⟩) (Nat.le_succ _) (.bool false)).setNew (p := ⟨w.heap.size + 1, 2, none⟩) (Nat.le_succ _) (.int .u64 0)).setNew (p := ⟨w.heap.size + 1, 3, none⟩) (Nat.le_succ _) (.int .u64 0)).setNew (p := ⟨w.heap.size + 1, 4, none⟩) (Nat.le_succ _) (.int .i64 0))
  refine bodyPost_ret (v := res5 (opE slots b) false 0 0 0) ?_ rfl ⟨rfl, hall, th_chg hpo hset (by have := H.out.it; simp; omega)⟩
  simp [results, Tryd.results12, go_sem, *]
set_option maxRecDepth 20000 in
set_option maxHeartbeats 8000000 in
theorem do_1tt (base : Nat) (w : World) (gm gt gp : Nat) (slots : Int) (b : List Bool) (L : Value) (h : Mdl base w gm gt gp slots b L) (t : Nat) (ht : b[t]? = some true) :
    Calls Tryd.prog 12 #[.pointer (some ⟨gm, 0, none⟩), .int .i64 t, op7 1 0 0 0 0 0 0] w fun e w' => e = .returned (res5 8 false 0 0 0) ∧ Chg [gt] w w' ∧ ThRow base w' gt b := by
  haveI : In gm w := ⟨h.im⟩
  have HR := Lib.hid (fun W (hw : Nw w W) => refuse_1_tt base W gm gt gp slots b L (h.nw hw) t ht)
  have HS := Lib.hid (trivial)
  have H := Lib.hid h
  clear h
  obtain ⟨W2, hW2⟩ : ∃ W2, W2 = (w.alloc (.cells #[.int .u8 1, .int .u64 0, .int .u64 0, .int .u64 0, .int .u64 0, .int .u64 0, .int .u64 0] 25)).alloc (.cells #[.int .i64 0, .bool false, .int .u64 0, .int .u64 0, .int .i64 0] 28) := ⟨_, rfl⟩
  have hn2 : Nw w W2 := by rw [hW2]; exact (by repeat (first | exact Xt.Nw.refl _ | refine Xt.Nw.drew ?_ | refine Xt.Nw.drewN ?_ _ | refine Xt.Nw.alloc ?_ _ | refine Xt.Nw.joined ?_ | refine Xt.Nw.drewd ?_ | refine Xt.Nw.drewdN ?_ | refine Xt.Nw.ext ?_ | refine Xt.Nw.ext_some ?_ (by assumption) | refine Xt.Nw.setCell ?_ (by simp [go_sem] <;> omega) _))
  have q0 : W2.cell? ⟨w.heap.size, 0, none⟩ = some (.int .u8 1) := by rw [hW2]; simp [go_sem]
  have q1 : W2.cell? ⟨w.heap.size, 1, none⟩ = some (.int .u64 0) := by rw [hW2]; simp [go_sem]
  have q2 : W2.cell? ⟨w.heap.size, 2, none⟩ = some (.int .u64 0) := by rw [hW2]; simp [go_sem]
  have q3 : W2.cell? ⟨w.heap.size, 3, none⟩ = some (.int .u64 0) := by rw [hW2]; simp [go_sem]
  have q4 : W2.cell? ⟨w.heap.size, 4, none⟩ = some (.int .u64 0) := by rw [hW2]; simp [go_sem]
  have q5 : W2.cell? ⟨w.heap.size, 5, none⟩ = some (.int .u64 0) := by rw [hW2]; simp [go_sem]
  have q6 : W2.cell? ⟨w.heap.size, 6, none⟩ = some (.int .u64 0) := by rw [hW2]; simp [go_sem]
  have r0 : W2.cell? ⟨w.heap.size + 1, 0, none⟩ = some (.int .i64 0) := by rw [hW2]; simp [go_sem]
  have r1 : W2.cell? ⟨w.heap.size + 1, 1, none⟩ = some (.bool false) := by rw [hW2]; simp [go_sem]
  have r2 : W2.cell? ⟨w.heap.size + 1, 2, none⟩ = some (.int .u64 0) := by rw [hW2]; simp [go_sem]
  have r3 : W2.cell? ⟨w.heap.size + 1, 3, none⟩ = some (.int .u64 0) := by rw [hW2]; simp [go_sem]
  have r4 : W2.cell? ⟨w.heap.size + 1, 4, none⟩ = some (.int .i64 0) := by rw [hW2]; simp [go_sem]
  have zz : ∀ o, W2.frozen? ⟨w.heap.size + 1, o, none⟩ = false := fun o => by rw [hW2]; simp [go_sem]
  have hs2 : w.heap.size + 1 < W2.heap.size := by rw [hW2]; simp
  have HN2 := Lib.hid hn2
  have HW2 := Lib.hid hW2
  have HS2 := Lib.hid hs2
  have HZ := Lib.hid zz
  clear hn2 hW2 hs2 zz
  go_enter Tryd.func12, Tryd.ntmps12
  go_wp2_with fail
  rw [← HW2.out]
  refine (HR.out W2 HN2.out).mono ?_
  rintro e W3 ⟨rfl, hn3⟩
  replace q0 := cell_nw q0 hn3
  replace q1 := cell_nw q1 hn3
  replace q2 := cell_nw q2 hn3
  replace q3 := cell_nw q3 hn3
  replace q4 := cell_nw q4 hn3
  replace q5 := cell_nw q5 hn3
  replace q6 := cell_nw q6 hn3
  replace r0 := cell_nw r0 hn3
  replace r1 := cell_nw r1 hn3
  replace r2 := cell_nw r2 hn3
  replace r3 := cell_nw r3 hn3
  replace r4 := cell_nw r4 hn3
  have z0 : W3.frozen? ⟨w.heap.size + 1, 0, none⟩ = false := (frozen_nw HS2.out hn3).trans (HZ.out 0)
  have z1 : W3.frozen? ⟨w.heap.size + 1, 1, none⟩ = false := (frozen_nw HS2.out hn3).trans (HZ.out 1)
  have z2 : W3.frozen? ⟨w.heap.size + 1, 2, none⟩ = false := (frozen_nw HS2.out hn3).trans (HZ.out 2)
  have z3 : W3.frozen? ⟨w.heap.size + 1, 3, none⟩ = false := (frozen_nw HS2.out hn3).trans (HZ.out 3)
  have z4 : W3.frozen? ⟨w.heap.size + 1, 4, none⟩ = false := (frozen_nw HS2.out hn3).trans (HZ.out 4)
  have HS3 := Lib.hid (Nat.lt_of_lt_of_le HS2.out hn3.grown.size)
  have HN3 := Lib.hid (HN2.out.trans hn3)
  clear hn3
  go_wp2
  have hset : Chg [w.heap.size + 1] W3 _ := ((((Chg.set1 W3 (w.heap.size + 1) 0 (.int .i64 (8))).set2 1 (.bool false)).set2 2 (.int .u64 0)).set2 3 (.int .u64 0)).set2 4 (.int .i64 0)
  have hall : Chg [gt] w _ := ((((((Chg.of_nw HN3.out : Chg [gt] w W3).setNew (p := ⟨w.heap.size + 1, 0, none⟩) (Nat.le_succ _) (.int .i64 (8))).setNew (p := ⟨w.heap.size + 1, 1, none⟩) (Nat.le_succ _) (.bool false)).setNew (p := ⟨w.heap.size + 1, 2, none⟩) (Nat.le_succ _) (.int .u64 0)).setNew (p := ⟨w.heap.size + 1, 3, none⟩) (Nat.le_succ _) (.int .u64 0)).setNew (p := ⟨w.heap.size + 1, 4, none⟩) (Nat.le_succ _) (.int .i64 0))
  have hall0 := th_chg (own_nw H.out.th HN3.out) hset (by have := H.out.it; simp; omega)
  refine bodyPost_ret (v := res5 8 false 0 0 0) ?_ rfl ⟨rfl, hall, hall0⟩
  simp [results, Tryd.results12, go_sem, *]
set_option maxRecDepth 20000 in
set_option maxHeartbeats 8000000 in
theorem do_2tt (base : Nat) (w : World) (gm gt gp : Nat) (slots : Int) (b : List Bool) (L : Value) (h : Mdl base w gm gt gp slots b L) (t : Nat) (ht : b[t]? = some true) :
    Calls Tryd.prog 12 #[.pointer (some ⟨gm, 0, none⟩), .int .i64 t, op7 2 0 0 0 0 0 0] w fun e w' => e = .returned (res5 0 false 0 0 0) ∧ Chg [gt] w w' ∧ ThRow base w' gt (b.set t false) := by
  haveI : In gm w := ⟨h.im⟩
  have HR := Lib.hid (fun W (hw : Nw w W) => refuse_2_tt base W gm gt gp slots b L (h.nw hw) t ht)
  have HS := Lib.hid (fun W (hw : Nw w W) => perform_2 base W gm gt gp slots b L (h.nw hw) t true ht)
  have H := Lib.hid h
  clear h
  obtain ⟨W2, hW2⟩ : ∃ W2, W2 = (w.alloc (.cells #[.int .u8 2, .int .u64 0, .int .u64 0, .int .u64 0, .int .u64 0, .int .u64 0, .int .u64 0] 25)).alloc (.cells #[.int .i64 0, .bool false, .int .u64 0, .int .u64 0, .int .i64 0] 28) := ⟨_, rfl⟩
  have hn2 : Nw w W2 := by rw [hW2]; exact (by repeat (first | exact Xt.Nw.refl _ | refine Xt.Nw.drew ?_ | refine Xt.Nw.drewN ?_ _ | refine Xt.Nw.alloc ?_ _ | refine Xt.Nw.joined ?_ | refine Xt.Nw.drewd ?_ | refine Xt.Nw.drewdN ?_ | refine Xt.Nw.ext ?_ | refine Xt.Nw.ext_some ?_ (by assumption) | refine Xt.Nw.setCell ?_ (by simp [go_sem] <;> omega) _))
  have q0 : W2.cell? ⟨w.heap.size, 0, none⟩ = some (.int .u8 2) := by rw [hW2]; simp [go_sem]
  have q1 : W2.cell? ⟨w.heap.size, 1, none⟩ = some (.int .u64 0) := by rw [hW2]; simp [go_sem]
  have q2 : W2.cell? ⟨w.heap.size, 2, none⟩ = some (.int .u64 0) := by rw [hW2]; simp [go_sem]
  have q3 : W2.cell? ⟨w.heap.size, 3, none⟩ = some (.int .u64 0) := by rw [hW2]; simp [go_sem]
  have q4 : W2.cell? ⟨w.heap.size, 4, none⟩ = some (.int .u64 0) := by rw [hW2]; simp [go_sem]
  have q5 : W2.cell? ⟨w.heap.size, 5, none⟩ = some (.int .u64 0) := by rw [hW2]; simp [go_sem]
  have q6 : W2.cell? ⟨w.heap.size, 6, none⟩ = some (.int .u64 0) := by rw [hW2]; simp [go_sem]
  have r0 : W2.cell? ⟨w.heap.size + 1, 0, none⟩ = some (.int .i64 0) := by rw [hW2]; simp [go_sem]
  have r1 : W2.cell? ⟨w.heap.size + 1, 1, none⟩ = some (.bool false) := by rw [hW2]; simp [go_sem]
  have r2 : W2.cell? ⟨w.heap.size + 1, 2, none⟩ = some (.int .u64 0) := by rw [hW2]; simp [go_sem]
  have r3 : W2.cell? ⟨w.heap.size + 1, 3, none⟩ = some (.int .u64 0) := by rw [hW2]; simp [go_sem]
  have r4 : W2.cell? ⟨w.heap.size + 1, 4, none⟩ = some (.int .i64 0) := by rw [hW2]; simp [go_sem]
  have zz : ∀ o, W2.frozen? ⟨w.heap.size + 1, o, none⟩ = false := fun o => by rw [hW2]; simp [go_sem]
  have hs2 : w.heap.size + 1 < W2.heap.size := by rw [hW2]; simp
  have HN2 := Lib.hid hn2
  have HW2 := Lib.hid hW2
  have HS2 := Lib.hid hs2
  have HZ := Lib.hid zz
  clear hn2 hW2 hs2 zz
  go_enter Tryd.func12, Tryd.ntmps12
  go_wp2_with fail
  rw [← HW2.out]
  refine (HR.out W2 HN2.out).mono ?_
  rintro e W3 ⟨rfl, hn3⟩
  replace q0 := cell_nw q0 hn3
  replace q1 := cell_nw q1 hn3
  replace q2 := cell_nw q2 hn3
  replace q3 := cell_nw q3 hn3
  replace q4 := cell_nw q4 hn3
  replace q5 := cell_nw q5 hn3
  replace q6 := cell_nw q6 hn3
  replace r0 := cell_nw r0 hn3
  replace r1 := cell_nw r1 hn3
  replace r2 := cell_nw r2 hn3
  replace r3 := cell_nw r3 hn3
  replace r4 := cell_nw r4 hn3
  have z0 : W3.frozen? ⟨w.heap.size + 1, 0, none⟩ = false := (frozen_nw HS2.out hn3).trans (HZ.out 0)
  have z1 : W3.frozen? ⟨w.heap.size + 1, 1, none⟩ = false := (frozen_nw HS2.out hn3).trans (HZ.out 1)
  have z2 : W3.frozen? ⟨w.heap.size + 1, 2, none⟩ = false := (frozen_nw HS2.out hn3).trans (HZ.out 2)
  have z3 : W3.frozen? ⟨w.heap.size + 1, 3, none⟩ = false := (frozen_nw HS2.out hn3).trans (HZ.out 3)
  have z4 : W3.frozen? ⟨w.heap.size + 1, 4, none⟩ = false := (frozen_nw HS2.out hn3).trans (HZ.out 4)
  have HS3 := Lib.hid (Nat.lt_of_lt_of_le HS2.out hn3.grown.size)
  have HN3 := Lib.hid (HN2.out.trans hn3)
  clear hn3
  have HR3 := Lib.hid (⟨r0, r1, r2, r3, r4⟩ : W3.cell? ⟨w.heap.size + 1, 0, none⟩ = some (.int .i64 0) ∧ W3.cell? ⟨w.heap.size + 1, 1, none⟩ = some (.bool false) ∧ W3.cell? ⟨w.heap.size + 1, 2, none⟩ = some (.int .u64 0) ∧ W3.cell? ⟨w.heap.size + 1, 3, none⟩ = some (.int .u64 0) ∧ W3.cell? ⟨w.heap.size + 1, 4, none⟩ = some (.int .i64 0))
  have HZ3 := Lib.hid (⟨z0, z1, z2, z3, z4⟩ : W3.frozen? ⟨w.heap.size + 1, 0, none⟩ = false ∧ W3.frozen? ⟨w.heap.size + 1, 1, none⟩ = false ∧ W3.frozen? ⟨w.heap.size + 1, 2, none⟩ = false ∧ W3.frozen? ⟨w.heap.size + 1, 3, none⟩ = false ∧ W3.frozen? ⟨w.heap.size + 1, 4, none⟩ = false)
  clear r0 r1 r2 r3 r4 z0 z1 z2 z3 z4
  go_wp2_with fail
  refine (HS.out W3 HN3.out).mono ?_
  rintro e W4 ⟨rfl, hch, hpo⟩
  have hX : w.heap.size + 1 ∉ ([gt] : List Nat) := by have := H.out.it; simp; omega
  have r0 := hch.cell HR3.out.1 hX
  have r1 := hch.cell HR3.out.2.1 hX
  have r2 := hch.cell HR3.out.2.2.1 hX
  have r3 := hch.cell HR3.out.2.2.2.1 hX
  have r4 := hch.cell HR3.out.2.2.2.2 hX
  have z0 := (hch.frozen HS3.out hX).trans HZ3.out.1
  have z1 := (hch.frozen HS3.out hX).trans HZ3.out.2.1
  have z2 := (hch.frozen HS3.out hX).trans HZ3.out.2.2.1
  have z3 := (hch.frozen HS3.out hX).trans HZ3.out.2.2.2.1
  have z4 := (hch.frozen HS3.out hX).trans HZ3.out.2.2.2.2
  go_wp2
  have hset : Chg [w.heap.size + 1] W4 _ := ((((Chg.set1 W4 (w.heap.size + 1) 0 (.int .i64 (0))).set2 1 (.bool false)).set2 2 (.int .u64 0)).set2 3 (.int .u64 0)).set2 4 (.int .i64 0)
  have hall : Chg [gt] w _ := (((((((Chg.of_nw HN3.out).trans hch).setNew (p := ⟨w.heap.size + 1, 0, none⟩) (Nat.le_succ _) (.int .i64 (0))).setNew (p := ⟨w.heap.size + 1, 1, none⟩) (Nat.le_succ _) (.bool false)).setNew (p := ⟨w.heap.size + 1, 2, none⟩) (Nat.le_succ _) (.int .u64 0)).setNew (p := ⟨w.heap.size + 1, 3, none⟩) (Nat.le_succ _) (.int .u64 0)).setNew (p := ⟨w.heap.size + 1, 4, none⟩) (Nat.le_succ _) (.int .i64 0))
  refine bodyPost_ret (v := res5 0 false 0 0 0) ?_ rfl ⟨rfl, hall, th_chg hpo hset (by have := H.out.it; simp; omega)⟩
  simp [results, Tryd.results12, go_sem, *]
set_option maxRecDepth 20000 in
set_option maxHeartbeats 8000000 in
theorem do_2ff (base : Nat) (w : World) (gm gt gp : Nat) (slots : Int) (b : List Bool) (L : Value) (h : Mdl base w gm gt gp slots b L) (t : Nat) (ht : b[t]? = some false) :
    Calls Tryd.prog 12 #[.pointer (some ⟨gm, 0, none⟩), .int .i64 t, op7 2 0 0 0 0 0 0] w fun e w' => e = .returned (res5 10 false 0 0 0) ∧ Chg [gt] w w' ∧ ThRow base w' gt b := by
  haveI : In gm w := ⟨h.im⟩
  have HR := Lib.hid (fun W (hw : Nw w W) => refuse_2_ff base W gm gt gp slots b L (h.nw hw) t ht)
  have HS := Lib.hid (trivial)
  have H := Lib.hid h
  clear h
  obtain ⟨W2, hW2⟩ : ∃ W2, W2 = (w.alloc (.cells #[.int .u8 2, .int .u64 0, .int .u64 0, .int .u64 0, .int .u64 0, .int .u64 0, .int .u64 0] 25)).alloc (.cells #[.int .i64 0, .bool false, .int .u64 0, .int .u64 0, .int .i64 0] 28) := ⟨_, rfl⟩
  have hn2 : Nw w W2 := by rw [hW2]; exact (by repeat (first | exact Xt.Nw.refl _ | refine Xt.Nw.drew ?_ | refine Xt.Nw.drewN ?_ _ | refine Xt.Nw.alloc ?_ _ | refine Xt.Nw.joined ?_ | refine Xt.Nw.drewd ?_ | refine Xt.Nw.drewdN ?_ | refine Xt.Nw.ext ?_ | refine Xt.Nw.ext_some ?_ (by assumption) | refine Xt.Nw.setCell ?_ (by simp [go_sem] <;> omega) _))
  have q0 : W2.cell? ⟨w.heap.size, 0, none⟩ = some (.int .u8 2) := by rw [hW2]; simp [go_sem]
  have q1 : W2.cell? ⟨w.heap.size, 1, none⟩ = some (.int .u64 0) := by rw [hW2]; simp [go_sem]
  have q2 : W2.cell? ⟨w.heap.size, 2, none⟩ = some (.int .u64 0) := by rw [hW2]; simp [go_sem]
  have q3 : W2.cell? ⟨w.heap.size, 3, none⟩ = some (.int .u64 0) := by rw [hW2]; simp [go_sem]
  have q4 : W2.cell? ⟨w.heap.size, 4, none⟩ = some (.int .u64 0) := by rw [hW2]; simp [go_sem]
  have q5 : W2.cell? ⟨w.heap.size, 5, none⟩ = some (.int .u64 0) := by rw [hW2]; simp [go_sem]
  have q6 : W2.cell? ⟨w.heap.size, 6, none⟩ = some (.int .u64 0) := by rw [hW2]; simp [go_sem]
  have r0 : W2.cell? ⟨w.heap.size + 1, 0, none⟩ = some (.int .i64 0) := by rw [hW2]; simp [go_sem]
  have r1 : W2.cell? ⟨w.heap.size + 1, 1, none⟩ = some (.bool false) := by rw [hW2]; simp [go_sem]
  have r2 : W2.cell? ⟨w.heap.size + 1, 2, none⟩ = some (.int .u64 0) := by rw [hW2]; simp [go_sem]
  have r3 : W2.cell? ⟨w.heap.size + 1, 3, none⟩ = some (.int .u64 0) := by rw [hW2]; simp [go_sem]
  have r4 : W2.cell? ⟨w.heap.size + 1, 4, none⟩ = some (.int .i64 0) := by rw [hW2]; simp [go_sem]
  have zz : ∀ o, W2.frozen? ⟨w.heap.size + 1, o, none⟩ = false := fun o => by rw [hW2]; simp [go_sem]
  have hs2 : w.heap.size + 1 < W2.heap.size := by rw [hW2]; simp
  have HN2 := Lib.hid hn2
  have HW2 := Lib.hid hW2
  have HS2 := Lib.hid hs2
  have HZ := Lib.hid zz
  clear hn2 hW2 hs2 zz
  go_enter Tryd.func12, Tryd.ntmps12
  go_wp2_with fail
  rw [← HW2.out]
  refine (HR.out W2 HN2.out).mono ?_
  rintro e W3 ⟨rfl, hn3⟩
  replace q0 := cell_nw q0 hn3
  replace q1 := cell_nw q1 hn3
  replace q2 := cell_nw q2 hn3
  replace q3 := cell_nw q3 hn3
  replace q4 := cell_nw q4 hn3
  replace q5 := cell_nw q5 hn3
  replace q6 := cell_nw q6 hn3
  replace r0 := cell_nw r0 hn3
  replace r1 := cell_nw r1 hn3
  replace r2 := cell_nw r2 hn3
  replace r3 := cell_nw r3 hn3
  replace r4 := cell_nw r4 hn3
  have z0 : W3.frozen? ⟨w.heap.size + 1, 0, none⟩ = false := (frozen_nw HS2.out hn3).trans (HZ.out 0)
  have z1 : W3.frozen? ⟨w.heap.size + 1, 1, none⟩ = false := (frozen_nw HS2.out hn3).trans (HZ.out 1)
  have z2 : W3.frozen? ⟨w.heap.size + 1, 2, none⟩ = false := (frozen_nw HS2.out hn3).trans (HZ.out 2)
  have z3 : W3.frozen? ⟨w.heap.size + 1, 3, none⟩ = false := (frozen_nw HS2.out hn3).trans (HZ.out 3)
  have z4 : W3.frozen? ⟨w.heap.size + 1, 4, none⟩ = false := (frozen_nw HS2.out hn3).trans (HZ.out 4)
  have HS3 := Lib.hid (Nat.lt_of_lt_of_le HS2.out hn3.grown.size)
  have HN3 := Lib.hid (HN2.out.trans hn3)
  clear hn3
  go_wp2
  have hset : Chg [w.heap.size + 1] W3 _ := ((((Chg.set1 W3 (w.heap.size + 1) 0 (.int .i64 (10))).set2 1 (.bool false)).set2 2 (.int .u64 0)).set2 3 (.int .u64 0)).set2 4 (.int .i64 0)
  have hall : Chg [gt] w _ := ((((((Chg.of_nw HN3.out : Chg [gt] w W3).setNew (p := ⟨w.heap.size + 1, 0, none⟩) (Nat.le_succ _) (.int .i64 (10))).setNew (p := ⟨w.heap.size + 1, 1, none⟩) (Nat.le_succ _) (.bool false)).setNew (p := ⟨w.heap.size + 1, 2, none⟩) (Nat.le_succ _) (.int .u64 0)).setNew (p := ⟨w.heap.size + 1, 3, none⟩) (Nat.le_succ _) (.int .u64 0)).setNew (p := ⟨w.heap.size + 1, 4, none⟩) (Nat.le_succ _) (.int .i64 0))
  have hall0 := th_chg (own_nw H.out.th HN3.out) hset (by have := H.out.it; simp; omega)
  refine bodyPost_ret (v := res5 10 false 0 0 0) ?_ rfl ⟨rfl, hall, hall0⟩
  simp [results, Tryd.results12, go_sem, *]
end Go.Proofs.YtdjcndpnjoahmaaDoor
namespace Go.Proofs.YtdjcndpnjoahmaaDoor
open Go.RowKit Go.Xt
/-! Session. -/
set_option maxRecDepth 20000 in
@[go_sem high] theorem fld_sess (x y z : Bool) (l h : Int) (w : World) : Sem.run Tryd.prog (Instr.field 81 (.agg #[.bool x, .bool y, .int .u64 l, .int .u64 h, .bool z]) 1) w = .ok (.bool z) w := by rfl
set_option maxRecDepth 20000 in
set_option maxHeartbeats 4000000 in
theorem of_any (base : Nat) (w : World) (gm gt gp : Nat) (slots : Int) (b : List Bool) (L : Value) (h : Mdl base w gm gt gp slots b L) (t : Nat) (sf : Bool) (ht : b[t]? = some sf) :
    Calls Tryd.prog 35 #[.pointer (some ⟨gm, 0, none⟩), .int .i64 t] w fun e w' => e = .returned (.agg #[.bool false, .bool false, .int .u64 0, .int .u64 0, .bool sf]) ∧ Nw w w' := by
  obtain ⟨p, _⟩ := List.getElem?_eq_some_iff.1 ht
  obtain ⟨c0, c1, c2, c3, c4⟩ := h.cells ht
  have m2 := h.m2
  haveI : In gm w := ⟨h.im⟩
  haveI : In gt w := ⟨h.it⟩
  obtain ⟨n, hn⟩ : ∃ n, n = b.length := ⟨_, rfl⟩
  rw [← hn] at m2 p
  have t0 : (0 : Int) ≤ (t : Int) := by omega
  have t1 : (t : Int) < (n : Int) := by omega
  have d0 : decide ((t : Int) < 0) = false := by rw [decide_eq_false_iff_not]; omega
  have d1 : decide ((n : Int) ≤ (t : Int)) = false := by rw [decide_eq_false_iff_not]; omega
  clear h ht hn
  go_enter Tryd.func35, Tryd.ntmps35
  go_wp2
  refine bodyPost_ret (v := .agg #[.bool false, .bool false, .int .u64 0, .int .u64 0, .bool sf]) ?_ rfl ⟨rfl, (by repeat (first | exact Xt.Nw.refl _ | refine Xt.Nw.drew ?_ | refine Xt.Nw.drewN ?_ _ | refine Xt.Nw.alloc ?_ _ | refine Xt.Nw.joined ?_ | refine Xt.Nw.drewd ?_ | refine Xt.Nw.drewdN ?_ | refine Xt.Nw.ext ?_ | refine Xt.Nw.ext_some ?_ (by assumption) | refine Xt.Nw.setCell ?_ (by simp [go_sem] <;> omega) _))⟩
  simp [results, Tryd.results35, go_sem, *]
set_option maxRecDepth 20000 in
set_option maxHeartbeats 4000000 in
theorem session_any (base : Nat) (w : World) (gm gt gp : Nat) (slots : Int) (b : List Bool) (L : Value) (h : Mdl base w gm gt gp slots b L) (t : Nat) (sf : Bool) (ht : b[t]? = some sf) :
    Calls Tryd.prog 17 #[.pointer (some ⟨gm, 0, none⟩), .int .i64 t] w fun e w' => e = .returned (.bool sf) ∧ Nw w w' := by
  have H := Lib.hid (fun W (hw : Nw w W) => of_any base W gm gt gp slots b L (h.nw hw) t sf ht)
  clear h ht
  go_enter Tryd.func17, Tryd.ntmps17
  go_wp2_with fail
  refine (H.out w (Nw.refl _)).mono ?_
  rintro e w' ⟨rfl, dW, rfl⟩
  go_wp2
  go_ret
  exact ⟨rfl, (by repeat (first | exact Xt.Nw.refl _ | refine Xt.Nw.drew ?_ | refine Xt.Nw.drewN ?_ _ | refine Xt.Nw.alloc ?_ _ | refine Xt.Nw.joined ?_ | refine Xt.Nw.drewd ?_ | refine Xt.Nw.drewdN ?_ | refine Xt.Nw.ext ?_ | refine Xt.Nw.ext_some ?_ (by assumption) | refine Xt.Nw.setCell ?_ (by simp [go_sem] <;> omega) _))⟩
end Go.Proofs.YtdjcndpnjoahmaaDoor
namespace Go.Proofs.YtdjcndpnjoahmaaDoor
open Go.RowKit Go.Xt
/-! The ordered map: empty, and with one pair. -/
set_option maxRecDepth 20000 in
set_option maxHeartbeats 4000000 in
theorem search_0 (f : Value) (w : World) :
    Calls Tryd.prog 83 #[.int .i64 0, f] w fun e w' => e = .returned (.int .i64 0) ∧ Nw w w' := by
  go_enter Tryd.func83, Tryd.ntmps83
  go_wp2
  go_loopw [5, 6] (fun a b wr => a = .int .i64 0 ∧ b = .int .i64 0 ∧ wr = w) (fun _ _ _ => 0)
  case atStart => exact ⟨rfl, rfl, rfl⟩
  case round =>
    obtain ⟨rfl, rfl, rfl⟩ := hrel
    go_wp2
    go_ret
    exact ⟨rfl, Nw.refl _⟩
set_option maxRecDepth 20000 in
set_option maxHeartbeats 4000000 in
theorem find_0 (gp : Nat) (w : World) (h : w.cell? ⟨gp, 0, none⟩ = some (.slice none 0 0)) :
    Calls Tryd.prog 63 #[.pointer (some ⟨gp, 0, none⟩), .int .u64 4] w fun e w' => e = .returned (.tuple #[.int .i64 0, .bool false]) ∧ Nw w w' := by
  haveI : In gp w := ⟨World.block_lt_of_cell? w _ h⟩
  go_enter Tryd.func63, Tryd.ntmps63
  go_wp2_with fail
  refine (search_0 _ _).mono ?_
  rintro e w' ⟨rfl, dW, rfl⟩
  go_wp2_with fail
  (refine wp_region_nw (by kernel_rfl) (by kernel_rfl) ?_; (repeat (go_big_quiet_step (fail))); refine wpQuiet_nil ?_; intro _ hreg; obtain ⟨dW, rfl⟩ : Nw _ _ := hreg)
  go_wp2
  exact bodyPost_ret (results_tmp2 rfl _ _ _) rfl ⟨rfl, (by repeat (first | exact Xt.Nw.refl _ | refine Xt.Nw.drew ?_ | refine Xt.Nw.drewN ?_ _ | refine Xt.Nw.alloc ?_ _ | refine Xt.Nw.joined ?_ | refine Xt.Nw.drewd ?_ | refine Xt.Nw.drewdN ?_ | refine Xt.Nw.ext ?_ | refine Xt.Nw.ext_some ?_ (by assumption) | refine Xt.Nw.setCell ?_ (by simp [go_sem] <;> omega) _))⟩
set_option maxRecDepth 20000 in
set_option maxHeartbeats 4000000 in
theorem clos_1 (gp gl c a b : Nat) (w : World) (h : w.cell? ⟨gp, 0, none⟩ = some (.slice (some ⟨gl, 0, none⟩) 1 c)) (h0 : w.cell? ⟨gl, 0, none⟩ = some (.int .u64 4))
    (ha : w.cell? ⟨a, 0, none⟩ = some (.pointer (some ⟨gp, 0, none⟩))) (hb : w.cell? ⟨b, 0, none⟩ = some (.int .u64 4)) :
    Calls Tryd.prog 84 #[.int .i64 0, .pointer (some ⟨a, 0, none⟩), .pointer (some ⟨b, 0, none⟩)] w fun e w' => e = .returned (.bool true) ∧ Nw w w' := by
  haveI : In gp w := ⟨World.block_lt_of_cell? w _ h⟩
  haveI : In gl w := ⟨World.block_lt_of_cell? w _ h0⟩
  haveI : In a w := ⟨World.block_lt_of_cell? w _ ha⟩
  haveI : In b w := ⟨World.block_lt_of_cell? w _ hb⟩
  go_enter Tryd.func84, Tryd.ntmps84
  go_wp2_with fail
  (refine wp_region_nw (by kernel_rfl) (by kernel_rfl) ?_; (repeat (go_big_quiet_step (fail))); refine wpQuiet_nil ?_; intro _ hreg; obtain ⟨dW, rfl⟩ : Nw _ _ := hreg)
  go_wp2
  go_ret
  exact ⟨rfl, (by repeat (first | exact Xt.Nw.refl _ | refine Xt.Nw.drew ?_ | refine Xt.Nw.drewN ?_ _ | refine Xt.Nw.alloc ?_ _ | refine Xt.Nw.joined ?_ | refine Xt.Nw.drewd ?_ | refine Xt.Nw.drewdN ?_ | refine Xt.Nw.ext ?_ | refine Xt.Nw.ext_some ?_ (by assumption) | refine Xt.Nw.setCell ?_ (by simp [go_sem] <;> omega) _))⟩
set_option maxRecDepth 20000 in
set_option maxHeartbeats 4000000 in
theorem search_1 (gp gl c a b : Nat) (w : World) (h : w.cell? ⟨gp, 0, none⟩ = some (.slice (some ⟨gl, 0, none⟩) 1 c)) (h0 : w.cell? ⟨gl, 0, none⟩ = some (.int .u64 4))
    (ha : w.cell? ⟨a, 0, none⟩ = some (.pointer (some ⟨gp, 0, none⟩))) (hb : w.cell? ⟨b, 0, none⟩ = some (.int .u64 4)) :
    Calls Tryd.prog 83 #[.int .i64 1, .func (.func 84) #[] #[.pointer (some ⟨a, 0, none⟩), .pointer (some ⟨b, 0, none⟩)]] w fun e w' => e = .returned (.int .i64 0) ∧ Nw w w' := by
  have HC := Lib.hid (fun W (hw : Nw w W) => clos_1 gp gl c a b W (cell_nw h hw) (cell_nw h0 hw) (cell_nw ha hw) (cell_nw hb hw))
  clear h h0 ha hb
  go_enter Tryd.func83, Tryd.ntmps83
  go_wp2
  go_loopw [5, 6, 7] (fun x y _ wr => x = .int .i64 0 ∧ (y = .int .i64 0 ∨ y = .int .i64 1) ∧ Nw w wr) (fun _ y _ _ => (intOf y).toNat)
  case atStart => exact ⟨rfl, .inr rfl, Nw.refl _⟩
  case round =>
    obtain ⟨rfl, rfl | rfl, d, rfl⟩ := hrel
    · go_wp2
      go_ret
      exact ⟨rfl, (by repeat (first | exact Xt.Nw.refl _ | refine Xt.Nw.drew ?_ | refine Xt.Nw.drewN ?_ _ | refine Xt.Nw.alloc ?_ _ | refine Xt.Nw.joined ?_ | refine Xt.Nw.drewd ?_ | refine Xt.Nw.drewdN ?_ | refine Xt.Nw.ext ?_ | refine Xt.Nw.ext_some ?_ (by assumption) | refine Xt.Nw.setCell ?_ (by simp [go_sem] <;> omega) _))⟩
    · go_wp2_with fail
      refine (HC.out _ ((by repeat (first | exact Xt.Nw.refl _ | refine Xt.Nw.drew ?_ | refine Xt.Nw.drewN ?_ _ | refine Xt.Nw.alloc ?_ _ | refine Xt.Nw.joined ?_ | refine Xt.Nw.drewd ?_ | refine Xt.Nw.drewdN ?_ | refine Xt.Nw.ext ?_ | refine Xt.Nw.ext_some ?_ (by assumption) | refine Xt.Nw.setCell ?_ (by simp [go_sem] <;> omega) _)))).mono ?_
      rintro e w' ⟨rfl, dW, rfl⟩
      go_wp2
      exact ⟨⟨rfl, .inl rfl, (by repeat (first | exact Xt.Nw.refl _ | refine Xt.Nw.drew ?_ | refine Xt.Nw.drewN ?_ _ | refine Xt.Nw.alloc ?_ _ | refine Xt.Nw.joined ?_ | refine Xt.Nw.drewd ?_ | refine Xt.Nw.drewdN ?_ | refine Xt.Nw.ext ?_ | refine Xt.Nw.ext_some ?_ (by assumption) | refine Xt.Nw.setCell ?_ (by simp [go_sem] <;> omega) _))⟩, by simp [intOf]⟩
set_option maxRecDepth 20000 in
set_option maxHeartbeats 4000000 in
theorem find_1 (gp gl c : Nat) (w : World) (h : w.cell? ⟨gp, 0, none⟩ = some (.slice (some ⟨gl, 0, none⟩) 1 c)) (h0 : w.cell? ⟨gl, 0, none⟩ = some (.int .u64 4)) :
    Calls Tryd.prog 63 #[.pointer (some ⟨gp, 0, none⟩), .int .u64 4] w fun e w' => e = .returned (.tuple #[.int .i64 0, .bool true]) ∧ Nw w w' := by
  haveI : In gp w := ⟨World.block_lt_of_cell? w _ h⟩
  haveI : In gl w := ⟨World.block_lt_of_cell? w _ h0⟩
  go_enter Tryd.func63, Tryd.ntmps63
  go_wp2_with fail
  refine (search_1 gp gl c _ _ _ (by simp [go_sem, h]) (by simp [go_sem, h0]) (by simp [go_sem]) (by simp [go_sem])).mono ?_
  rintro e w' ⟨rfl, dW, rfl⟩
  go_wp2_with fail
  (refine wp_region_nw (by kernel_rfl) (by kernel_rfl) ?_; (repeat (go_big_quiet_step (fail))); refine wpQuiet_nil ?_; intro _ hreg; obtain ⟨dW, rfl⟩ : Nw _ _ := hreg)
  go_wp2
  exact bodyPost_ret (results_tmp2 rfl _ _ _) rfl ⟨rfl, (by repeat (first | exact Xt.Nw.refl _ | refine Xt.Nw.drew ?_ | refine Xt.Nw.drewN ?_ _ | refine Xt.Nw.alloc ?_ _ | refine Xt.Nw.joined ?_ | refine Xt.Nw.drewd ?_ | refine Xt.Nw.drewdN ?_ | refine Xt.Nw.ext ?_ | refine Xt.Nw.ext_some ?_ (by assumption) | refine Xt.Nw.setCell ?_ (by simp [go_sem] <;> omega) _))⟩
theorem pairInfo : (Tryd.prog.info? 85).map (fun i => (i.zero, i.size, i.bytes)) = some (some (.agg #[.int .u64 0, .int .u64 0]), 2, 16) := by kernel_rfl
set_option maxRecDepth 20000 in
set_option maxHeartbeats 4000000 in
/-- slices.Insert of one pair into nothing. -/
theorem insert_0 (gv : Nat) (w : World) (h0 : w.cell? ⟨gv, 0, none⟩ = some (.int .u64 4)) (h1 : w.cell? ⟨gv, 1, none⟩ = some (.int .u64 2)) :
    Calls Tryd.prog 85 #[.slice none 0 0, .int .i64 0, .slice (some ⟨gv, 0, none⟩) 1 1] w fun e w' => (∃ v, e = .returned v ∧ w'.ownsRow w.heap.size 85 2 v 1 [.int .u64 4, .int .u64 2]) ∧ Nw w w' := by
  haveI : In gv w := ⟨World.block_lt_of_cell? w _ h0⟩
  go_enter Tryd.func85, Tryd.ntmps85
  have hrd : Rd w 2 (some ⟨gv, 0, none⟩) 1 [.int .u64 4, .int .u64 2] := ⟨rfl, fun _ => ⟨gv, 0, rfl, World.block_lt_of_cell? w _ h0, fun j u hu => by
    match j, hu with
    | 0, hu => simp at hu; subst hu; exact h0
    | 1, hu => simp at hu; subst hu; exact h1
    | j + 2, hu => simp at hu⟩⟩
  go_wp2_with (at_builtin; refine wpList_appS rfl _ _ 40 rfl 85 (.agg #[.int .u64 0, .int .u64 0]) 2 16 Tryd.underlying40 pairInfo rfl (by decide) w w (Nw.refl _) _ 0 [] rfl (World.ownsRow_nil _ _ _ _) _ 1 1 [.int .u64 4, .int .u64 2] rfl hrd (by intro u hu; simp at hu; rcases hu with rfl | rfl <;> rfl) (by unfold maxLen; omega) (by omega) ?_; intro vA dA hownA hnil)
  exact bodyPost_ret (results_tmp rfl _ _ _) rfl ⟨⟨vA, rfl, hownA⟩, ⟨_, rfl⟩⟩
/-- The map's one pair. -/
def One (W : World) (gp gl c : Nat) : Prop := W.cell? ⟨gp, 0, none⟩ = some (.slice (some ⟨gl, 0, none⟩) 1 c) ∧ W.cell? ⟨gl, 0, none⟩ = some (.int .u64 4) ∧ W.cell? ⟨gl, 1, none⟩ = some (.int .u64 2) ∧ (∀ o, W.frozen? ⟨gl, o, none⟩ = false) ∧ 1 ≤ c ∧ c ≤ maxLen ∧ W.frozen? ⟨gp, 0, none⟩ = false
set_option maxRecDepth 20000 in
set_option maxHeartbeats 4000000 in
theorem set_0 (gp : Nat) (w : World) (h : w.cell? ⟨gp, 0, none⟩ = some (.slice none 0 0)) (hz : w.frozen? ⟨gp, 0, none⟩ = false) :
    Calls Tryd.prog 64 #[.pointer (some ⟨gp, 0, none⟩), .int .u64 4, .int .u64 2] w fun e w' => e = .returned (.tuple #[]) ∧ Chg [gp] w w' ∧ ∃ gl c, One w' gp gl c ∧ w.heap.size ≤ gl := by
  have hlt := World.block_lt_of_cell? w _ h
  haveI : In gp w := ⟨hlt⟩
  have HF := Lib.hid (fun W (hw : Nw w W) => find_0 gp W (cell_nw h hw))
  have HLT := Lib.hid hlt
  clear hlt
  go_enter Tryd.func64, Tryd.ntmps64
  go_wp2_with fail
  refine (HF.out w (Nw.refl _)).mono ?_
  rintro e w' ⟨rfl, dW, rfl⟩
  go_wp2_with fail
  refine (insert_0 _ _ (by simp [go_sem]) (by simp [go_sem])).mono ?_
  rintro e W3 ⟨⟨v, rfl, hown⟩, hn3⟩
  have hn3w : Nw w W3 := Nw.trans ((by repeat (first | exact Xt.Nw.refl _ | refine Xt.Nw.drew ?_ | refine Xt.Nw.drewN ?_ _ | refine Xt.Nw.alloc ?_ _ | refine Xt.Nw.joined ?_ | refine Xt.Nw.drewd ?_ | refine Xt.Nw.drewdN ?_ | refine Xt.Nw.ext ?_ | refine Xt.Nw.ext_some ?_ (by assumption) | refine Xt.Nw.setCell ?_ (by simp [go_sem] <;> omega) _))) hn3
  have hge : w.heap.size ≤ (w.ext none dW).heap.size := le_size _ _ _
  obtain ⟨gl, cap, rfl, hgl, hin, hc1, hc2⟩ : ∃ gl cap, v = .slice (some ⟨gl, 0, none⟩) 1 cap ∧ w.heap.size ≤ gl ∧ In gl W3 ∧ 1 ≤ cap ∧ cap ≤ maxLen := by
    rcases own_forms hown with ⟨_, h0⟩ | ⟨gl, cap, hv, hg, hin, h1, h2⟩
    · omega
    · exact ⟨gl, cap, hv, by simp at hg; omega, hin, h1, h2⟩
  have HOW := Lib.hid hown
  have HN3 := Lib.hid hn3w
  have h3 := cell_nw h hn3w
  have hz3 : W3.frozen? ⟨gp, 0, none⟩ = false := (frozen_nw HLT.out hn3w).trans hz
  have o0 : W3.cell? ⟨gl, 0, none⟩ = some (.int .u64 4) := hown.cellAt 0 (by omega)
  have o1 : W3.cell? ⟨gl, 1, none⟩ = some (.int .u64 2) := hown.cellAt 1 (by omega)
  have oz : ∀ o, W3.frozen? ⟨gl, o, none⟩ = false := fun o => hown.frozenAt o
  have O0 := Lib.hid o0
  have O1 := Lib.hid o1
  have OZ := Lib.hid oz
  have hne : gl ≠ gp := by have := HLT.out; omega
  have HNE := Lib.hid hne
  clear hown hn3 hn3w h hz o0 o1 oz hne hge
  go_wp2
  have hch : Chg [gp] w (W3.setCell ⟨gp, 0, none⟩ (.slice (some ⟨gl, 0, none⟩) 1 cap)) := (Chg.of_nw HN3.out).trans (Chg.set1 W3 gp 0 _)
  have hcs := Chg.set1 W3 gp 0 (.slice (some ⟨gl, 0, none⟩) 1 cap)
  have hx : gl ∉ [gp] := by have := HNE.out; simpa using this
  go_end0
  exact ⟨rfl, hch, gl, cap, ⟨World.cell?_setCell_same _ _ _ h3, hcs.cell O0.out hx, hcs.cell O1.out hx, fun o => (hcs.frozen hin.lt hx).trans (OZ.out o), hc1, hc2, by rw [World.frozen?_setCell]; exact hz3⟩, hgl⟩
end Go.Proofs.YtdjcndpnjoahmaaDoor
namespace Go.Proofs.YtdjcndpnjoahmaaDoor
open Go.RowKit Go.Xt
/-! The ordered map at any pairs: find. -/
def pcells (l : List (Int × Int)) : List Value := l.flatMap fun x => [.int .u64 x.1, .int .u64 x.2]
theorem pcells_get : ∀ (l : List (Int × Int)) (i : Nat) (x : Int × Int), l[i]? = some x → (pcells l)[i * 2]? = some (.int .u64 x.1) ∧ (pcells l)[i * 2 + 1]? = some (.int .u64 x.2)
  | [], i, x, h => by simp at h
  | y :: l, 0, x, h => by simp at h; subst h; exact ⟨rfl, rfl⟩
  | y :: l, i + 1, x, h => by
    have h2 := pcells_get l i x (by simpa using h)
    have e : ∀ j, (pcells (y :: l))[(i + 1) * 2 + j]? = (pcells l)[i * 2 + j]? := fun j => by
      rw [show (i + 1) * 2 + j = (i * 2 + j) + 2 by omega]; rfl
    exact ⟨(e 0).trans h2.1, (e 1).trans h2.2⟩
theorem pcells_len (l : List (Int × Int)) : (pcells l).length = l.length * 2 := by
  induction l with
  | nil => rfl
  | cons x l ih => rw [pcells, List.flatMap_cons, List.length_append, ← pcells, ih, List.length_cons]; simp; omega
/-- Keys strictly ascend. -/
def asc (l : List (Int × Int)) : Prop := l.Pairwise fun a b => a.1 < b.1
/-- How many keys lie below. -/
def pos (k : Int) : List (Int × Int) → Nat
  | [] => 0
  | x :: r => if x.1 < k then pos k r + 1 else 0
theorem pos_le (k : Int) : ∀ l, pos k l ≤ l.length
  | [] => Nat.le_refl _
  | x :: r => by rw [pos]; split <;> simp [pos_le k r]
theorem pos_lt {k : Int} : ∀ {l : List (Int × Int)}, asc l → ∀ {h : Nat} {x : Int × Int}, l[h]? = some x → (x.1 < k ↔ h < pos k l)
  | [], _, h, x, hx => by simp at hx
  | y :: r, ha, 0, x, hx => by
    simp at hx; subst hx
    rw [pos]; split <;> simp_all
  | y :: r, ha, h + 1, x, hx => by
    have ha2 := List.pairwise_cons.1 ha
    have h2 := pos_lt (k := k) ha2.2 (h := h) (x := x) (by simpa using hx)
    have hy : y.1 < x.1 := ha2.1 x (List.mem_of_getElem? (by simpa using hx : r[h]? = some x))
    rw [pos]
    split
    · rw [h2]; omega
    · constructor
      · intro h3; omega
      · intro h3; omega
/-- Whether a key is there. -/
def hasK (k : Int) (l : List (Int × Int)) : Bool := match l[pos k l]? with
  | some x => decide (x.1 = k)
  | none => false
/-- The cells of a map's pairs. -/
structure PAt (W : World) (gp g n c : Nat) (l : List (Int × Int)) : Prop where
  p0 : W.cell? ⟨gp, 0, none⟩ = some (.slice (some ⟨g, 0, none⟩) n c)
  len : l.length = n
  at' : ∀ i x, l[i]? = some x → W.cell? ⟨g, i * 2, none⟩ = some (.int .u64 x.1) ∧ W.cell? ⟨g, i * 2 + 1, none⟩ = some (.int .u64 x.2)
theorem PAt.nw {W W' : World} {gp g n c : Nat} {l : List (Int × Int)} (h : PAt W gp g n c l) (hn : Nw W W') : PAt W' gp g n c l :=
  ⟨cell_nw h.p0 hn, h.len, fun i x hx => ⟨cell_nw (h.at' i x hx).1 hn, cell_nw (h.at' i x hx).2 hn⟩⟩
set_option maxRecDepth 20000 in
set_option maxHeartbeats 4000000 in
theorem clos_any (gp g n c a b : Nat) (l : List (Int × Int)) (k : Int) (w : World) (h : PAt w gp g n c l) (hn : n ≤ 1000000)
    (ha : w.cell? ⟨a, 0, none⟩ = some (.pointer (some ⟨gp, 0, none⟩))) (hb : w.cell? ⟨b, 0, none⟩ = some (.int .u64 k)) (i : Nat) (x : Int × Int) (hx : l[i]? = some x) :
    Calls Tryd.prog 84 #[.int .i64 i, .pointer (some ⟨a, 0, none⟩), .pointer (some ⟨b, 0, none⟩)] w fun e w' => e = .returned (.bool (decide (k ≤ x.1))) ∧ Nw w w' := by
  have p := (List.getElem?_eq_some_iff.1 hx).1
  have hlen := h.len
  have p0 := h.p0
  have c0 := (h.at' i x hx).1
  haveI : In gp w := ⟨World.block_lt_of_cell? w _ p0⟩
  haveI : In g w := ⟨World.block_lt_of_cell? w _ c0⟩
  haveI : In a w := ⟨World.block_lt_of_cell? w _ ha⟩
  haveI : In b w := ⟨World.block_lt_of_cell? w _ hb⟩
  have i0 : (0 : Int) ≤ (i : Int) := by omega
  have i1 : (i : Int) < (n : Int) := by omega
  clear h hx hlen p
  go_enter Tryd.func84, Tryd.ntmps84
  go_wp2_with fail
  (refine wp_region_nw (by kernel_rfl) (by kernel_rfl) ?_; (repeat (go_big_quiet_step (fail))); refine wpQuiet_nil ?_; intro _ hreg; obtain ⟨dW, rfl⟩ : Nw _ _ := hreg)
  go_wp2
  go_ret
  exact ⟨rfl, (by repeat (first | exact Xt.Nw.refl _ | refine Xt.Nw.drew ?_ | refine Xt.Nw.drewN ?_ _ | refine Xt.Nw.alloc ?_ _ | refine Xt.Nw.joined ?_ | refine Xt.Nw.drewd ?_ | refine Xt.Nw.drewdN ?_ | refine Xt.Nw.ext ?_ | refine Xt.Nw.ext_some ?_ (by assumption) | refine Xt.Nw.setCell ?_ (by simp [go_sem] <;> omega) _))⟩
set_option maxRecDepth 20000 in
set_option maxHeartbeats 4000000 in
theorem search_any (gp g n c a b : Nat) (l : List (Int × Int)) (k : Int) (w : World) (h : PAt w gp g n c l) (hs : asc l) (hn : n ≤ 1000000)
    (ha : w.cell? ⟨a, 0, none⟩ = some (.pointer (some ⟨gp, 0, none⟩))) (hb : w.cell? ⟨b, 0, none⟩ = some (.int .u64 k)) :
    Calls Tryd.prog 83 #[.int .i64 n, .func (.func 84) #[] #[.pointer (some ⟨a, 0, none⟩), .pointer (some ⟨b, 0, none⟩)]] w fun e w' => e = .returned (.int .i64 (pos k l)) ∧ Nw w w' := by
  have HC := Lib.hid (fun W (hw : Nw w W) i x (hx : l[i]? = some x) => clos_any gp g n c a b l k W (h.nw hw) hn (cell_nw ha hw) (cell_nw hb hw) i x hx)
  have hlen := Lib.hid h.len
  have HS := Lib.hid (fun h x hx => pos_lt (k := k) hs (h := h) (x := x) hx)
  have hpl := pos_le k l
  rw [hlen.out] at hpl
  obtain ⟨P, hP⟩ : ∃ P, P = pos k l := ⟨_, rfl⟩
  rw [← hP] at HS hpl
  rw [← hP]
  clear h ha hb hs hP
  go_enter Tryd.func83, Tryd.ntmps83
  go_wp2
  go_loopw [5, 6, 7] (fun x y _ wr => ∃ i j : Nat, i ≤ P ∧ P ≤ j ∧ j ≤ n ∧ x = .int .i64 i ∧ y = .int .i64 j ∧ Nw w wr) (fun x y _ _ => (intOf y).toNat - (intOf x).toNat)
  case atStart => exact ⟨0, n, by omega, hpl, by omega, rfl, rfl, Nw.refl _⟩
  case round =>
    obtain ⟨i, j, hi, hj, hjn, rfl, rfl, d, rfl⟩ := hrel
    by_cases hlt : i < j
    · have i1 : (i : Int) < (j : Int) := by omega
      obtain ⟨h, hh⟩ : ∃ h : Nat, h = (i + j) / 2 := ⟨_, rfl⟩
      have hhk : ((i : Int) + (j : Int)) / 2 = (h : Int) := by omega
      have h1 : i ≤ h := by omega
      have h2 : h < j := by omega
      have hb8 : j ≤ 1000000 := by omega
      obtain ⟨x, hx⟩ : ∃ x, l[h]? = some x := ⟨_, List.getElem?_eq_getElem (by have := hlen.out; omega)⟩
      have hiff := HS.out h x hx
      have HX := Lib.hid hx
      have HI := Lib.hid (show i ≤ h ∧ h < j ∧ i ≤ P ∧ P ≤ j ∧ j ≤ n from ⟨h1, h2, hi, hj, hjn⟩)
      clear hh hx h1
      by_cases hk : k ≤ x.1
      · have d1 : decide (k ≤ x.1) = true := by simpa using hk
        have hP2 := Lib.hid (show P ≤ h by have := hiff; omega)
        clear hiff
        go_wp2_with fail
        refine (HC.out _ ((by repeat (first | exact Xt.Nw.refl _ | refine Xt.Nw.drew ?_ | refine Xt.Nw.drewN ?_ _ | refine Xt.Nw.alloc ?_ _ | refine Xt.Nw.joined ?_ | refine Xt.Nw.drewd ?_ | refine Xt.Nw.drewdN ?_ | refine Xt.Nw.ext ?_ | refine Xt.Nw.ext_some ?_ (by assumption) | refine Xt.Nw.setCell ?_ (by simp [go_sem] <;> omega) _))) h x HX.out).mono ?_
        rintro e w' ⟨rfl, dW, rfl⟩
        go_wp2
        exact ⟨⟨i, h, by have := HI.out; omega, hP2.out, by have := HI.out; omega, rfl, by go_num, (by repeat (first | exact Xt.Nw.refl _ | refine Xt.Nw.drew ?_ | refine Xt.Nw.drewN ?_ _ | refine Xt.Nw.alloc ?_ _ | refine Xt.Nw.joined ?_ | refine Xt.Nw.drewd ?_ | refine Xt.Nw.drewdN ?_ | refine Xt.Nw.ext ?_ | refine Xt.Nw.ext_some ?_ (by assumption) | refine Xt.Nw.setCell ?_ (by simp [go_sem] <;> omega) _))⟩, by have := HI.out; simp [intOf]; omega⟩
      · have d1 : decide (k ≤ x.1) = false := by simpa using hk
        have hP2 := Lib.hid (show h < P by have := hiff; omega)
        clear hiff
        go_wp2_with fail
        refine (HC.out _ ((by repeat (first | exact Xt.Nw.refl _ | refine Xt.Nw.drew ?_ | refine Xt.Nw.drewN ?_ _ | refine Xt.Nw.alloc ?_ _ | refine Xt.Nw.joined ?_ | refine Xt.Nw.drewd ?_ | refine Xt.Nw.drewdN ?_ | refine Xt.Nw.ext ?_ | refine Xt.Nw.ext_some ?_ (by assumption) | refine Xt.Nw.setCell ?_ (by simp [go_sem] <;> omega) _))) h x HX.out).mono ?_
        rintro e w' ⟨rfl, dW, rfl⟩
        go_wp2
        exact ⟨⟨h + 1, j, hP2.out, by have := HI.out; omega, by have := HI.out; omega, by go_num, rfl, (by repeat (first | exact Xt.Nw.refl _ | refine Xt.Nw.drew ?_ | refine Xt.Nw.drewN ?_ _ | refine Xt.Nw.alloc ?_ _ | refine Xt.Nw.joined ?_ | refine Xt.Nw.drewd ?_ | refine Xt.Nw.drewdN ?_ | refine Xt.Nw.ext ?_ | refine Xt.Nw.ext_some ?_ (by assumption) | refine Xt.Nw.setCell ?_ (by simp [go_sem] <;> omega) _))⟩, by have := HI.out; simp [intOf]; omega⟩
    · have i1 : ¬ (i : Int) < (j : Int) := by omega
      go_wp2
      go_ret
      exact ⟨by rw [show i = P by omega]; rfl, (by repeat (first | exact Xt.Nw.refl _ | refine Xt.Nw.drew ?_ | refine Xt.Nw.drewN ?_ _ | refine Xt.Nw.alloc ?_ _ | refine Xt.Nw.joined ?_ | refine Xt.Nw.drewd ?_ | refine Xt.Nw.drewdN ?_ | refine Xt.Nw.ext ?_ | refine Xt.Nw.ext_some ?_ (by assumption) | refine Xt.Nw.setCell ?_ (by simp [go_sem] <;> omega) _))⟩
set_option maxRecDepth 20000 in
set_option maxHeartbeats 4000000 in
theorem find_any (gp g n c : Nat) (l : List (Int × Int)) (k : Int) (w : World) (h : PAt w gp g n c l) (hs : asc l) (hn : n ≤ 1000000) :
    Calls Tryd.prog 63 #[.pointer (some ⟨gp, 0, none⟩), .int .u64 k] w fun e w' => e = .returned (.tuple #[.int .i64 (pos k l), .bool (hasK k l)]) ∧ Nw w w' := by
  have p0 := h.p0
  haveI : In gp w := ⟨World.block_lt_of_cell? w _ p0⟩
  have HPA := Lib.hid h
  have hpl := pos_le k l
  rw [h.len] at hpl
  have HSS := Lib.hid hs
  by_cases hlt : pos k l < n
  · obtain ⟨x, hx⟩ : ∃ x, l[pos k l]? = some x := ⟨_, List.getElem?_eq_getElem (by have := h.len; omega)⟩
    have c0 := (h.at' _ x hx).1
    have hhas : hasK k l = decide (x.1 = k) := by rw [hasK, hx]
    rw [hhas]
    haveI : In g w := ⟨World.block_lt_of_cell? w _ c0⟩
    obtain ⟨P, hP⟩ : ∃ P, P = pos k l := ⟨_, rfl⟩
    rw [← hP] at hlt c0 ⊢
    have HP := Lib.hid hP
    have q1 : (P : Int) < (n : Int) := by omega
    have q0 : (0 : Int) ≤ (P : Int) := by omega
    clear h hs hx hhas hP hpl
    go_enter Tryd.func63, Tryd.ntmps63
    go_wp2_with fail
    refine (search_any gp g n c _ _ l k _ (HPA.out.nw ((by repeat (first | exact Xt.Nw.refl _ | refine Xt.Nw.drew ?_ | refine Xt.Nw.drewN ?_ _ | refine Xt.Nw.alloc ?_ _ | refine Xt.Nw.joined ?_ | refine Xt.Nw.drewd ?_ | refine Xt.Nw.drewdN ?_ | refine Xt.Nw.ext ?_ | refine Xt.Nw.ext_some ?_ (by assumption) | refine Xt.Nw.setCell ?_ (by simp [go_sem] <;> omega) _)))) HSS.out hn (by simp [go_sem]) (by simp [go_sem])).mono ?_
    rintro e w' ⟨rfl, dW, rfl⟩
    rw [← HP.out]
    go_wp2_with fail
    (refine wp_region_nw (by kernel_rfl) (by kernel_rfl) ?_; (repeat (go_big_quiet_step (fail))); refine wpQuiet_nil ?_; intro _ hreg; obtain ⟨dW, rfl⟩ : Nw _ _ := hreg)
    go_wp2
    exact bodyPost_ret (results_tmp2 rfl _ _ _) rfl ⟨rfl, (by repeat (first | exact Xt.Nw.refl _ | refine Xt.Nw.drew ?_ | refine Xt.Nw.drewN ?_ _ | refine Xt.Nw.alloc ?_ _ | refine Xt.Nw.joined ?_ | refine Xt.Nw.drewd ?_ | refine Xt.Nw.drewdN ?_ | refine Xt.Nw.ext ?_ | refine Xt.Nw.ext_some ?_ (by assumption) | refine Xt.Nw.setCell ?_ (by simp [go_sem] <;> omega) _))⟩
  · have hhas : hasK k l = false := by rw [hasK, List.getElem?_eq_none (by have := h.len; omega)]
    rw [hhas]
    obtain ⟨P, hP⟩ : ∃ P, P = pos k l := ⟨_, rfl⟩
    rw [← hP] at hlt ⊢
    have HP := Lib.hid hP
    have q1 : ¬ (P : Int) < (n : Int) := by omega
    have d1 : decide ((P : Int) < (n : Int)) = false := by simpa using q1
    clear h hs hhas hP hpl
    go_enter Tryd.func63, Tryd.ntmps63
    go_wp2_with fail
    refine (search_any gp g n c _ _ l k _ (HPA.out.nw ((by repeat (first | exact Xt.Nw.refl _ | refine Xt.Nw.drew ?_ | refine Xt.Nw.drewN ?_ _ | refine Xt.Nw.alloc ?_ _ | refine Xt.Nw.joined ?_ | refine Xt.Nw.drewd ?_ | refine Xt.Nw.drewdN ?_ | refine Xt.Nw.ext ?_ | refine Xt.Nw.ext_some ?_ (by assumption) | refine Xt.Nw.setCell ?_ (by simp [go_sem] <;> omega) _)))) HSS.out hn (by simp [go_sem]) (by simp [go_sem])).mono ?_
    rintro e w' ⟨rfl, dW, rfl⟩
    rw [← HP.out]
    go_wp2_with fail
    (refine wp_region_nw (by kernel_rfl) (by kernel_rfl) ?_; (repeat (go_big_quiet_step (fail))); refine wpQuiet_nil ?_; intro _ hreg; obtain ⟨dW, rfl⟩ : Nw _ _ := hreg)
    go_wp2
    exact bodyPost_ret (results_tmp2 rfl _ _ _) rfl ⟨rfl, (by repeat (first | exact Xt.Nw.refl _ | refine Xt.Nw.drew ?_ | refine Xt.Nw.drewN ?_ _ | refine Xt.Nw.alloc ?_ _ | refine Xt.Nw.joined ?_ | refine Xt.Nw.drewd ?_ | refine Xt.Nw.drewdN ?_ | refine Xt.Nw.ext ?_ | refine Xt.Nw.ext_some ?_ (by assumption) | refine Xt.Nw.setCell ?_ (by simp [go_sem] <;> omega) _))⟩
end Go.Proofs.YtdjcndpnjoahmaaDoor
