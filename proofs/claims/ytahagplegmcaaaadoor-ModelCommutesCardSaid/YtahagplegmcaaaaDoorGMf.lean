import Derived.Test.YtahagplegmcaaaaDoorGMd
import Derived.Laws.EntriesVeiled
set_option linter.unusedVariables false
set_option linter.unusedSimpArgs false
set_option linter.unnecessarySimpa false
namespace Go.Proofs.YtahagplegmcaaaaDoor
open Go.RowKit Go.Xt
/-! Opening and shutting. -/
/-- The row of the threads. -/
def ThRow (base : Nat) (W : World) (gt : Nat) (b : List Bool) : Prop := W.ownsRow base 74 5 (.slice (some ⟨gt, 0, none⟩) b.length b.length) b.length (thr b)
theorem th_set {base : Nat} {W : World} {gt : Nat} {b : List Bool} (h : ThRow base W gt b) {k : Nat} (hk : k < b.length) (v : Bool) : ThRow base (W.setCell ⟨gt, k * 5 + 4, none⟩ (.bool v)) gt (b.set k v) := by
  have h2 := (h.stored (k * 5 + 4) (.bool v)).1
  rw [← thr_set b k v hk] at h2
  unfold ThRow
  rw [List.length_set]; exact h2
set_option maxRecDepth 20000 in
set_option maxHeartbeats 4000000 in
theorem shut_any (base : Nat) (w : World) (gm gt gp : Nat) (slots : Int) (b : List Bool) (L : Value) (h : Mdl base w gm gt gp slots b L) (t : Nat) (sf : Bool) (ht : b[t]? = some sf) :
    Calls Tryd.prog 30 #[.pointer (some ⟨gm, 0, none⟩), .int .i64 t, op7 2 0 0 0 0 0 0] w fun e w' => e = .returned (res5 0 false 0 0 0) ∧ w.grownBy w' (some gt) ∧ ThRow base w' gt (b.set t false) := by
  obtain ⟨p, _⟩ := List.getElem?_eq_some_iff.1 ht
  obtain ⟨c0, c1, c2, c3, c4⟩ := h.cells ht
  have m2 := h.m2
  have hz : w.frozen? ⟨gt, t * 5 + 4, none⟩ = false := h.th.frozenAt _
  haveI : In gm w := ⟨h.im⟩
  haveI : In gt w := ⟨h.it⟩
  have HTH := Lib.hid (show ThRow base w gt b from h.th)
  have HP := Lib.hid p
  obtain ⟨n, hn⟩ : ∃ n, n = b.length := ⟨_, rfl⟩
  rw [← hn] at m2 p
  have t0 : (0 : Int) ≤ (t : Int) := by omega
  have t1 : (t : Int) < (n : Int) := by omega
  clear h ht hn
  go_enter Tryd.func30, Tryd.ntmps30
  go_wp2
  have hg := grownBy_trans (grownBy_trans (HTH.out.stored (t * 5 + 4) (.bool false)).2 (World.grownBy_alloc _ (.cells #[.int .u8 2, .int .u64 0, .int .u64 0, .int .u64 0, .int .u64 0, .int .u64 0, .int .u64 0] 25) _)) (World.grownBy_alloc _ (.cells #[.int .i64 0, .bool false, .int .u64 0, .int .u64 0, .int .i64 0] 28) _)
  refine bodyPost_ret (v := res5 0 false 0 0 0) ?_ rfl ⟨rfl, hg, own_nw (th_set HTH.out HP.out false) (Nw.alloc (Nw.alloc (Nw.refl _) _) _)⟩
  simp [results, Tryd.results30, go_sem, *]
theorem grown_weak {w w' : World} (h : w.grownBy w' none) (r : Option Nat) : w.grownBy w' r := ⟨h.os, h.tape, h.output, h.size, fun k hk _ => h.block k hk (by simp)⟩
theorem Mdl.nw {base : Nat} {W W' : World} {gm gt gp : Nat} {slots : Int} {b : List Bool} {L : Value} (h : Mdl base W gm gt gp slots b L) (hn : Nw W W') : Mdl base W' gm gt gp slots b L :=
  { h with im := Nat.lt_of_lt_of_le h.im hn.grown.size, it := Nat.lt_of_lt_of_le h.it hn.grown.size, ip := Nat.lt_of_lt_of_le h.ip hn.grown.size, m0 := cell_nw h.m0 hn, m1 := cell_nw h.m1 hn, m2 := cell_nw h.m2 hn, p0 := cell_nw h.p0 hn, pz := (frozen_nw h.ip hn).trans h.pz, th := own_nw h.th hn }
/-- What OpOpen returns of a thread that has no session, and the threads then. -/
def opE (slots : Int) (b : List Bool) : Int := if slots ≤ (cnt b : Nat) then 10 else 0
def opB (slots : Int) (b : List Bool) (t : Nat) : List Bool := if slots ≤ (cnt b : Nat) then b else b.set t true
set_option maxRecDepth 20000 in
set_option maxHeartbeats 4000000 in
theorem open_any (base : Nat) (w : World) (gm gt gp : Nat) (slots : Int) (b : List Bool) (L : Value) (h : Mdl base w gm gt gp slots b L) (hb : b.length ≤ 1000) (t : Nat) (sf : Bool) (ht : b[t]? = some sf) :
    Calls Tryd.prog 29 #[.pointer (some ⟨gm, 0, none⟩), .int .i64 t, op7 1 0 0 0 0 0 0] w fun e w' => e = .returned (res5 (opE slots b) false 0 0 0) ∧ w.grownBy w' (some gt) ∧ ThRow base w' gt (opB slots b t) := by
  obtain ⟨p, _⟩ := List.getElem?_eq_some_iff.1 ht
  obtain ⟨c0, c1, c2, c3, c4⟩ := h.cells ht
  have m2 := h.m2
  have m0 := h.m0
  have hz : w.frozen? ⟨gt, t * 5 + 4, none⟩ = false := h.th.frozenAt _
  haveI : In gm w := ⟨h.im⟩
  haveI : In gt w := ⟨h.it⟩
  have HTH := Lib.hid (show ThRow base w gt b from h.th)
  have HP := Lib.hid p
  have HS := Lib.hid (fun W (hw : Nw w W) => sessions_any base W gm gt gp slots b L (h.nw hw) hb)
  obtain ⟨c, hc⟩ : ∃ c : Int, c = ((cnt b : Nat) : Int) := ⟨_, rfl⟩
  rw [← hc] at HS
  have HC := Lib.hid hc
  obtain ⟨n, hn⟩ : ∃ n, n = b.length := ⟨_, rfl⟩
  rw [← hn] at m2 p
  have t0 : (0 : Int) ≤ (t : Int) := by omega
  have t1 : (t : Int) < (n : Int) := by omega
  clear h ht hn hb hc
  by_cases hs : slots ≤ c
  · have d1 : decide (slots ≤ c) = true := by simpa using hs
    have HE := Lib.hid (show opE slots b = 10 ∧ opB slots b t = b by rw [opE, opB, ← HC.out, if_pos hs, if_pos hs]; exact ⟨rfl, rfl⟩)
    go_enter Tryd.func29, Tryd.ntmps29
    go_upto_region 1 with (fail)
    (refine wp_region_nw (by kernel_rfl) (by kernel_rfl) ?_; (repeat (go_big_quiet_step ((go_at_call 52; exact quiet_of (HS.out _ ((by repeat (first | exact Xt.Nw.refl _ | refine Xt.Nw.drew ?_ | refine Xt.Nw.drewN ?_ _ | refine Xt.Nw.alloc ?_ _ | refine Xt.Nw.joined ?_ | refine Xt.Nw.drewd ?_ | refine Xt.Nw.drewdN ?_ | refine Xt.Nw.ext ?_ | refine Xt.Nw.ext_some ?_ (by assumption) | refine Xt.Nw.setCell ?_ (by simp [go_sem] <;> omega) _)))))))); refine wpQuiet_nil ?_; intro _ hreg; obtain ⟨dW, rfl⟩ : Nw _ _ := hreg)
    go_wp2
    refine bodyPost_ret (v := res5 10 false 0 0 0) ?_ rfl ⟨by rw [HE.out.1], grown_weak (Nw.grown (by repeat (first | exact Xt.Nw.refl _ | refine Xt.Nw.drew ?_ | refine Xt.Nw.drewN ?_ _ | refine Xt.Nw.alloc ?_ _ | refine Xt.Nw.joined ?_ | refine Xt.Nw.drewd ?_ | refine Xt.Nw.drewdN ?_ | refine Xt.Nw.ext ?_ | refine Xt.Nw.ext_some ?_ (by assumption) | refine Xt.Nw.setCell ?_ (by simp [go_sem] <;> omega) _))) _, by rw [HE.out.2]; exact own_nw HTH.out (by repeat (first | exact Xt.Nw.refl _ | refine Xt.Nw.drew ?_ | refine Xt.Nw.drewN ?_ _ | refine Xt.Nw.alloc ?_ _ | refine Xt.Nw.joined ?_ | refine Xt.Nw.drewd ?_ | refine Xt.Nw.drewdN ?_ | refine Xt.Nw.ext ?_ | refine Xt.Nw.ext_some ?_ (by assumption) | refine Xt.Nw.setCell ?_ (by simp [go_sem] <;> omega) _))⟩
    simp [results, Tryd.results29, go_sem, *]
  · have d1 : decide (slots ≤ c) = false := by simpa using hs
    have HE := Lib.hid (show opE slots b = 0 ∧ opB slots b t = b.set t true by rw [opE, opB, ← HC.out, if_neg hs, if_neg hs]; exact ⟨rfl, rfl⟩)
    go_enter Tryd.func29, Tryd.ntmps29
    go_upto_region 1 with (fail)
    (refine wp_region_nw (by kernel_rfl) (by kernel_rfl) ?_; (repeat (go_big_quiet_step ((go_at_call 52; exact quiet_of (HS.out _ ((by repeat (first | exact Xt.Nw.refl _ | refine Xt.Nw.drew ?_ | refine Xt.Nw.drewN ?_ _ | refine Xt.Nw.alloc ?_ _ | refine Xt.Nw.joined ?_ | refine Xt.Nw.drewd ?_ | refine Xt.Nw.drewdN ?_ | refine Xt.Nw.ext ?_ | refine Xt.Nw.ext_some ?_ (by assumption) | refine Xt.Nw.setCell ?_ (by simp [go_sem] <;> omega) _)))))))); refine wpQuiet_nil ?_; intro _ hreg; obtain ⟨dW, rfl⟩ : Nw _ _ := hreg)
    go_wp2
    have hst := HTH.out.stored (t * 5 + 4) (.bool true)
    refine bodyPost_ret (v := res5 0 false 0 0 0) ?_ rfl ⟨by rw [HE.out.1], grownBy_trans hst.2 (grown_weak (Nw.grown (by repeat (first | exact Xt.Nw.refl _ | refine Xt.Nw.drew ?_ | refine Xt.Nw.drewN ?_ _ | refine Xt.Nw.alloc ?_ _ | refine Xt.Nw.joined ?_ | refine Xt.Nw.drewd ?_ | refine Xt.Nw.drewdN ?_ | refine Xt.Nw.ext ?_ | refine Xt.Nw.ext_some ?_ (by assumption) | refine Xt.Nw.setCell ?_ (by simp [go_sem] <;> omega) _))) _), by rw [HE.out.2]; exact own_nw (th_set HTH.out HP.out true) (by repeat (first | exact Xt.Nw.refl _ | refine Xt.Nw.drew ?_ | refine Xt.Nw.drewN ?_ _ | refine Xt.Nw.alloc ?_ _ | refine Xt.Nw.joined ?_ | refine Xt.Nw.drewd ?_ | refine Xt.Nw.drewdN ?_ | refine Xt.Nw.ext ?_ | refine Xt.Nw.ext_some ?_ (by assumption) | refine Xt.Nw.setCell ?_ (by simp [go_sem] <;> omega) _))⟩
    simp [results, Tryd.results29, go_sem, *]
end Go.Proofs.YtahagplegmcaaaaDoor
namespace Go.Proofs.YtahagplegmcaaaaDoor
open Go.RowKit Go.Xt
/-! perform. -/
/-- Nothing that was there has changed but in these blocks. -/
structure Chg (X : List Nat) (w w' : World) : Prop where
  os : w'.os = w.os
  tape : w'.tape = w.tape
  output : w'.output = w.output
  size : w.heap.size ≤ w'.heap.size
  block : ∀ k, k < w.heap.size → k ∉ X → w'.heap[k]? = w.heap[k]?
theorem Chg.cell {X : List Nat} {w w' : World} (h : Chg X w w') {b i : Nat} {v : Value} (hc : w.cell? ⟨b, i, none⟩ = some v) (hb : b ∉ X) : w'.cell? ⟨b, i, none⟩ = some v :=
  (World.cell?_of_block (h.block b (World.block_lt_of_cell? w _ hc) hb)).trans hc
theorem Chg.frozen {X : List Nat} {w w' : World} (h : Chg X w w') {b i : Nat} (hl : b < w.heap.size) (hb : b ∉ X) : w'.frozen? ⟨b, i, none⟩ = w.frozen? ⟨b, i, none⟩ :=
  World.frozen?_of_block (h.block b hl hb)
theorem Chg.of_grown {g : Nat} {w w' : World} (h : w.grownBy w' (some g)) : Chg [g] w w' := ⟨h.os, h.tape, h.output, h.size, fun k hk hx => h.block k hk (by simpa using hx)⟩
theorem Chg.grown {g : Nat} {w w' : World} (h : Chg [g] w w') : w.grownBy w' (some g) := ⟨h.os, h.tape, h.output, h.size, fun k hk hx => h.block k hk (by simpa using hx)⟩
theorem Chg.of_nw {X : List Nat} {w w' : World} (h : Nw w w') : Chg X w w' := ⟨h.grown.os, h.grown.tape, h.grown.output, h.grown.size, fun k hk _ => h.grown.block k hk (by simp)⟩
theorem Chg.trans {X : List Nat} {a b c : World} (h : Chg X a b) (k : Chg X b c) : Chg X a c := ⟨k.os.trans h.os, k.tape.trans h.tape, k.output.trans h.output, Nat.le_trans h.size k.size, fun j hj hx => (k.block j (Nat.lt_of_lt_of_le hj h.size) hx).trans (h.block j hj hx)⟩
theorem Chg.setNew {X : List Nat} {a b : World} (h : Chg X a b) {p : Addr} (hp : a.heap.size ≤ p.block) (v : Value) : Chg X a (b.setCell p v) :=
  ⟨h.os, h.tape, h.output, by simpa using h.size, fun k hk hx => (RowKit.Below.heap_setCell _ _ _ _ (by omega)).trans (h.block k hk hx)⟩
theorem Chg.set1 (w : World) (g o : Nat) (v : Value) : Chg [g] w (w.setCell ⟨g, o, none⟩ v) :=
  ⟨rfl, rfl, rfl, by simp, fun k _ hx => RowKit.Below.heap_setCell _ _ _ _ (by simp at hx; simpa using hx)⟩
theorem Chg.set2 {a b : World} {g : Nat} (h : Chg [g] a b) (o : Nat) (v : Value) : Chg [g] a (b.setCell ⟨g, o, none⟩ v) := h.trans (Chg.set1 b g o v)
theorem th_chg {base : Nat} {W W' : World} {gt : Nat} {b : List Bool} {X : List Nat} (h : ThRow base W gt b) (hc : Chg X W W') (hx : gt ∉ X) : ThRow base W' gt b := by
  refine ⟨h.1, ?_⟩
  rcases h.2 with ⟨h1, h2⟩ | ⟨g, cap, cur, h1, h2, h3, h4⟩
  · exact .inl ⟨h1, h2⟩
  · have hg : g = gt := by injection h1 with h1; injection h1 with h1; injection h1 with h1; exact h1.symm
    refine .inr ⟨g, cap, cur, h1, h2, ?_, h4⟩
    rw [← h3]
    exact hc.block g (Array.getElem?_eq_some_iff.1 h3).1 (by rw [hg]; exact hx)
set_option maxRecDepth 20000 in
set_option maxHeartbeats 8000000 in
theorem perform_2 (base : Nat) (w : World) (gm gt gp : Nat) (slots : Int) (b : List Bool) (L : Value) (h : Mdl base w gm gt gp slots b L) (t : Nat) (sf : Bool) (ht : b[t]? = some sf) :
    Calls Tryd.prog 17 #[.pointer (some ⟨gm, 0, none⟩), .int .i64 t, op7 2 0 0 0 0 0 0] w fun e w' => e = .returned (res5 0 false 0 0 0) ∧ Chg [gt] w w' ∧ ThRow base w' gt (b.set t false) := by
  haveI : In gm w := ⟨h.im⟩
  haveI : In gt w := ⟨h.it⟩
  have HS := Lib.hid (fun W (hw : Nw w W) => shut_any base W gm gt gp slots b L (h.nw hw) t sf ht)
  have H := Lib.hid h
  clear h
  obtain ⟨W3, hW3⟩ : ∃ W3, W3 = ((w.alloc (.cells #[.int .u8 2, .int .u64 0, .int .u64 0, .int .u64 0, .int .u64 0, .int .u64 0, .int .u64 0] 25)).alloc (.cells #[.int .i64 0, .bool false, .int .u64 0, .int .u64 0, .int .i64 0] 28)).alloc (.cells #[.nilFunc, .func (.func 29) #[] #[], .func (.func 30) #[] #[], .func (.func 31) #[] #[], .func (.func 32) #[] #[], .func (.func 33) #[] #[], .func (.func 34) #[] #[], .func (.func 35) #[] #[], .func (.func 36) #[] #[], .func (.func 37) #[] #[], .func (.func 38) #[] #[], .func (.func 39) #[] #[], .func (.func 40) #[] #[], .func (.func 41) #[] #[], .func (.func 42) #[] #[], .func (.func 43) #[] #[]] 88) := ⟨_, rfl⟩
  have hn3 : Nw w W3 := by rw [hW3]; exact (by repeat (first | exact Xt.Nw.refl _ | refine Xt.Nw.drew ?_ | refine Xt.Nw.drewN ?_ _ | refine Xt.Nw.alloc ?_ _ | refine Xt.Nw.joined ?_ | refine Xt.Nw.drewd ?_ | refine Xt.Nw.drewdN ?_ | refine Xt.Nw.ext ?_ | refine Xt.Nw.ext_some ?_ (by assumption) | refine Xt.Nw.setCell ?_ (by simp [go_sem] <;> omega) _))
  have q0 : W3.cell? ⟨w.heap.size, 0, none⟩ = some (.int .u8 2) := by rw [hW3]; simp [go_sem]
  have q1 : W3.cell? ⟨w.heap.size, 1, none⟩ = some (.int .u64 0) := by rw [hW3]; simp [go_sem]
  have q2 : W3.cell? ⟨w.heap.size, 2, none⟩ = some (.int .u64 0) := by rw [hW3]; simp [go_sem]
  have q3 : W3.cell? ⟨w.heap.size, 3, none⟩ = some (.int .u64 0) := by rw [hW3]; simp [go_sem]
  have q4 : W3.cell? ⟨w.heap.size, 4, none⟩ = some (.int .u64 0) := by rw [hW3]; simp [go_sem]
  have q5 : W3.cell? ⟨w.heap.size, 5, none⟩ = some (.int .u64 0) := by rw [hW3]; simp [go_sem]
  have q6 : W3.cell? ⟨w.heap.size, 6, none⟩ = some (.int .u64 0) := by rw [hW3]; simp [go_sem]
  have r0 : W3.cell? ⟨w.heap.size + 1, 0, none⟩ = some (.int .i64 0) := by rw [hW3]; simp [go_sem]
  have r1 : W3.cell? ⟨w.heap.size + 1, 1, none⟩ = some (.bool false) := by rw [hW3]; simp [go_sem]
  have r2 : W3.cell? ⟨w.heap.size + 1, 2, none⟩ = some (.int .u64 0) := by rw [hW3]; simp [go_sem]
  have r3 : W3.cell? ⟨w.heap.size + 1, 3, none⟩ = some (.int .u64 0) := by rw [hW3]; simp [go_sem]
  have r4 : W3.cell? ⟨w.heap.size + 1, 4, none⟩ = some (.int .i64 0) := by rw [hW3]; simp [go_sem]
  have zz : ∀ o, W3.frozen? ⟨w.heap.size + 1, o, none⟩ = false := fun o => by rw [hW3]; simp [go_sem]
  have qf : W3.cell? ⟨w.heap.size + 1 + 1, 2, none⟩ = some (.func (.func 30) #[] #[]) := by rw [hW3]; simp [go_sem]
  have hs3 : w.heap.size + 1 < W3.heap.size := by rw [hW3]; simp
  have HN3 := Lib.hid hn3
  have HW3 := Lib.hid hW3
  have HR := Lib.hid (⟨r0, r1, r2, r3, r4⟩ : W3.cell? ⟨w.heap.size + 1, 0, none⟩ = some (.int .i64 0) ∧ W3.cell? ⟨w.heap.size + 1, 1, none⟩ = some (.bool false) ∧ W3.cell? ⟨w.heap.size + 1, 2, none⟩ = some (.int .u64 0) ∧ W3.cell? ⟨w.heap.size + 1, 3, none⟩ = some (.int .u64 0) ∧ W3.cell? ⟨w.heap.size + 1, 4, none⟩ = some (.int .i64 0))
  have HZ := Lib.hid zz
  have HS3 := Lib.hid hs3
  clear hn3 hW3 r0 r1 r2 r3 r4 zz hs3
  go_enter Tryd.func17, Tryd.ntmps17
  go_upto_region 2 with (fail)
  rw [← HW3.out]
  go_still_tail 7, (by kernel_rfl)
  change wpList _ _ _ _ _ W3.drew
  go_wp2_with fail
  refine (HS.out W3.drew (Nw.drew HN3.out)).mono ?_
  rintro e W4 ⟨rfl, hch, hpo⟩
  have hX : w.heap.size + 1 ∉ ([gt] : List Nat) := by have := H.out.it; simp; omega
  have hch0 : Chg [gt] W3 W4 := Chg.of_grown (⟨hch.os, hch.tape, hch.output, hch.size, hch.block⟩ : W3.grownBy W4 (some gt))
  have r0 := hch0.cell HR.out.1 hX
  have r1 := hch0.cell HR.out.2.1 hX
  have r2 := hch0.cell HR.out.2.2.1 hX
  have r3 := hch0.cell HR.out.2.2.2.1 hX
  have r4 := hch0.cell HR.out.2.2.2.2 hX
  have z0 : W4.frozen? ⟨w.heap.size + 1, 0, none⟩ = false := (hch0.frozen HS3.out hX).trans (HZ.out 0)
  have z1 : W4.frozen? ⟨w.heap.size + 1, 1, none⟩ = false := (hch0.frozen HS3.out hX).trans (HZ.out 1)
  have z2 : W4.frozen? ⟨w.heap.size + 1, 2, none⟩ = false := (hch0.frozen HS3.out hX).trans (HZ.out 2)
  have z3 : W4.frozen? ⟨w.heap.size + 1, 3, none⟩ = false := (hch0.frozen HS3.out hX).trans (HZ.out 3)
  have z4 : W4.frozen? ⟨w.heap.size + 1, 4, none⟩ = false := (hch0.frozen HS3.out hX).trans (HZ.out 4)
  go_wp2
  have hset : Chg [w.heap.size + 1] W4 _ := ((((Chg.set1 W4 (w.heap.size + 1) 0 (.int .i64 (0))).set2 1 (.bool false)).set2 2 (.int .u64 0)).set2 3 (.int .u64 0)).set2 4 (.int .i64 0)
  have hall : Chg [gt] w _ := (((((((Chg.of_nw HN3.out).trans hch0).setNew (p := ⟨w.heap.size + 1, 0, none⟩) (Nat.le_succ _) (.int .i64 (0))).setNew (p := ⟨w.heap.size + 1, 1, none⟩) (Nat.le_succ _) (.bool false)).setNew (p := ⟨w.heap.size + 1, 2, none⟩) (Nat.le_succ _) (.int .u64 0)).setNew (p := ⟨w.heap.size + 1, 3, none⟩) (Nat.le_succ _) (.int .u64 0)).setNew (p := ⟨w.heap.size + 1, 4, none⟩) (Nat.le_succ _) (.int .i64 0))
  refine bodyPost_ret (v := res5 0 false 0 0 0) ?_ rfl ⟨rfl, hall, th_chg hpo hset (by have := H.out.it; simp; omega)⟩
  simp [results, Tryd.results17, go_sem, *]
set_option maxRecDepth 20000 in
set_option maxHeartbeats 8000000 in
theorem perform_1 (base : Nat) (w : World) (gm gt gp : Nat) (slots : Int) (b : List Bool) (L : Value) (h : Mdl base w gm gt gp slots b L) (hb : b.length ≤ 1000) (t : Nat) (sf : Bool) (ht : b[t]? = some sf) :
    Calls Tryd.prog 17 #[.pointer (some ⟨gm, 0, none⟩), .int .i64 t, op7 1 0 0 0 0 0 0] w fun e w' => e = .returned (res5 (opE slots b) false 0 0 0) ∧ Chg [gt] w w' ∧ ThRow base w' gt (opB slots b t) := by
  haveI : In gm w := ⟨h.im⟩
  haveI : In gt w := ⟨h.it⟩
  have HS := Lib.hid (fun W (hw : Nw w W) => open_any base W gm gt gp slots b L (h.nw hw) hb t sf ht)
  have H := Lib.hid h
  clear h
  obtain ⟨W3, hW3⟩ : ∃ W3, W3 = ((w.alloc (.cells #[.int .u8 1, .int .u64 0, .int .u64 0, .int .u64 0, .int .u64 0, .int .u64 0, .int .u64 0] 25)).alloc (.cells #[.int .i64 0, .bool false, .int .u64 0, .int .u64 0, .int .i64 0] 28)).alloc (.cells #[.nilFunc, .func (.func 29) #[] #[], .func (.func 30) #[] #[], .func (.func 31) #[] #[], .func (.func 32) #[] #[], .func (.func 33) #[] #[], .func (.func 34) #[] #[], .func (.func 35) #[] #[], .func (.func 36) #[] #[], .func (.func 37) #[] #[], .func (.func 38) #[] #[], .func (.func 39) #[] #[], .func (.func 40) #[] #[], .func (.func 41) #[] #[], .func (.func 42) #[] #[], .func (.func 43) #[] #[]] 88) := ⟨_, rfl⟩
  have hn3 : Nw w W3 := by rw [hW3]; exact (by repeat (first | exact Xt.Nw.refl _ | refine Xt.Nw.drew ?_ | refine Xt.Nw.drewN ?_ _ | refine Xt.Nw.alloc ?_ _ | refine Xt.Nw.joined ?_ | refine Xt.Nw.drewd ?_ | refine Xt.Nw.drewdN ?_ | refine Xt.Nw.ext ?_ | refine Xt.Nw.ext_some ?_ (by assumption) | refine Xt.Nw.setCell ?_ (by simp [go_sem] <;> omega) _))
  have q0 : W3.cell? ⟨w.heap.size, 0, none⟩ = some (.int .u8 1) := by rw [hW3]; simp [go_sem]
  have q1 : W3.cell? ⟨w.heap.size, 1, none⟩ = some (.int .u64 0) := by rw [hW3]; simp [go_sem]
  have q2 : W3.cell? ⟨w.heap.size, 2, none⟩ = some (.int .u64 0) := by rw [hW3]; simp [go_sem]
  have q3 : W3.cell? ⟨w.heap.size, 3, none⟩ = some (.int .u64 0) := by rw [hW3]; simp [go_sem]
  have q4 : W3.cell? ⟨w.heap.size, 4, none⟩ = some (.int .u64 0) := by rw [hW3]; simp [go_sem]
  have q5 : W3.cell? ⟨w.heap.size, 5, none⟩ = some (.int .u64 0) := by rw [hW3]; simp [go_sem]
  have q6 : W3.cell? ⟨w.heap.size, 6, none⟩ = some (.int .u64 0) := by rw [hW3]; simp [go_sem]
  have r0 : W3.cell? ⟨w.heap.size + 1, 0, none⟩ = some (.int .i64 0) := by rw [hW3]; simp [go_sem]
  have r1 : W3.cell? ⟨w.heap.size + 1, 1, none⟩ = some (.bool false) := by rw [hW3]; simp [go_sem]
  have r2 : W3.cell? ⟨w.heap.size + 1, 2, none⟩ = some (.int .u64 0) := by rw [hW3]; simp [go_sem]
  have r3 : W3.cell? ⟨w.heap.size + 1, 3, none⟩ = some (.int .u64 0) := by rw [hW3]; simp [go_sem]
  have r4 : W3.cell? ⟨w.heap.size + 1, 4, none⟩ = some (.int .i64 0) := by rw [hW3]; simp [go_sem]
  have zz : ∀ o, W3.frozen? ⟨w.heap.size + 1, o, none⟩ = false := fun o => by rw [hW3]; simp [go_sem]
  have qf : W3.cell? ⟨w.heap.size + 1 + 1, 1, none⟩ = some (.func (.func 29) #[] #[]) := by rw [hW3]; simp [go_sem]
  have hs3 : w.heap.size + 1 < W3.heap.size := by rw [hW3]; simp
  have HN3 := Lib.hid hn3
  have HW3 := Lib.hid hW3
  have HR := Lib.hid (⟨r0, r1, r2, r3, r4⟩ : W3.cell? ⟨w.heap.size + 1, 0, none⟩ = some (.int .i64 0) ∧ W3.cell? ⟨w.heap.size + 1, 1, none⟩ = some (.bool false) ∧ W3.cell? ⟨w.heap.size + 1, 2, none⟩ = some (.int .u64 0) ∧ W3.cell? ⟨w.heap.size + 1, 3, none⟩ = some (.int .u64 0) ∧ W3.cell? ⟨w.heap.size + 1, 4, none⟩ = some (.int .i64 0))
  have HZ := Lib.hid zz
  have HS3 := Lib.hid hs3
  clear hn3 hW3 r0 r1 r2 r3 r4 zz hs3
  go_enter Tryd.func17, Tryd.ntmps17
  go_upto_region 2 with (fail)
  rw [← HW3.out]
  go_still_tail 7, (by kernel_rfl)
  change wpList _ _ _ _ _ W3.drew
  go_wp2_with fail
  refine (HS.out W3.drew (Nw.drew HN3.out)).mono ?_
  rintro e W4 ⟨rfl, hch, hpo⟩
  have hX : w.heap.size + 1 ∉ ([gt] : List Nat) := by have := H.out.it; simp; omega
  have hch0 : Chg [gt] W3 W4 := Chg.of_grown (⟨hch.os, hch.tape, hch.output, hch.size, hch.block⟩ : W3.grownBy W4 (some gt))
  have r0 := hch0.cell HR.out.1 hX
  have r1 := hch0.cell HR.out.2.1 hX
  have r2 := hch0.cell HR.out.2.2.1 hX
  have r3 := hch0.cell HR.out.2.2.2.1 hX
  have r4 := hch0.cell HR.out.2.2.2.2 hX
  have z0 : W4.frozen? ⟨w.heap.size + 1, 0, none⟩ = false := (hch0.frozen HS3.out hX).trans (HZ.out 0)
  have z1 : W4.frozen? ⟨w.heap.size + 1, 1, none⟩ = false := (hch0.frozen HS3.out hX).trans (HZ.out 1)
  have z2 : W4.frozen? ⟨w.heap.size + 1, 2, none⟩ = false := (hch0.frozen HS3.out hX).trans (HZ.out 2)
  have z3 : W4.frozen? ⟨w.heap.size + 1, 3, none⟩ = false := (hch0.frozen HS3.out hX).trans (HZ.out 3)
  have z4 : W4.frozen? ⟨w.heap.size + 1, 4, none⟩ = false := (hch0.frozen HS3.out hX).trans (HZ.out 4)
  go_wp2
  have hset : Chg [w.heap.size + 1] W4 _ := ((((Chg.set1 W4 (w.heap.size + 1) 0 (.int .i64 ((opE slots b)))).set2 1 (.bool false)).set2 2 (.int .u64 0)).set2 3 (.int .u64 0)).set2 4 (.int .i64 0)
  have hall : Chg [gt] w _ := (((((((Chg.of_nw HN3.out).trans hch0).setNew (p := ⟨w.heap.size + 1, 0, none⟩) (Nat.le_succ _) (.int .i64 ((opE slots b)))).setNew (p := ⟨w.heap.size + 1, 1, none⟩) (Nat.le_succ _) (.bool false)).setNew (p := ⟨w.heap.size + 1, 2, none⟩) (Nat.le_succ _) (.int .u64 0)).setNew (p := ⟨w.heap.size + 1, 3, none⟩) (Nat.le_succ _) (.int .u64 0)).setNew (p := ⟨w.heap.size + 1, 4, none⟩) (Nat.le_succ _) (.int .i64 0))
  refine bodyPost_ret (v := res5 (opE slots b) false 0 0 0) ?_ rfl ⟨rfl, hall, th_chg hpo hset (by have := H.out.it; simp; omega)⟩
  simp [results, Tryd.results17, go_sem, *]
end Go.Proofs.YtahagplegmcaaaaDoor
