import Derived.Test.YtkikdpdainmlcaaGreatGZl
import Derived.Test.YtkikdpdainmlcaaGreatGZm
import Derived.Test.YtkikdpdainmlcaaGreatGNg
import Derived.Test.YtkikdpdainmlcaaGreatGZi
set_option linter.unusedVariables false
set_option linter.unusedSimpArgs false
set_option linter.unnecessarySimpa false
namespace Go.Proofs.YtkikdpdainmlcaaGreat
open Go.RowKit Go.Xt
attribute [local go_sem] Oper.semAt_some
/-! keeps. -/
theorem cell_kept {A B : World} {row : Option Nat} {b i : Nat} {v : Value} (hc : A.cell? ⟨b, i, none⟩ = some v) (hg : A.grownBy B row) (hr : ∀ r, row = some r → ∃ o : Obj, A.heap[r]? = some o ∧ o.isCells = false) : B.cell? ⟨b, i, none⟩ = some v := by
  obtain ⟨o, h1, h2⟩ := cells_of_cell hc
  refine (World.cell?_of_block (hg.block b (Array.getElem?_eq_some_iff.1 h1).1 (fun e => ?_))).trans hc
  obtain ⟨o2, h3, h4⟩ := hr b e.symm
  rw [h1] at h3; injection h3 with h3; rw [h3] at h2; rw [h2] at h4; cases h4
theorem KCp.kept {p : Nat → Prop} {W A B : World} {row : Option Nat} (h : KCp p W A) (hg : A.grownBy B row) (hr : ∀ r, row = some r → ∃ o : Obj, A.heap[r]? = some o ∧ o.isCells = false) : KCp p W B :=
  ⟨Nat.le_trans h.size hg.size, fun b o h1 h2 h3 => by
    have h4 := h.same b o h1 h2 h3
    refine (hg.block b (Array.getElem?_eq_some_iff.1 h4).1 (fun e => ?_)).trans h4
    obtain ⟨o2, h5, h6⟩ := hr b e.symm
    rw [h4] at h5; injection h5 with h5; rw [h5] at h2; rw [h2] at h6; cases h6⟩
theorem KCp.frozen {p : Nat → Prop} {A B : World} (h : KCp p A B) {b i : Nat} {v : Value} (hp : p b) (hc : A.cell? ⟨b, i, none⟩ = some v) : B.frozen? ⟨b, i, none⟩ = A.frozen? ⟨b, i, none⟩ := by
  obtain ⟨o, h1, h2⟩ := cells_of_cell hc
  exact World.frozen?_of_block (by rw [h1]; exact h.same b o h1 h2 hp)
theorem results_cc {P : Program} {fn : Func} {p q : Tmp} {tp tq : TypeId} {tmps : Array Value} {w : World} {a b : Addr} {va vb : Value} (h : fn.results = #[.cell p tp, .cell q tq]) (ha : tmps.getD p undef = .pointer (some a)) (hb : tmps.getD q undef = .pointer (some b)) (dp : (loadVar tp a).run P w = .ok va w) (dq : (loadVar tq b).run P w = .ok vb w) :
    (results fn tmps).run P w = .ok (.tuple #[va, vb]) w := by
  have ra : (asAddr (.pointer (some a))).run P w = .ok a w := rfl
  have rb : (asAddr (.pointer (some b))).run P w = .ok b w := rfl
  simp only [results, h]
  simp at ha hb
  simp [Sem.run_bind, Result.andThen, ha, hb, ra, rb, dp, dq]
set_option maxHeartbeats 1000000 in
theorem ins_any (x : Lf) (k : Int) (bb : Nat) (w : World) (h0 : w.cell? ⟨bb, 0, none⟩ = some (.int .u64 x.lo)) (h1 : w.cell? ⟨bb, 1, none⟩ = some (.int .u64 x.hi)) (h2 : w.cell? ⟨bb, 2, none⟩ = some (.bool x.more)) :
    Calls Tryz.prog 47 #[.int .u64 k, .pointer (some ⟨bb, 0, none⟩)] w fun e w' => e = .returned (.bool (insB x k)) ∧ Nw w w' := by
  haveI : In bb w := ⟨World.block_lt_of_cell? w _ h0⟩
  obtain ⟨lo, hi, more⟩ := x
  simp only at h0 h1 h2
  unfold insB
  simp only
  cases more with
  | false =>
    go_enter Tryz.func47, Tryz.ntmps47
    go_wp2
    all_goals (go_ret; refine ⟨ret_bool ?_, nwa⟩)
    all_goals simp
  | true =>
    by_cases k1 : lo ≤ k
    · have d1 : decide (lo ≤ k) = true := by simpa using k1
      by_cases k2 : k ≤ hi
      · have d2 : decide (k ≤ hi) = true := by simpa using k2
        go_enter Tryz.func47, Tryz.ntmps47
        go_wp2
        all_goals (go_ret; refine ⟨ret_bool ?_, nwa⟩)
        all_goals simp [d1, d2]
      · have d2 : decide (k ≤ hi) = false := by simpa using k2
        go_enter Tryz.func47, Tryz.ntmps47
        go_wp2
        all_goals (go_ret; refine ⟨ret_bool ?_, nwa⟩)
        all_goals simp [d1, d2]
    · have d1 : decide (lo ≤ k) = false := by simpa using k1
      go_enter Tryz.func47, Tryz.ntmps47
      go_wp2
      all_goals (go_ret; refine ⟨ret_bool ?_, nwa⟩)
      all_goals simp [d1]
theorem keeps2_any (c : Cl) (bb : Nat) (A : Option Addr) (n cap : Nat) (l : Mp) (w : World) (ha : Rd w 2 A n (pcells l)) (hn : n ≤ 1000000) (h2 : w.cell? ⟨bb, 2, none⟩ = some (.int .u64 c.rk)) (h3 : w.cell? ⟨bb, 3, none⟩ = some (.int .u64 c.rv)) :
    Calls Tryz.prog 49 #[.slice A n cap, .pointer (some ⟨bb, 0, none⟩)] w fun e w' => e = .returned (.bool (decide ((c.rk, c.rv) ∈ l))) ∧ Nw w w' := by
  haveI : In bb w := ⟨World.block_lt_of_cell? w _ h2⟩
  have HC := Lib.hid (fun W (hq : Nw w W) => conP_any A n cap c.rk c.rv l W (ha.nw hq) hn)
  obtain ⟨b, hb⟩ : ∃ b, b = decide ((c.rk, c.rv) ∈ l) := ⟨_, rfl⟩
  rw [← hb] at HC ⊢
  clear ha hn hb
  go_enter Tryz.func49, Tryz.ntmps49
  go_wp2_with fail
  refine (HC.out _ nwa).mono ?_
  rintro e W8 ⟨rfl, hn8⟩
  have h8 : Nw w W8 := Nw.trans (nwa) hn8
  go_wp2
  go_ret
  exact ⟨rfl, h8⟩
end Go.Proofs.YtkikdpdainmlcaaGreat
namespace Go.Proofs.YtkikdpdainmlcaaGreat
open Go.RowKit Go.Xt
attribute [local go_sem] Oper.semAt_some
/-! keeps. -/
def vioB (c : Cl) (x : Lf) (k : Int) : Bool := insB x k && (decide (c.re = 14) || decide (k < c.rk))
def KpP (w : World) (r : Bool) (e : Ending) (w' : World) : Prop := e = .returned (.tuple #[.bool r, .int .i64 0]) ∧ Nw w w'
set_option maxRecDepth 20000 in
set_option maxHeartbeats 4000000 in
theorem keepsA_any (c : Cf) (A : Option Addr) (n cap : Nat) (op nx : Cl) (x : Lf) (w : World) (h0 : nx.re ≠ 0) (h14 : nx.re ≠ 14) :
    Calls Tryz.prog 23 #[confV c, cv op, cv nx, lfv x, .slice A n cap] w (KpP w true) := by
  unfold confV lfv
  obtain ⟨W7, hW7⟩ : ∃ W, W = ((((((w.alloc (cellsOf c 27)).alloc (.cells #[.int .i64 op.th, .int .i64 op.ix, .int .u8 op.kd, .int .u64 op.ka, .int .u64 op.kb, .int .u64 op.kc, .int .u64 op.kx, .int .u64 op.ky, .int .u64 op.kz, .int .i64 op.inv, .int .i64 op.took, .int .i64 op.ans, .int .i64 op.st, .int .i64 op.re, .bool op.rf, .int .u64 op.rk, .int .u64 op.rv, .int .i64 op.rc] 45)).alloc (.cells #[.int .i64 nx.th, .int .i64 nx.ix, .int .u8 nx.kd, .int .u64 nx.ka, .int .u64 nx.kb, .int .u64 nx.kc, .int .u64 nx.kx, .int .u64 nx.ky, .int .u64 nx.kz, .int .i64 nx.inv, .int .i64 nx.took, .int .i64 nx.ans, .int .i64 nx.st, .int .i64 nx.re, .bool nx.rf, .int .u64 nx.rk, .int .u64 nx.rv, .int .i64 nx.rc] 45)).alloc (.cells #[.int .u64 x.lo, .int .u64 x.hi, .bool x.more] 68)).alloc (.cells #[.bool false] 4)).alloc (.cells #[.int .i64 0] 31)).alloc (.cells #[.int .i64 nx.re, .bool nx.rf, .int .u64 nx.rk, .int .u64 nx.rv, .int .i64 nx.rc] 43) := ⟨_, rfl⟩
  have hn7 : Nw w W7 := by rw [hW7]; exact nwa
  have hs7 : W7.heap.size = w.heap.size + 7 := by rw [hW7]; simp
  haveI hca : ConfAt W7 w.heap.size c := by
    have h0 : ConfAt (w.alloc (cellsOf c 27)) w.heap.size c := ⟨fun i v hv => by unfold cellsOf; unfold ccells at hv; rw [World.cell?_alloc_new]; simpa using hv, by simp⟩
    exact h0.nw (by rw [hW7]; exact nwa)
  have o10 : W7.cell? ⟨w.heap.size + 1, 10, none⟩ = some (.int .i64 op.took) := by rw [hW7]; simp [go_sem]
  have n10 : W7.cell? ⟨w.heap.size + 1 + 1, 10, none⟩ = some (.int .i64 nx.took) := by rw [hW7]; simp [go_sem]
  have x0 : W7.cell? ⟨w.heap.size + 1 + 1 + 1, 0, none⟩ = some (.int .u64 x.lo) := by rw [hW7]; simp [go_sem]
  have x1 : W7.cell? ⟨w.heap.size + 1 + 1 + 1, 1, none⟩ = some (.int .u64 x.hi) := by rw [hW7]; simp [go_sem]
  have x2 : W7.cell? ⟨w.heap.size + 1 + 1 + 1, 2, none⟩ = some (.bool x.more) := by rw [hW7]; simp [go_sem]
  have b4 : W7.cell? ⟨w.heap.size + 1 + 1 + 1 + 1, 0, none⟩ = some (.bool false) := by rw [hW7]; simp [go_sem]
  have b5 : W7.cell? ⟨w.heap.size + 1 + 1 + 1 + 1 + 1, 0, none⟩ = some (.int .i64 0) := by rw [hW7]; simp [go_sem]
  have z4 : W7.frozen? ⟨w.heap.size + 1 + 1 + 1 + 1, 0, none⟩ = false := by rw [hW7]; simp [go_sem]
  have z5 : W7.frozen? ⟨w.heap.size + 1 + 1 + 1 + 1 + 1, 0, none⟩ = false := by rw [hW7]; simp [go_sem]
  have r0 : W7.cell? ⟨w.heap.size + 1 + 1 + 1 + 1 + 1 + 1, 0, none⟩ = some (.int .i64 nx.re) := by rw [hW7]; simp [go_sem]
  have r1 : W7.cell? ⟨w.heap.size + 1 + 1 + 1 + 1 + 1 + 1, 1, none⟩ = some (.bool nx.rf) := by rw [hW7]; simp [go_sem]
  have r2 : W7.cell? ⟨w.heap.size + 1 + 1 + 1 + 1 + 1 + 1, 2, none⟩ = some (.int .u64 nx.rk) := by rw [hW7]; simp [go_sem]
  have r3 : W7.cell? ⟨w.heap.size + 1 + 1 + 1 + 1 + 1 + 1, 3, none⟩ = some (.int .u64 nx.rv) := by rw [hW7]; simp [go_sem]
  haveI : In w.heap.size W7 := ⟨hca.lt⟩
  haveI : In (w.heap.size + 1) W7 := ⟨World.block_lt_of_cell? W7 _ o10⟩
  haveI : In (w.heap.size + 1 + 1) W7 := ⟨World.block_lt_of_cell? W7 _ n10⟩
  haveI : In (w.heap.size + 1 + 1 + 1) W7 := ⟨World.block_lt_of_cell? W7 _ x0⟩
  haveI : In (w.heap.size + 1 + 1 + 1 + 1) W7 := ⟨World.block_lt_of_cell? W7 _ b4⟩
  haveI : In (w.heap.size + 1 + 1 + 1 + 1 + 1) W7 := ⟨World.block_lt_of_cell? W7 _ b5⟩
  haveI : In (w.heap.size + 1 + 1 + 1 + 1 + 1 + 1) W7 := ⟨World.block_lt_of_cell? W7 _ r0⟩
  unfold cellsOf at hW7
  have HW7 := Lib.hid hW7
  have HN7 := Lib.hid hn7
  have d0 : (nx.re != 0) = true := by simpa using h0
  have d1 : (nx.re != 14) = true := by simpa using h14
  clear hW7 hn7 h0 h14
  go_enter Tryz.func23, Tryz.ntmps23
  go_upto_region 2 with (fail)
  rw [← HW7.out]
  go_wp2
  refine bodyPost_ret (v := .tuple #[.bool true, .int .i64 0]) ?_ rfl ⟨rfl, by repeat (first | exact HN7.out | refine Nw.setCell ?_ (by simp; omega) _)⟩
  refine results_cc rfl rfl rfl ?_ ?_ <;> simp [go_sem, b4, b5]
def KpI (w W9 : World) (c : Cl) (x : Lf) (pre : List Int) (W : World) : Prop := (KCp (fun _ => True) W9 W ∧ ∀ e ∈ pre, vioB c x e = false) ∧ Below w.heap.size w W
def KpX (w : World) (c : Cl) (x : Lf) (cd : Code) (pre : List Int) (W : World) : Prop := cd = .ret ∧ (∃ pre' z, pre = pre' ++ [z] ∧ vioB c x z = true) ∧ (W.cell? ⟨w.heap.size + 1 + 1 + 1 + 1, 0, none⟩ = some (.bool false) ∧ W.cell? ⟨w.heap.size + 1 + 1 + 1 + 1 + 1, 0, none⟩ = some (.int .i64 0)) ∧ Below w.heap.size w W
theorem kpI_own (w W9 : World) (c : Cl) (x : Lf) : OwnFrom w.heap.size (KpI w W9 c x) := fun s A B row hs hg hr =>
  ⟨⟨hs.1.1.kept hg (fun r e => (hr r e).2), hs.1.2⟩, ownFrom_below (β := Unit) (Nat.le_refl _) (Nat.le_refl _) () A B row hs.2 hg hr⟩
theorem kpX_own (w : World) (c : Cl) (x : Lf) (cd : Code) : OwnFrom w.heap.size (KpX w c x cd) := fun s A B row hs hg hr =>
  ⟨hs.1, hs.2.1, ⟨cell_kept hs.2.2.1.1 hg (fun r e => (hr r e).2), cell_kept hs.2.2.1.2 hg (fun r e => (hr r e).2)⟩, ownFrom_below (β := Unit) (Nat.le_refl _) (Nat.le_refl _) () A B row hs.2.2.2 hg hr⟩
set_option maxRecDepth 100000 in
set_option maxHeartbeats 8000000 in
theorem keeps14_any {w : World} {c : Cf} {cuts : List Nat} {A : Option Addr} {n cap : Nat} {l : List Cl} (hi : In3 w c cuts A n cap l) {o2 : List Sta} (hX : wX c cuts l = .ok o2) (op nx : Cl) (x : Lf) (hfr : -1 ≤ op.took) (hre : nx.re = 14) :
    Calls Tryz.prog 23 #[confV c, cv op, cv nx, lfv x, .slice A n cap] w (KpP w (!(alwM (durM (mapsA c cuts l) (tksL l) op.took nx.took)).any (vioB nx x))) := by
  unfold confV lfv
  obtain ⟨W7, hW7⟩ : ∃ W, W = ((((((w.alloc (cellsOf c 27)).alloc (.cells #[.int .i64 op.th, .int .i64 op.ix, .int .u8 op.kd, .int .u64 op.ka, .int .u64 op.kb, .int .u64 op.kc, .int .u64 op.kx, .int .u64 op.ky, .int .u64 op.kz, .int .i64 op.inv, .int .i64 op.took, .int .i64 op.ans, .int .i64 op.st, .int .i64 op.re, .bool op.rf, .int .u64 op.rk, .int .u64 op.rv, .int .i64 op.rc] 45)).alloc (.cells #[.int .i64 nx.th, .int .i64 nx.ix, .int .u8 nx.kd, .int .u64 nx.ka, .int .u64 nx.kb, .int .u64 nx.kc, .int .u64 nx.kx, .int .u64 nx.ky, .int .u64 nx.kz, .int .i64 nx.inv, .int .i64 nx.took, .int .i64 nx.ans, .int .i64 nx.st, .int .i64 nx.re, .bool nx.rf, .int .u64 nx.rk, .int .u64 nx.rv, .int .i64 nx.rc] 45)).alloc (.cells #[.int .u64 x.lo, .int .u64 x.hi, .bool x.more] 68)).alloc (.cells #[.bool false] 4)).alloc (.cells #[.int .i64 0] 31)).alloc (.cells #[.int .i64 nx.re, .bool nx.rf, .int .u64 nx.rk, .int .u64 nx.rv, .int .i64 nx.rc] 43) := ⟨_, rfl⟩
  have hn7 : Nw w W7 := by rw [hW7]; exact nwa
  have hs7 : W7.heap.size = w.heap.size + 7 := by rw [hW7]; simp
  haveI hca : ConfAt W7 w.heap.size c := by
    have h0 : ConfAt (w.alloc (cellsOf c 27)) w.heap.size c := ⟨fun i v hv => by unfold cellsOf; unfold ccells at hv; rw [World.cell?_alloc_new]; simpa using hv, by simp⟩
    exact h0.nw (by rw [hW7]; exact nwa)
  have o10 : W7.cell? ⟨w.heap.size + 1, 10, none⟩ = some (.int .i64 op.took) := by rw [hW7]; simp [go_sem]
  have n10 : W7.cell? ⟨w.heap.size + 1 + 1, 10, none⟩ = some (.int .i64 nx.took) := by rw [hW7]; simp [go_sem]
  have x0 : W7.cell? ⟨w.heap.size + 1 + 1 + 1, 0, none⟩ = some (.int .u64 x.lo) := by rw [hW7]; simp [go_sem]
  have x1 : W7.cell? ⟨w.heap.size + 1 + 1 + 1, 1, none⟩ = some (.int .u64 x.hi) := by rw [hW7]; simp [go_sem]
  have x2 : W7.cell? ⟨w.heap.size + 1 + 1 + 1, 2, none⟩ = some (.bool x.more) := by rw [hW7]; simp [go_sem]
  have b4 : W7.cell? ⟨w.heap.size + 1 + 1 + 1 + 1, 0, none⟩ = some (.bool false) := by rw [hW7]; simp [go_sem]
  have b5 : W7.cell? ⟨w.heap.size + 1 + 1 + 1 + 1 + 1, 0, none⟩ = some (.int .i64 0) := by rw [hW7]; simp [go_sem]
  have z4 : W7.frozen? ⟨w.heap.size + 1 + 1 + 1 + 1, 0, none⟩ = false := by rw [hW7]; simp [go_sem]
  have z5 : W7.frozen? ⟨w.heap.size + 1 + 1 + 1 + 1 + 1, 0, none⟩ = false := by rw [hW7]; simp [go_sem]
  have r0 : W7.cell? ⟨w.heap.size + 1 + 1 + 1 + 1 + 1 + 1, 0, none⟩ = some (.int .i64 nx.re) := by rw [hW7]; simp [go_sem]
  have r1 : W7.cell? ⟨w.heap.size + 1 + 1 + 1 + 1 + 1 + 1, 1, none⟩ = some (.bool nx.rf) := by rw [hW7]; simp [go_sem]
  have r2 : W7.cell? ⟨w.heap.size + 1 + 1 + 1 + 1 + 1 + 1, 2, none⟩ = some (.int .u64 nx.rk) := by rw [hW7]; simp [go_sem]
  have r3 : W7.cell? ⟨w.heap.size + 1 + 1 + 1 + 1 + 1 + 1, 3, none⟩ = some (.int .u64 nx.rv) := by rw [hW7]; simp [go_sem]
  haveI : In w.heap.size W7 := ⟨hca.lt⟩
  haveI : In (w.heap.size + 1) W7 := ⟨World.block_lt_of_cell? W7 _ o10⟩
  haveI : In (w.heap.size + 1 + 1) W7 := ⟨World.block_lt_of_cell? W7 _ n10⟩
  haveI : In (w.heap.size + 1 + 1 + 1) W7 := ⟨World.block_lt_of_cell? W7 _ x0⟩
  haveI : In (w.heap.size + 1 + 1 + 1 + 1) W7 := ⟨World.block_lt_of_cell? W7 _ b4⟩
  haveI : In (w.heap.size + 1 + 1 + 1 + 1 + 1) W7 := ⟨World.block_lt_of_cell? W7 _ b5⟩
  haveI : In (w.heap.size + 1 + 1 + 1 + 1 + 1 + 1) W7 := ⟨World.block_lt_of_cell? W7 _ r0⟩
  have d0 : (nx.re != 0) = true := by rw [hre]; rfl
  have d1 : (nx.re != 14) = false := by rw [hre]; rfl
  have d2 : (nx.re == 14) = true := by rw [hre]; rfl
  have d3 : decide (nx.re = 14) = true := by rw [hre]; rfl
  have HRE := Lib.hid hre
  have HD := Lib.hid (fun W (hq : Nw w W) => pdur_any (hi.nw hq) hX op.took nx.took hfr)
  obtain ⟨ms, hms⟩ : ∃ ms, ms = durM (mapsA c cuts l) (tksL l) op.took nx.took := ⟨_, rfl⟩
  have hml : ms.length ≤ 500000 := by
    have h1 := durM_len (mapsA c cuts l) (tksL l) op.took nx.took
    have h2 : (tksL l).length ≤ l.length := by unfold tksL; rw [List.length_map]; exact (effL_is (wX_ok hX).2.1).len
    have h3 := hi.hl.1
    have h4 := hi.n1
    rw [hms]; omega
  obtain ⟨r, hr⟩ := durM_head (mapsA c cuts l) (tksL l) op.took nx.took
  obtain ⟨p0, hp0⟩ : ∃ p0, p0 = mapsA c cuts l op.took := ⟨_, rfl⟩
  rw [← hms, ← hp0] at hr
  rw [← hms] at HD
  have HMS := Lib.hid (And.intro hms (And.intro hml hr))
  unfold cellsOf at hW7
  have HW7 := Lib.hid hW7
  have HN7 := Lib.hid hn7
  have HS7 := Lib.hid hs7
  clear hW7 hn7 hre hX hi hms hml hr hfr hp0 hs7
  refine (callsIn_wide (n := 9)).1 ?_
  refine callsIn_of_wp_marks Tryz.func23 rfl trivial ?_ rfl
  refine wpIn_wide.2 ?_
  simp only [Tryz.ntmps23, List.size_toArray, List.length_cons, List.length_nil, Nat.reduceAdd, Nat.reduceSub, Array.replicate_succ, Array.replicate_zero, List.push_toArray, List.append_toArray, List.nil_append, List.cons_append]
  go_upto_region 2 with (fail)
  rw [← HW7.out]
  go_wp2_with fail
  unfold confV at HD
  refine (HD.out W7 HN7.out).mono ?_
  rintro e W8 ⟨v, zs, rfl, hrr, hpl, hn8⟩
  obtain ⟨Am, cm, rfl, hrows⟩ := hrr.rowsP (by rw [HMS.out.2.2]; simp) hpl HMS.out.2.1 (p := fun _ => True) (fun _ _ _ => trivial)
  have HRW := Lib.hid hrows
  have HRR := Lib.hid hrr
  have HN8 := Lib.hid hn8
  have HPL := Lib.hid hpl
  have x08 := cell_nw x0 hn8
  have x18 := cell_nw x1 hn8
  have x28 := cell_nw x2 hn8
  have b48 := cell_nw b4 hn8
  have b58 := cell_nw b5 hn8
  have r08 := cell_nw r0 hn8
  have r18 := cell_nw r1 hn8
  have r28 := cell_nw r2 hn8
  have r38 := cell_nw r3 hn8
  have z48 : W8.frozen? ⟨w.heap.size + 1 + 1 + 1 + 1, 0, none⟩ = false := (frozen_nw (World.block_lt_of_cell? W7 _ b4) hn8).trans z4
  have z58 : W8.frozen? ⟨w.heap.size + 1 + 1 + 1 + 1 + 1, 0, none⟩ = false := (frozen_nw (World.block_lt_of_cell? W7 _ b5) hn8).trans z5
  haveI : In (w.heap.size + 1 + 1 + 1) W8 := ⟨World.block_lt_of_cell? W8 _ x08⟩
  haveI : In (w.heap.size + 1 + 1 + 1 + 1) W8 := ⟨World.block_lt_of_cell? W8 _ b48⟩
  haveI : In (w.heap.size + 1 + 1 + 1 + 1 + 1) W8 := ⟨World.block_lt_of_cell? W8 _ b58⟩
  haveI : In (w.heap.size + 1 + 1 + 1 + 1 + 1 + 1) W8 := ⟨World.block_lt_of_cell? W8 _ r08⟩
  clear hrows hrr hn8 hpl o10 n10 x0 x1 x2 b4 b5 z4 z5 r0 r1 r2 r3
  have hmf : ∀ (fn : Fn) (first cap : Array Value) (w : World), (Instr.makeFunc fn first cap).run Tryz.prog w = .ok (.func fn first cap) w := fun _ _ _ _ => rfl
  obtain ⟨lm, hlm⟩ : ∃ q, q = ms.length := ⟨_, rfl⟩
  rw [← hlm] at HRW ⊢
  have HLM := Lib.hid hlm
  clear hlm
  go_wp2_with fail
  refine (alw_any _ _ _ _).mono ?_
  rintro e w9 ⟨rfl, hw9⟩
  obtain ⟨W9, hW9⟩ : ∃ W, W = w9 := ⟨_, rfl⟩
  subst hW9
  have hn9 : Nw W8 W9 := by rw [hw9]; exact nwa
  have f9 : W9.cell? ⟨W8.heap.size, 0, none⟩ = some (.func (.func 47) #[] #[.pointer (some ⟨w.heap.size + 1 + 1 + 1, 0, none⟩)]) := by rw [hw9]; simp [go_sem]
  have m9 : W9.cell? ⟨W8.heap.size + 1, 0, none⟩ = some (.slice Am lm cm) := by rw [hw9]; simp [go_sem]
  have hs9 : W9.heap.size = W8.heap.size + 1 + 1 := by rw [hw9]; simp
  rw [World.size_alloc]
  have x09 := cell_nw x08 hn9
  have x19 := cell_nw x18 hn9
  have x29 := cell_nw x28 hn9
  have b49 := cell_nw b48 hn9
  have b59 := cell_nw b58 hn9
  have r09 := cell_nw r08 hn9
  have r19 := cell_nw r18 hn9
  have r29 := cell_nw r28 hn9
  have r39 := cell_nw r38 hn9
  have z49 : W9.frozen? ⟨w.heap.size + 1 + 1 + 1 + 1, 0, none⟩ = false := (frozen_nw (World.block_lt_of_cell? W8 _ b48) hn9).trans z48
  have z59 : W9.frozen? ⟨w.heap.size + 1 + 1 + 1 + 1 + 1, 0, none⟩ = false := (frozen_nw (World.block_lt_of_cell? W8 _ b58) hn9).trans z58
  have HNW9 := Lib.hid ((HN7.out.trans HN8.out).trans hn9)
  have HRW9 := Lib.hid (show RowsP (fun _ => True) W9 Am lm cm zs (p0 :: r) from by have h := HRW.out.kcp (KCp.nw hn9); rw [HMS.out.2.2] at h; exact h)
  have HSZ9 := Lib.hid (show w.heap.size + 7 ≤ W8.heap.size from by have := HN8.out.grown.size; have := HS7.out; omega)
  clear hw9 hn9 x08 x18 x28 b48 b58 r08 r18 r28 r38 z48 z58
  go_wp2_with fail
  refine (wpIn_wide (n := 9)).1 ?_
  refine wpIn_rangeFunc_ownH (F := Fence.wide) (n := 9) rfl (by omega) (gf := 56) (lb := #[.pointer (some ⟨W8.heap.size + 1, 0, none⟩)]) rfl trivial (enters_of Tryz.func56 (by kernel_rfl) rfl)
    (alw1_stops (fun _ => True) (9 - 1) (by omega) (W8.heap.size + 1) Am lm cm zs p0 r p0.length (Nat.le_refl _) W9 trivial m9 HRW9.out) KCp.trans (fun W l o o' _ h1 h2 _ => KCp.put W l o o' h1 h2) (Below.refl _ _) (fun _ => rfl)
    (KpI w W9 nx x) (KpX w nx x)
    (fun s X Y row hs hg hr => kpI_own w W9 nx x s X Y row hs hg (fun r e => ⟨by have := (hr r e).1; have := HSZ9.out; omega, (hr r e).2⟩))
    (fun cd s X Y row hs hg hr => kpX_own w nx x cd s X Y row hs hg (fun r e => ⟨by have := (hr r e).1; have := HSZ9.out; omega, (hr r e).2⟩)) ⟨⟨KCp.refl _ _, fun e he => by cases he⟩, HNW9.out.below⟩
    (fun z a' W => a' = { tmps := #[.agg #[.int .i64 c.thr, .int .i64 c.sl, .int .u8 c.eng, .int .i64 c.bk, .int .u8 c.dk, .int .i64 c.dn, .slice c.cA c.cn c.cc, .int .i64 c.t1, .int .i64 c.t2, .int .i64 c.t3, .int .i64 c.t4, .int .i64 c.t5, .int .i64 c.t6, .int .i64 c.lk, .int .i64 c.tr, .int .i64 c.ba], cv op, cv nx, .agg #[.int .u64 x.lo, .int .u64 x.hi, .bool x.more], .slice A n cap, .pointer (some ⟨w.heap.size, 0, none⟩), .pointer (some ⟨w.heap.size + 1, 0, none⟩), .pointer (some ⟨w.heap.size + 1 + 1, 0, none⟩), .pointer (some ⟨w.heap.size + 1 + 1 + 1, 0, none⟩), undef, .pointer (some ⟨w.heap.size + 1 + 1 + 1 + 1, 0, none⟩), .pointer (some ⟨w.heap.size + 1 + 1 + 1 + 1 + 1, 0, none⟩), .pointer (some ⟨w.heap.size + 1 + 1 + 1 + 1 + 1 + 1, 0, none⟩), .slice Am lm cm, .int .i64 0, .pointer (some ⟨W8.heap.size, 0, none⟩), .int .u64 z, .pointer (some ⟨w.heap.size + 1 + 1, 13, none⟩), .agg #[.int .i64 nx.re, .bool nx.rf, .int .u64 nx.rk, .int .u64 nx.rv, .int .i64 nx.rc], .pointer (some ⟨w.heap.size + 1 + 1 + 1 + 1 + 1 + 1, 0, none⟩), .int .i64 nx.re, .bool true, .bool true, .pointer (some ⟨w.heap.size + 1 + 1 + 1 + 1 + 1 + 1, 0, none⟩), .int .i64 nx.re, .bool false, .bool false, .tuple #[.slice Am lm cm, .int .i64 0], .agg #[.int .i64 c.thr, .int .i64 c.sl, .int .u8 c.eng, .int .i64 c.bk, .int .u8 c.dk, .int .i64 c.dn, .slice c.cA c.cn c.cc, .int .i64 c.t1, .int .i64 c.t2, .int .i64 c.t3, .int .i64 c.t4, .int .i64 c.t5, .int .i64 c.t6, .int .i64 c.lk, .int .i64 c.tr, .int .i64 c.ba], .pointer (some ⟨w.heap.size + 1, 10, none⟩), .int .i64 op.took, .pointer (some ⟨w.heap.size + 1 + 1, 10, none⟩), .int .i64 nx.took, .slice A n cap, .tuple #[.slice Am lm cm, .int .i64 0], .slice Am lm cm, .int .i64 0, .int .i64 0, .bool false, undef, .func (.func 47) #[] #[.pointer (some ⟨w.heap.size + 1 + 1 + 1, 0, none⟩)], .slice Am lm cm, .func (.func 56) #[] #[.pointer (some ⟨W8.heap.size + 1, 0, none⟩)], .int .u64 z, undef, undef, undef, undef, undef, undef, undef, undef, undef, undef, undef, undef, undef, undef, undef, undef, undef, undef, undef, undef, undef, undef, undef, undef, undef, undef, undef, undef, undef, undef], defers := [] })
    (fun z a' _ X Y row hs hg hr => hs)
    ?assign ?body ?done ?stop
  case assign =>
    rintro l' pre z W K hi hK
    dsimp only [encK]
    gi_wp2
    exact hK _ _ (KeepsFrom.refl _ _) (KCp.refl _ _) hi rfl
  case body =>
    rintro l' pre z a' W hl ⟨rr, hrr⟩ ⟨⟨hk, hp⟩, hB⟩ rfl hlt
    have x0 := hk.cell trivial x09
    have x1 := hk.cell trivial x19
    have x2 := hk.cell trivial x29
    have b4 := hk.cell trivial b49
    have b5 := hk.cell trivial b59
    have r0 := hk.cell trivial r09
    have r1 := hk.cell trivial r19
    have r2 := hk.cell trivial r29
    have r3 := hk.cell trivial r39
    have z4 := (hk.frozen trivial b49).trans z49
    have z5 := (hk.frozen trivial b59).trans z59
    have f0 := hk.cell trivial f9
    haveI : In W8.heap.size W := ⟨World.block_lt_of_cell? W _ f0⟩
    haveI : In (w.heap.size + 1 + 1 + 1) W := ⟨World.block_lt_of_cell? W _ x0⟩
    haveI : In (w.heap.size + 1 + 1 + 1 + 1) W := ⟨World.block_lt_of_cell? W _ b4⟩
    haveI : In (w.heap.size + 1 + 1 + 1 + 1 + 1) W := ⟨World.block_lt_of_cell? W _ b5⟩
    haveI : In (w.heap.size + 1 + 1 + 1 + 1 + 1 + 1) W := ⟨World.block_lt_of_cell? W _ r0⟩
    have HI := Lib.hid (And.intro hk (And.intro hp hB))
    have HINS := Lib.hid (ins_any x z (w.heap.size + 1 + 1 + 1) W x0 x1 x2)
    obtain ⟨ib, hib⟩ : ∃ q, q = insB x z := ⟨_, rfl⟩
    rw [← hib] at HINS
    have HIB := Lib.hid hib
    clear hk hp hB hib
    gi_wp2_with fail
    refine ⟨trivial, (((callsIn_wide (n := 6)).2 HINS.out).inRound l').mono ?_⟩
    rintro e Wc ⟨rfl, hn⟩
    have HKF := Lib.hid (KeepsFrom.of_grownBy (B := W9.heap.size) hn.grown (fun j h => by cases h))
    have HNC := Lib.hid hn
    have HB := Lib.hid (HI.out.2.2.trans (hn.below.mono (by have := HI.out.2.2.size; omega)))
    have hkc := HI.out.1.trans (KCp.nw hn)
    clear x0 x1 x2 b4 b5 r0 r1 r2 r3 z4 z5 f0
    have x0 := hkc.cell trivial x09
    have x1 := hkc.cell trivial x19
    have x2 := hkc.cell trivial x29
    have b4 := hkc.cell trivial b49
    have b5 := hkc.cell trivial b59
    have r0 := hkc.cell trivial r09
    have r1 := hkc.cell trivial r19
    have r2 := hkc.cell trivial r29
    have r3 := hkc.cell trivial r39
    have z4 := (hkc.frozen trivial b49).trans z49
    have z5 := (hkc.frozen trivial b59).trans z59
    have f0 := hkc.cell trivial f9
    haveI : In W8.heap.size Wc := ⟨World.block_lt_of_cell? Wc _ f0⟩
    haveI : In (w.heap.size + 1 + 1 + 1) Wc := ⟨World.block_lt_of_cell? Wc _ x0⟩
    haveI : In (w.heap.size + 1 + 1 + 1 + 1) Wc := ⟨World.block_lt_of_cell? Wc _ b4⟩
    haveI : In (w.heap.size + 1 + 1 + 1 + 1 + 1) Wc := ⟨World.block_lt_of_cell? Wc _ b5⟩
    haveI : In (w.heap.size + 1 + 1 + 1 + 1 + 1 + 1) Wc := ⟨World.block_lt_of_cell? Wc _ r0⟩
    have HKC := Lib.hid hkc
    clear hkc hn
    cases ib with
    | false =>
      have HV := Lib.hid (show vioB nx x z = false by unfold vioB; rw [← HIB.out]; rfl)
      gi_wp2
      refine ⟨HKF.out, KCp.nw HNC.out, ⟨HKC.out, fun e he => ?_⟩, HB.out⟩
      rcases List.mem_append.1 he with he | he
      · exact HI.out.2.1 e he
      · simp at he; subst he; exact HV.out
    | true =>
      have HV := Lib.hid (show vioB nx x z = true by unfold vioB; rw [← HIB.out, d3]; rfl)
      gi_wp2
      exact ⟨HKF.out.trans (((KeepsOthers.setCell _ _ _).from _).trans ((KeepsOthers.setCell _ _ _).from _)), rfl, ⟨pre, z, rfl, HV.out⟩, ⟨by simp [go_sem, b4], by simp [go_sem, b5]⟩, (HB.out.setCell (p := ⟨w.heap.size + 1 + 1 + 1 + 1, 0, none⟩) (by show w.heap.size ≤ w.heap.size + 1 + 1 + 1 + 1; omega) _).setCell (p := ⟨w.heap.size + 1 + 1 + 1 + 1 + 1, 0, none⟩) (by show w.heap.size ≤ w.heap.size + 1 + 1 + 1 + 1 + 1; omega) _⟩
  case done =>
    rintro D ys W hD rfl ⟨⟨hk, hp⟩, hB⟩ hKx
    have x0 := hk.cell trivial x09
    have x1 := hk.cell trivial x19
    have x2 := hk.cell trivial x29
    have b4 := hk.cell trivial b49
    have b5 := hk.cell trivial b59
    have r0 := hk.cell trivial r09
    have r1 := hk.cell trivial r19
    have r2 := hk.cell trivial r29
    have r3 := hk.cell trivial r39
    have z4 := (hk.frozen trivial b49).trans z49
    have z5 := (hk.frozen trivial b59).trans z59
    have f0 := hk.cell trivial f9
    haveI : In W8.heap.size W := ⟨World.block_lt_of_cell? W _ f0⟩
    haveI : In (w.heap.size + 1 + 1 + 1) W := ⟨World.block_lt_of_cell? W _ x0⟩
    haveI : In (w.heap.size + 1 + 1 + 1 + 1) W := ⟨World.block_lt_of_cell? W _ b4⟩
    haveI : In (w.heap.size + 1 + 1 + 1 + 1 + 1) W := ⟨World.block_lt_of_cell? W _ b5⟩
    haveI : In (w.heap.size + 1 + 1 + 1 + 1 + 1 + 1) W := ⟨World.block_lt_of_cell? W _ r0⟩
    have HANY := Lib.hid (show (alwM (p0 :: r)).any (vioB nx x) = false from List.any_eq_false.2 fun e he => by rw [hp e he]; simp)
    have HBX := Lib.hid hB
    have HK1 := Lib.hid hk
    have hDD : w.heap.size + 9 ≤ D := by have := HSZ9.out; omega
    clear hk hp hB
    go_wp2
    obtain ⟨Wx, hWx⟩ : ∃ q, q = W := ⟨_, rfl⟩
    rw [← hWx] at hKx b4 b5 HBX ⊢
    have hK2 : ((Wx.setCell ⟨w.heap.size + 1 + 1 + 1 + 1, 0, none⟩ (.bool true)).setCell ⟨w.heap.size + 1 + 1 + 1 + 1 + 1, 0, none⟩ (.int .i64 0)).heap[D]? = some (.deferred (some [])) := by
      have h1 := (Chg.set1 Wx (w.heap.size + 1 + 1 + 1 + 1) 0 (.bool true)).block D (by have := (Array.getElem?_eq_some_iff.1 hKx).1; exact this) (by simp; omega)
      have h2 := (Chg.set1 (Wx.setCell ⟨w.heap.size + 1 + 1 + 1 + 1, 0, none⟩ (.bool true)) (w.heap.size + 1 + 1 + 1 + 1 + 1) 0 (.int .i64 0)).block D (by have := (Array.getElem?_eq_some_iff.1 hKx).1; simpa using this) (by simp; omega)
      rw [h2, h1]; exact hKx
    have k4 : ((Wx.setCell ⟨w.heap.size + 1 + 1 + 1 + 1, 0, none⟩ (.bool true)).setCell ⟨w.heap.size + 1 + 1 + 1 + 1 + 1, 0, none⟩ (.int .i64 0)).cell? ⟨w.heap.size + 1 + 1 + 1 + 1, 0, none⟩ = some (.bool true) := by simp [go_sem, b4]
    have k5 : ((Wx.setCell ⟨w.heap.size + 1 + 1 + 1 + 1, 0, none⟩ (.bool true)).setCell ⟨w.heap.size + 1 + 1 + 1 + 1 + 1, 0, none⟩ (.int .i64 0)).cell? ⟨w.heap.size + 1 + 1 + 1 + 1 + 1, 0, none⟩ = some (.int .i64 0) := by simp [go_sem, b5]
    have hB2 : Below w.heap.size w ((Wx.setCell ⟨w.heap.size + 1 + 1 + 1 + 1, 0, none⟩ (.bool true)).setCell ⟨w.heap.size + 1 + 1 + 1 + 1 + 1, 0, none⟩ (.int .i64 0)) := (HBX.out.setCell (p := ⟨w.heap.size + 1 + 1 + 1 + 1, 0, none⟩) (by show w.heap.size ≤ w.heap.size + 1 + 1 + 1 + 1; omega) _).setCell (p := ⟨w.heap.size + 1 + 1 + 1 + 1 + 1, 0, none⟩) (by show w.heap.size ≤ w.heap.size + 1 + 1 + 1 + 1 + 1; omega) _
    refine ⟨by simp, .inl ⟨_, _, rfl, run_takeDeferred hK2, ?_⟩⟩
    have c4 := (KCp.put (p := fun _ => True) _ D _ (.deferred none) hK2 rfl).cell trivial k4
    have c5 := (KCp.put (p := fun _ => True) _ D _ (.deferred none) hK2 rfl).cell trivial k5
    refine ⟨.tuple #[.bool true, .int .i64 0], results_cc rfl rfl rfl ?_ ?_, ?_, Nw.of_below (hB2.trans (belowK_b (w := w) (Nat.le_refl _) _ D _ _ (by omega) hK2 rfl rfl))⟩
    · simp [go_sem, c4]
    · simp [go_sem, c5]
    · rw [← HMS.out.1, HMS.out.2.2, HANY.out]; rfl
  case stop =>
    rintro D cd pre W hD hpre ⟨rfl, ⟨pre', z, rfl, hz⟩, ⟨k4, k5⟩, hB⟩ hKx
    have hany : (alwM (p0 :: r)).any (vioB nx x) = true := by
      obtain ⟨suf, hs⟩ := hpre
      rw [← hs]
      simp [hz]
    have HANY := Lib.hid hany
    have HBX := Lib.hid hB
    have hDD : w.heap.size + 9 ≤ D := by have := HSZ9.out; omega
    clear hpre hz hany hB
    gi_wp2
    refine ⟨by simp, .inl ⟨_, _, rfl, run_takeDeferred hKx, ?_⟩⟩
    have c4 := (KCp.put (p := fun _ => True) _ D _ (.deferred none) hKx rfl).cell trivial k4
    have c5 := (KCp.put (p := fun _ => True) _ D _ (.deferred none) hKx rfl).cell trivial k5
    refine ⟨.tuple #[.bool false, .int .i64 0], results_cc rfl rfl rfl ?_ ?_, ?_, Nw.of_below (HBX.out.trans (belowK_b (w := w) (Nat.le_refl _) _ D _ _ (by omega) hKx rfl rfl))⟩
    · simp [go_sem, c4]
    · simp [go_sem, c5]
    · rw [← HMS.out.1, HMS.out.2.2, HANY.out]; rfl
set_option maxRecDepth 100000 in
set_option maxHeartbeats 8000000 in
theorem keeps0_any {w : World} {c : Cf} {cuts : List Nat} {A : Option Addr} {n cap : Nat} {l : List Cl} (hi : In3 w c cuts A n cap l) {o2 : List Sta} (hX : wX c cuts l = .ok o2) (op nx : Cl) (x : Lf) (hfr : -1 ≤ op.took) (hre : nx.re = 0) :
    Calls Tryz.prog 23 #[confV c, cv op, cv nx, lfv x, .slice A n cap] w (KpP w (!((alwM (durM (mapsA c cuts l) (tksL l) op.took nx.took)).any (vioB nx x)) && (nx.rf && (insB x nx.rk && (durM (mapsA c cuts l) (tksL l) op.took nx.took).any fun p => decide ((nx.rk, nx.rv) ∈ p))))) := by
  unfold confV lfv
  obtain ⟨W7, hW7⟩ : ∃ W, W = ((((((w.alloc (cellsOf c 27)).alloc (.cells #[.int .i64 op.th, .int .i64 op.ix, .int .u8 op.kd, .int .u64 op.ka, .int .u64 op.kb, .int .u64 op.kc, .int .u64 op.kx, .int .u64 op.ky, .int .u64 op.kz, .int .i64 op.inv, .int .i64 op.took, .int .i64 op.ans, .int .i64 op.st, .int .i64 op.re, .bool op.rf, .int .u64 op.rk, .int .u64 op.rv, .int .i64 op.rc] 45)).alloc (.cells #[.int .i64 nx.th, .int .i64 nx.ix, .int .u8 nx.kd, .int .u64 nx.ka, .int .u64 nx.kb, .int .u64 nx.kc, .int .u64 nx.kx, .int .u64 nx.ky, .int .u64 nx.kz, .int .i64 nx.inv, .int .i64 nx.took, .int .i64 nx.ans, .int .i64 nx.st, .int .i64 nx.re, .bool nx.rf, .int .u64 nx.rk, .int .u64 nx.rv, .int .i64 nx.rc] 45)).alloc (.cells #[.int .u64 x.lo, .int .u64 x.hi, .bool x.more] 68)).alloc (.cells #[.bool false] 4)).alloc (.cells #[.int .i64 0] 31)).alloc (.cells #[.int .i64 nx.re, .bool nx.rf, .int .u64 nx.rk, .int .u64 nx.rv, .int .i64 nx.rc] 43) := ⟨_, rfl⟩
  have hn7 : Nw w W7 := by rw [hW7]; exact nwa
  have hs7 : W7.heap.size = w.heap.size + 7 := by rw [hW7]; simp
  haveI hca : ConfAt W7 w.heap.size c := by
    have h0 : ConfAt (w.alloc (cellsOf c 27)) w.heap.size c := ⟨fun i v hv => by unfold cellsOf; unfold ccells at hv; rw [World.cell?_alloc_new]; simpa using hv, by simp⟩
    exact h0.nw (by rw [hW7]; exact nwa)
  have o10 : W7.cell? ⟨w.heap.size + 1, 10, none⟩ = some (.int .i64 op.took) := by rw [hW7]; simp [go_sem]
  have n10 : W7.cell? ⟨w.heap.size + 1 + 1, 10, none⟩ = some (.int .i64 nx.took) := by rw [hW7]; simp [go_sem]
  have x0 : W7.cell? ⟨w.heap.size + 1 + 1 + 1, 0, none⟩ = some (.int .u64 x.lo) := by rw [hW7]; simp [go_sem]
  have x1 : W7.cell? ⟨w.heap.size + 1 + 1 + 1, 1, none⟩ = some (.int .u64 x.hi) := by rw [hW7]; simp [go_sem]
  have x2 : W7.cell? ⟨w.heap.size + 1 + 1 + 1, 2, none⟩ = some (.bool x.more) := by rw [hW7]; simp [go_sem]
  have b4 : W7.cell? ⟨w.heap.size + 1 + 1 + 1 + 1, 0, none⟩ = some (.bool false) := by rw [hW7]; simp [go_sem]
  have b5 : W7.cell? ⟨w.heap.size + 1 + 1 + 1 + 1 + 1, 0, none⟩ = some (.int .i64 0) := by rw [hW7]; simp [go_sem]
  have z4 : W7.frozen? ⟨w.heap.size + 1 + 1 + 1 + 1, 0, none⟩ = false := by rw [hW7]; simp [go_sem]
  have z5 : W7.frozen? ⟨w.heap.size + 1 + 1 + 1 + 1 + 1, 0, none⟩ = false := by rw [hW7]; simp [go_sem]
  have r0 : W7.cell? ⟨w.heap.size + 1 + 1 + 1 + 1 + 1 + 1, 0, none⟩ = some (.int .i64 nx.re) := by rw [hW7]; simp [go_sem]
  have r1 : W7.cell? ⟨w.heap.size + 1 + 1 + 1 + 1 + 1 + 1, 1, none⟩ = some (.bool nx.rf) := by rw [hW7]; simp [go_sem]
  have r2 : W7.cell? ⟨w.heap.size + 1 + 1 + 1 + 1 + 1 + 1, 2, none⟩ = some (.int .u64 nx.rk) := by rw [hW7]; simp [go_sem]
  have r3 : W7.cell? ⟨w.heap.size + 1 + 1 + 1 + 1 + 1 + 1, 3, none⟩ = some (.int .u64 nx.rv) := by rw [hW7]; simp [go_sem]
  haveI : In w.heap.size W7 := ⟨hca.lt⟩
  haveI : In (w.heap.size + 1) W7 := ⟨World.block_lt_of_cell? W7 _ o10⟩
  haveI : In (w.heap.size + 1 + 1) W7 := ⟨World.block_lt_of_cell? W7 _ n10⟩
  haveI : In (w.heap.size + 1 + 1 + 1) W7 := ⟨World.block_lt_of_cell? W7 _ x0⟩
  haveI : In (w.heap.size + 1 + 1 + 1 + 1) W7 := ⟨World.block_lt_of_cell? W7 _ b4⟩
  haveI : In (w.heap.size + 1 + 1 + 1 + 1 + 1) W7 := ⟨World.block_lt_of_cell? W7 _ b5⟩
  haveI : In (w.heap.size + 1 + 1 + 1 + 1 + 1 + 1) W7 := ⟨World.block_lt_of_cell? W7 _ r0⟩
  have d0 : (nx.re != 0) = false := by simpa using hre
  have d1 : (nx.re == 14) = false := by rw [hre]; rfl
  have d2 : decide (nx.re = 14) = false := by rw [hre]; rfl
  have HRE := Lib.hid hre
  have HD := Lib.hid (fun W (hq : Nw w W) => pdur_any (hi.nw hq) hX op.took nx.took hfr)
  obtain ⟨ms, hms⟩ : ∃ ms, ms = durM (mapsA c cuts l) (tksL l) op.took nx.took := ⟨_, rfl⟩
  have hml : ms.length ≤ 500000 := by
    have h1 := durM_len (mapsA c cuts l) (tksL l) op.took nx.took
    have h2 : (tksL l).length ≤ l.length := by unfold tksL; rw [List.length_map]; exact (effL_is (wX_ok hX).2.1).len
    have h3 := hi.hl.1
    have h4 := hi.n1
    rw [hms]; omega
  obtain ⟨r, hr⟩ := durM_head (mapsA c cuts l) (tksL l) op.took nx.took
  obtain ⟨p0, hp0⟩ : ∃ p0, p0 = mapsA c cuts l op.took := ⟨_, rfl⟩
  rw [← hms, ← hp0] at hr
  rw [← hms] at HD
  have HMS := Lib.hid (And.intro hms (And.intro hml hr))
  unfold cellsOf at hW7
  have HW7 := Lib.hid hW7
  have HN7 := Lib.hid hn7
  have HS7 := Lib.hid hs7
  clear hW7 hn7 hre hX hi hms hml hr hfr hp0 hs7
  refine (callsIn_wide (n := 9)).1 ?_
  refine callsIn_of_wp_marks Tryz.func23 rfl trivial ?_ rfl
  refine wpIn_wide.2 ?_
  simp only [Tryz.ntmps23, List.size_toArray, List.length_cons, List.length_nil, Nat.reduceAdd, Nat.reduceSub, Array.replicate_succ, Array.replicate_zero, List.push_toArray, List.append_toArray, List.nil_append, List.cons_append]
  go_upto_region 2 with (fail)
  rw [← HW7.out]
  go_wp2_with fail
  unfold confV at HD
  refine (HD.out W7 HN7.out).mono ?_
  rintro e W8 ⟨v, zs, rfl, hrr, hpl, hn8⟩
  obtain ⟨Am, cm, rfl, hrows⟩ := hrr.rowsP (by rw [HMS.out.2.2]; simp) hpl HMS.out.2.1 (p := fun _ => True) (fun _ _ _ => trivial)
  have HRW := Lib.hid hrows
  have HRR := Lib.hid hrr
  have HN8 := Lib.hid hn8
  have HPL := Lib.hid hpl
  have x08 := cell_nw x0 hn8
  have x18 := cell_nw x1 hn8
  have x28 := cell_nw x2 hn8
  have b48 := cell_nw b4 hn8
  have b58 := cell_nw b5 hn8
  have r08 := cell_nw r0 hn8
  have r18 := cell_nw r1 hn8
  have r28 := cell_nw r2 hn8
  have r38 := cell_nw r3 hn8
  have z48 : W8.frozen? ⟨w.heap.size + 1 + 1 + 1 + 1, 0, none⟩ = false := (frozen_nw (World.block_lt_of_cell? W7 _ b4) hn8).trans z4
  have z58 : W8.frozen? ⟨w.heap.size + 1 + 1 + 1 + 1 + 1, 0, none⟩ = false := (frozen_nw (World.block_lt_of_cell? W7 _ b5) hn8).trans z5
  haveI : In (w.heap.size + 1 + 1 + 1) W8 := ⟨World.block_lt_of_cell? W8 _ x08⟩
  haveI : In (w.heap.size + 1 + 1 + 1 + 1) W8 := ⟨World.block_lt_of_cell? W8 _ b48⟩
  haveI : In (w.heap.size + 1 + 1 + 1 + 1 + 1) W8 := ⟨World.block_lt_of_cell? W8 _ b58⟩
  haveI : In (w.heap.size + 1 + 1 + 1 + 1 + 1 + 1) W8 := ⟨World.block_lt_of_cell? W8 _ r08⟩
  clear hrows hrr hn8 hpl o10 n10 x0 x1 x2 b4 b5 z4 z5 r0 r1 r2 r3
  have hmf : ∀ (fn : Fn) (first cap : Array Value) (w : World), (Instr.makeFunc fn first cap).run Tryz.prog w = .ok (.func fn first cap) w := fun _ _ _ _ => rfl
  obtain ⟨lm, hlm⟩ : ∃ q, q = ms.length := ⟨_, rfl⟩
  rw [← hlm] at HRW ⊢
  have HLM := Lib.hid hlm
  clear hlm
  go_wp2_with fail
  refine (alw_any _ _ _ _).mono ?_
  rintro e w9 ⟨rfl, hw9⟩
  obtain ⟨W9, hW9⟩ : ∃ W, W = w9 := ⟨_, rfl⟩
  subst hW9
  have hn9 : Nw W8 W9 := by rw [hw9]; exact nwa
  have f9 : W9.cell? ⟨W8.heap.size, 0, none⟩ = some (.func (.func 47) #[] #[.pointer (some ⟨w.heap.size + 1 + 1 + 1, 0, none⟩)]) := by rw [hw9]; simp [go_sem]
  have m9 : W9.cell? ⟨W8.heap.size + 1, 0, none⟩ = some (.slice Am lm cm) := by rw [hw9]; simp [go_sem]
  have hs9 : W9.heap.size = W8.heap.size + 1 + 1 := by rw [hw9]; simp
  rw [World.size_alloc]
  have x09 := cell_nw x08 hn9
  have x19 := cell_nw x18 hn9
  have x29 := cell_nw x28 hn9
  have b49 := cell_nw b48 hn9
  have b59 := cell_nw b58 hn9
  have r09 := cell_nw r08 hn9
  have r19 := cell_nw r18 hn9
  have r29 := cell_nw r28 hn9
  have r39 := cell_nw r38 hn9
  have z49 : W9.frozen? ⟨w.heap.size + 1 + 1 + 1 + 1, 0, none⟩ = false := (frozen_nw (World.block_lt_of_cell? W8 _ b48) hn9).trans z48
  have z59 : W9.frozen? ⟨w.heap.size + 1 + 1 + 1 + 1 + 1, 0, none⟩ = false := (frozen_nw (World.block_lt_of_cell? W8 _ b58) hn9).trans z58
  have HNW9 := Lib.hid ((HN7.out.trans HN8.out).trans hn9)
  have HRW9 := Lib.hid (show RowsP (fun _ => True) W9 Am lm cm zs (p0 :: r) from by have h := HRW.out.kcp (KCp.nw hn9); rw [HMS.out.2.2] at h; exact h)
  have HSZ9 := Lib.hid (show w.heap.size + 7 ≤ W8.heap.size from by have := HN8.out.grown.size; have := HS7.out; omega)
  clear hw9 hn9 x08 x18 x28 b48 b58 r08 r18 r28 r38 z48 z58
  go_wp2_with fail
  refine (wpIn_wide (n := 9)).1 ?_
  refine wpIn_rangeFunc_ownH (F := Fence.wide) (n := 9) rfl (by omega) (gf := 56) (lb := #[.pointer (some ⟨W8.heap.size + 1, 0, none⟩)]) rfl trivial (enters_of Tryz.func56 (by kernel_rfl) rfl)
    (alw1_stops (fun _ => True) (9 - 1) (by omega) (W8.heap.size + 1) Am lm cm zs p0 r p0.length (Nat.le_refl _) W9 trivial m9 HRW9.out) KCp.trans (fun W l o o' _ h1 h2 _ => KCp.put W l o o' h1 h2) (Below.refl _ _) (fun _ => rfl)
    (KpI w W9 nx x) (KpX w nx x)
    (fun s X Y row hs hg hr => kpI_own w W9 nx x s X Y row hs hg (fun r e => ⟨by have := (hr r e).1; have := HSZ9.out; omega, (hr r e).2⟩))
    (fun cd s X Y row hs hg hr => kpX_own w nx x cd s X Y row hs hg (fun r e => ⟨by have := (hr r e).1; have := HSZ9.out; omega, (hr r e).2⟩)) ⟨⟨KCp.refl _ _, fun e he => by cases he⟩, HNW9.out.below⟩
    (fun z a' W => a' = { tmps := #[.agg #[.int .i64 c.thr, .int .i64 c.sl, .int .u8 c.eng, .int .i64 c.bk, .int .u8 c.dk, .int .i64 c.dn, .slice c.cA c.cn c.cc, .int .i64 c.t1, .int .i64 c.t2, .int .i64 c.t3, .int .i64 c.t4, .int .i64 c.t5, .int .i64 c.t6, .int .i64 c.lk, .int .i64 c.tr, .int .i64 c.ba], cv op, cv nx, .agg #[.int .u64 x.lo, .int .u64 x.hi, .bool x.more], .slice A n cap, .pointer (some ⟨w.heap.size, 0, none⟩), .pointer (some ⟨w.heap.size + 1, 0, none⟩), .pointer (some ⟨w.heap.size + 1 + 1, 0, none⟩), .pointer (some ⟨w.heap.size + 1 + 1 + 1, 0, none⟩), undef, .pointer (some ⟨w.heap.size + 1 + 1 + 1 + 1, 0, none⟩), .pointer (some ⟨w.heap.size + 1 + 1 + 1 + 1 + 1, 0, none⟩), .pointer (some ⟨w.heap.size + 1 + 1 + 1 + 1 + 1 + 1, 0, none⟩), .slice Am lm cm, .int .i64 0, .pointer (some ⟨W8.heap.size, 0, none⟩), .int .u64 z, .pointer (some ⟨w.heap.size + 1 + 1, 13, none⟩), .agg #[.int .i64 nx.re, .bool nx.rf, .int .u64 nx.rk, .int .u64 nx.rv, .int .i64 nx.rc], .pointer (some ⟨w.heap.size + 1 + 1 + 1 + 1 + 1 + 1, 0, none⟩), .int .i64 nx.re, .bool false, .bool false, undef, undef, undef, .bool false, .tuple #[.slice Am lm cm, .int .i64 0], .agg #[.int .i64 c.thr, .int .i64 c.sl, .int .u8 c.eng, .int .i64 c.bk, .int .u8 c.dk, .int .i64 c.dn, .slice c.cA c.cn c.cc, .int .i64 c.t1, .int .i64 c.t2, .int .i64 c.t3, .int .i64 c.t4, .int .i64 c.t5, .int .i64 c.t6, .int .i64 c.lk, .int .i64 c.tr, .int .i64 c.ba], .pointer (some ⟨w.heap.size + 1, 10, none⟩), .int .i64 op.took, .pointer (some ⟨w.heap.size + 1 + 1, 10, none⟩), .int .i64 nx.took, .slice A n cap, .tuple #[.slice Am lm cm, .int .i64 0], .slice Am lm cm, .int .i64 0, .int .i64 0, .bool false, undef, .func (.func 47) #[] #[.pointer (some ⟨w.heap.size + 1 + 1 + 1, 0, none⟩)], .slice Am lm cm, .func (.func 56) #[] #[.pointer (some ⟨W8.heap.size + 1, 0, none⟩)], .int .u64 z, undef, undef, undef, undef, undef, undef, undef, undef, undef, undef, undef, undef, undef, undef, undef, undef, undef, undef, undef, undef, undef, undef, undef, undef, undef, undef, undef, undef, undef, undef], defers := [] })
    (fun z a' _ X Y row hs hg hr => hs)
    ?assign ?body ?done ?stop
  case assign =>
    rintro l' pre z W K hi hK
    dsimp only [encK]
    gi_wp2
    exact hK _ _ (KeepsFrom.refl _ _) (KCp.refl _ _) hi rfl
  case body =>
    rintro l' pre z a' W hl ⟨rr, hrr⟩ ⟨⟨hk, hp⟩, hB⟩ rfl hlt
    have x0 := hk.cell trivial x09
    have x1 := hk.cell trivial x19
    have x2 := hk.cell trivial x29
    have b4 := hk.cell trivial b49
    have b5 := hk.cell trivial b59
    have r0 := hk.cell trivial r09
    have r1 := hk.cell trivial r19
    have r2 := hk.cell trivial r29
    have r3 := hk.cell trivial r39
    have z4 := (hk.frozen trivial b49).trans z49
    have z5 := (hk.frozen trivial b59).trans z59
    have f0 := hk.cell trivial f9
    haveI : In W8.heap.size W := ⟨World.block_lt_of_cell? W _ f0⟩
    haveI : In (w.heap.size + 1 + 1 + 1) W := ⟨World.block_lt_of_cell? W _ x0⟩
    haveI : In (w.heap.size + 1 + 1 + 1 + 1) W := ⟨World.block_lt_of_cell? W _ b4⟩
    haveI : In (w.heap.size + 1 + 1 + 1 + 1 + 1) W := ⟨World.block_lt_of_cell? W _ b5⟩
    haveI : In (w.heap.size + 1 + 1 + 1 + 1 + 1 + 1) W := ⟨World.block_lt_of_cell? W _ r0⟩
    have HI := Lib.hid (And.intro hk (And.intro hp hB))
    have HINS := Lib.hid (ins_any x z (w.heap.size + 1 + 1 + 1) W x0 x1 x2)
    obtain ⟨ib, hib⟩ : ∃ q, q = insB x z := ⟨_, rfl⟩
    rw [← hib] at HINS
    have HIB := Lib.hid hib
    clear hk hp hB hib
    gi_wp2_with fail
    refine ⟨trivial, (((callsIn_wide (n := 6)).2 HINS.out).inRound l').mono ?_⟩
    rintro e Wc ⟨rfl, hn⟩
    have HKF := Lib.hid (KeepsFrom.of_grownBy (B := W9.heap.size) hn.grown (fun j h => by cases h))
    have HNC := Lib.hid hn
    have HB := Lib.hid (HI.out.2.2.trans (hn.below.mono (by have := HI.out.2.2.size; omega)))
    have hkc := HI.out.1.trans (KCp.nw hn)
    clear x0 x1 x2 b4 b5 r0 r1 r2 r3 z4 z5 f0
    have x0 := hkc.cell trivial x09
    have x1 := hkc.cell trivial x19
    have x2 := hkc.cell trivial x29
    have b4 := hkc.cell trivial b49
    have b5 := hkc.cell trivial b59
    have r0 := hkc.cell trivial r09
    have r1 := hkc.cell trivial r19
    have r2 := hkc.cell trivial r29
    have r3 := hkc.cell trivial r39
    have z4 := (hkc.frozen trivial b49).trans z49
    have z5 := (hkc.frozen trivial b59).trans z59
    have f0 := hkc.cell trivial f9
    haveI : In W8.heap.size Wc := ⟨World.block_lt_of_cell? Wc _ f0⟩
    haveI : In (w.heap.size + 1 + 1 + 1) Wc := ⟨World.block_lt_of_cell? Wc _ x0⟩
    haveI : In (w.heap.size + 1 + 1 + 1 + 1) Wc := ⟨World.block_lt_of_cell? Wc _ b4⟩
    haveI : In (w.heap.size + 1 + 1 + 1 + 1 + 1) Wc := ⟨World.block_lt_of_cell? Wc _ b5⟩
    haveI : In (w.heap.size + 1 + 1 + 1 + 1 + 1 + 1) Wc := ⟨World.block_lt_of_cell? Wc _ r0⟩
    have HKC := Lib.hid hkc
    clear hkc hn
    cases ib with
    | false =>
      have HV := Lib.hid (show vioB nx x z = false by unfold vioB; rw [← HIB.out]; rfl)
      gi_wp2
      refine ⟨HKF.out, KCp.nw HNC.out, ⟨HKC.out, fun e he => ?_⟩, HB.out⟩
      rcases List.mem_append.1 he with he | he
      · exact HI.out.2.1 e he
      · simp at he; subst he; exact HV.out
    | true =>
    by_cases hz : z < nx.rk
    · have e1 : decide (z < nx.rk) = true := by simpa using hz
      have HV := Lib.hid (show vioB nx x z = true by unfold vioB; rw [← HIB.out, d2, e1]; rfl)
      clear hz
      gi_wp2
      exact ⟨HKF.out.trans (((KeepsOthers.setCell _ _ _).from _).trans ((KeepsOthers.setCell _ _ _).from _)), rfl, ⟨pre, z, rfl, HV.out⟩, ⟨by simp [go_sem, b4], by simp [go_sem, b5]⟩, (HB.out.setCell (p := ⟨w.heap.size + 1 + 1 + 1 + 1, 0, none⟩) (by show w.heap.size ≤ w.heap.size + 1 + 1 + 1 + 1; omega) _).setCell (p := ⟨w.heap.size + 1 + 1 + 1 + 1 + 1, 0, none⟩) (by show w.heap.size ≤ w.heap.size + 1 + 1 + 1 + 1 + 1; omega) _⟩
    · have e1 : decide (z < nx.rk) = false := by simpa using hz
      have HV := Lib.hid (show vioB nx x z = false by unfold vioB; rw [← HIB.out, d2, e1]; rfl)
      clear hz
      gi_wp2
      refine ⟨HKF.out, KCp.nw HNC.out, ⟨HKC.out, fun e he => ?_⟩, HB.out⟩
      rcases List.mem_append.1 he with he | he
      · exact HI.out.2.1 e he
      · simp at he; subst he; exact HV.out
  case done =>
    rintro D ys W hD rfl ⟨⟨hk, hp⟩, hB⟩ hKx
    have x0 := hk.cell trivial x09
    have x1 := hk.cell trivial x19
    have x2 := hk.cell trivial x29
    have b4 := hk.cell trivial b49
    have b5 := hk.cell trivial b59
    have r0 := hk.cell trivial r09
    have r1 := hk.cell trivial r19
    have r2 := hk.cell trivial r29
    have r3 := hk.cell trivial r39
    have z4 := (hk.frozen trivial b49).trans z49
    have z5 := (hk.frozen trivial b59).trans z59
    have f0 := hk.cell trivial f9
    haveI : In W8.heap.size W := ⟨World.block_lt_of_cell? W _ f0⟩
    haveI : In (w.heap.size + 1 + 1 + 1) W := ⟨World.block_lt_of_cell? W _ x0⟩
    haveI : In (w.heap.size + 1 + 1 + 1 + 1) W := ⟨World.block_lt_of_cell? W _ b4⟩
    haveI : In (w.heap.size + 1 + 1 + 1 + 1 + 1) W := ⟨World.block_lt_of_cell? W _ b5⟩
    haveI : In (w.heap.size + 1 + 1 + 1 + 1 + 1 + 1) W := ⟨World.block_lt_of_cell? W _ r0⟩
    have HANY := Lib.hid (show (alwM (p0 :: r)).any (vioB nx x) = false from List.any_eq_false.2 fun e he => by rw [hp e he]; simp)
    have HBX := Lib.hid hB
    have HK1 := Lib.hid hk
    have hDD : w.heap.size + 9 ≤ D := by have := HSZ9.out; omega
    clear hk hp hB
    have HINS := Lib.hid (ins_any x nx.rk (w.heap.size + 1 + 1 + 1) W x0 x1 x2)
    obtain ⟨ib, hib⟩ : ∃ q, q = insB x nx.rk := ⟨_, rfl⟩
    rw [← hib] at HINS
    have HIB := Lib.hid hib
    obtain ⟨rf, hrf⟩ : ∃ q, q = nx.rf := ⟨_, rfl⟩
    rw [← hrf] at r1
    have HRF := Lib.hid hrf
    clear hib hrf
    cases rf with
    | false =>
      go_wp2
      obtain ⟨Wx, hWx⟩ : ∃ q, q = W := ⟨_, rfl⟩
      rw [← hWx] at hKx b4 b5 HBX ⊢
      have hK2 : ((Wx.setCell ⟨w.heap.size + 1 + 1 + 1 + 1, 0, none⟩ (.bool false)).setCell ⟨w.heap.size + 1 + 1 + 1 + 1 + 1, 0, none⟩ (.int .i64 0)).heap[D]? = some (.deferred (some [])) := by
        have h1 := (Chg.set1 Wx (w.heap.size + 1 + 1 + 1 + 1) 0 (.bool false)).block D (by have := (Array.getElem?_eq_some_iff.1 hKx).1; exact this) (by simp; omega)
        have h2 := (Chg.set1 (Wx.setCell ⟨w.heap.size + 1 + 1 + 1 + 1, 0, none⟩ (.bool false)) (w.heap.size + 1 + 1 + 1 + 1 + 1) 0 (.int .i64 0)).block D (by have := (Array.getElem?_eq_some_iff.1 hKx).1; simpa using this) (by simp; omega)
        rw [h2, h1]; exact hKx
      have k4 : ((Wx.setCell ⟨w.heap.size + 1 + 1 + 1 + 1, 0, none⟩ (.bool false)).setCell ⟨w.heap.size + 1 + 1 + 1 + 1 + 1, 0, none⟩ (.int .i64 0)).cell? ⟨w.heap.size + 1 + 1 + 1 + 1, 0, none⟩ = some (.bool false) := by simp [go_sem, b4]
      have k5 : ((Wx.setCell ⟨w.heap.size + 1 + 1 + 1 + 1, 0, none⟩ (.bool false)).setCell ⟨w.heap.size + 1 + 1 + 1 + 1 + 1, 0, none⟩ (.int .i64 0)).cell? ⟨w.heap.size + 1 + 1 + 1 + 1 + 1, 0, none⟩ = some (.int .i64 0) := by simp [go_sem, b5]
      have hB2 : Below w.heap.size w ((Wx.setCell ⟨w.heap.size + 1 + 1 + 1 + 1, 0, none⟩ (.bool false)).setCell ⟨w.heap.size + 1 + 1 + 1 + 1 + 1, 0, none⟩ (.int .i64 0)) := (HBX.out.setCell (p := ⟨w.heap.size + 1 + 1 + 1 + 1, 0, none⟩) (by show w.heap.size ≤ w.heap.size + 1 + 1 + 1 + 1; omega) _).setCell (p := ⟨w.heap.size + 1 + 1 + 1 + 1 + 1, 0, none⟩) (by show w.heap.size ≤ w.heap.size + 1 + 1 + 1 + 1 + 1; omega) _
      refine ⟨by simp, .inl ⟨_, _, rfl, run_takeDeferred hK2, ?_⟩⟩
      have c4 := (KCp.put (p := fun _ => True) _ D _ (.deferred none) hK2 rfl).cell trivial k4
      have c5 := (KCp.put (p := fun _ => True) _ D _ (.deferred none) hK2 rfl).cell trivial k5
      refine ⟨.tuple #[.bool false, .int .i64 0], results_cc rfl rfl rfl ?_ ?_, ?_, Nw.of_below (hB2.trans (belowK_b (w := w) (Nat.le_refl _) _ D _ _ (by omega) hK2 rfl rfl))⟩
      · simp [go_sem, c4]
      · simp [go_sem, c5]
      · rw [← HMS.out.1, HMS.out.2.2, HANY.out, ← HRF.out]; rfl
    | true =>
      go_wp2_with fail
      refine HINS.out.mono ?_
      rintro e Wc ⟨rfl, hn⟩
      have hkc := HK1.out.trans (KCp.nw hn)
      have hKc : Wc.heap[D]? = some (.deferred (some [])) := (hn.grown.block D (Array.getElem?_eq_some_iff.1 hKx).1 (by simp)).trans hKx
      have HBc := Lib.hid (HBX.out.trans (hn.below.mono (by have := HBX.out.size; omega)))
      clear x0 x1 x2 b4 b5 r0 r1 r2 r3 z4 z5 f0
      have x0 := hkc.cell trivial x09
      have x1 := hkc.cell trivial x19
      have x2 := hkc.cell trivial x29
      have b4 := hkc.cell trivial b49
      have b5 := hkc.cell trivial b59
      have r0 := hkc.cell trivial r09
      have r1 := hkc.cell trivial r19
      have r2 := hkc.cell trivial r29
      have r3 := hkc.cell trivial r39
      have z4 := (hkc.frozen trivial b49).trans z49
      have z5 := (hkc.frozen trivial b59).trans z59
      have f0 := hkc.cell trivial f9
      haveI : In W8.heap.size Wc := ⟨World.block_lt_of_cell? Wc _ f0⟩
      haveI : In (w.heap.size + 1 + 1 + 1) Wc := ⟨World.block_lt_of_cell? Wc _ x0⟩
      haveI : In (w.heap.size + 1 + 1 + 1 + 1) Wc := ⟨World.block_lt_of_cell? Wc _ b4⟩
      haveI : In (w.heap.size + 1 + 1 + 1 + 1 + 1) Wc := ⟨World.block_lt_of_cell? Wc _ b5⟩
      haveI : In (w.heap.size + 1 + 1 + 1 + 1 + 1 + 1) Wc := ⟨World.block_lt_of_cell? Wc _ r0⟩
      have HKC := Lib.hid hkc
      clear hkc hn
      cases ib with
      | false =>
        go_wp2
        obtain ⟨Wx, hWx⟩ : ∃ q, q = Wc := ⟨_, rfl⟩
        rw [← hWx] at hKc b4 b5 HBc ⊢
        have HBX := HBc
        have hKx := hKc
        have hK2 : ((Wx.setCell ⟨w.heap.size + 1 + 1 + 1 + 1, 0, none⟩ (.bool false)).setCell ⟨w.heap.size + 1 + 1 + 1 + 1 + 1, 0, none⟩ (.int .i64 0)).heap[D]? = some (.deferred (some [])) := by
          have h1 := (Chg.set1 Wx (w.heap.size + 1 + 1 + 1 + 1) 0 (.bool false)).block D (by have := (Array.getElem?_eq_some_iff.1 hKx).1; exact this) (by simp; omega)
          have h2 := (Chg.set1 (Wx.setCell ⟨w.heap.size + 1 + 1 + 1 + 1, 0, none⟩ (.bool false)) (w.heap.size + 1 + 1 + 1 + 1 + 1) 0 (.int .i64 0)).block D (by have := (Array.getElem?_eq_some_iff.1 hKx).1; simpa using this) (by simp; omega)
          rw [h2, h1]; exact hKx
        have k4 : ((Wx.setCell ⟨w.heap.size + 1 + 1 + 1 + 1, 0, none⟩ (.bool false)).setCell ⟨w.heap.size + 1 + 1 + 1 + 1 + 1, 0, none⟩ (.int .i64 0)).cell? ⟨w.heap.size + 1 + 1 + 1 + 1, 0, none⟩ = some (.bool false) := by simp [go_sem, b4]
        have k5 : ((Wx.setCell ⟨w.heap.size + 1 + 1 + 1 + 1, 0, none⟩ (.bool false)).setCell ⟨w.heap.size + 1 + 1 + 1 + 1 + 1, 0, none⟩ (.int .i64 0)).cell? ⟨w.heap.size + 1 + 1 + 1 + 1 + 1, 0, none⟩ = some (.int .i64 0) := by simp [go_sem, b5]
        have hB2 : Below w.heap.size w ((Wx.setCell ⟨w.heap.size + 1 + 1 + 1 + 1, 0, none⟩ (.bool false)).setCell ⟨w.heap.size + 1 + 1 + 1 + 1 + 1, 0, none⟩ (.int .i64 0)) := (HBX.out.setCell (p := ⟨w.heap.size + 1 + 1 + 1 + 1, 0, none⟩) (by show w.heap.size ≤ w.heap.size + 1 + 1 + 1 + 1; omega) _).setCell (p := ⟨w.heap.size + 1 + 1 + 1 + 1 + 1, 0, none⟩) (by show w.heap.size ≤ w.heap.size + 1 + 1 + 1 + 1 + 1; omega) _
        refine ⟨by simp, .inl ⟨_, _, rfl, run_takeDeferred hK2, ?_⟩⟩
        have c4 := (KCp.put (p := fun _ => True) _ D _ (.deferred none) hK2 rfl).cell trivial k4
        have c5 := (KCp.put (p := fun _ => True) _ D _ (.deferred none) hK2 rfl).cell trivial k5
        refine ⟨.tuple #[.bool false, .int .i64 0], results_cc rfl rfl rfl ?_ ?_, ?_, Nw.of_below (hB2.trans (belowK_b (w := w) (Nat.le_refl _) _ D _ _ (by omega) hK2 rfl rfl))⟩
        · simp [go_sem, c4]
        · simp [go_sem, c5]
        · rw [← HMS.out.1, HMS.out.2.2, HANY.out, ← HRF.out, ← HIB.out]; rfl
      | true =>
        have HRWc := Lib.hid (HRW9.out.kcp HKC.out)
        have hcc := ccMC_any Am lm cm ⟨w.heap.size + 1 + 1 + 1 + 1 + 1 + 1, 0, none⟩ (p0 :: r) zs (fun m => decide ((nx.rk, nx.rv) ∈ m)) Wc HRWc.out.rd ⟨by have h1 := HRWc.out.rd.1; have h2 := HRWc.out.len_; rw [h2]; omega, fun z hz => by
            obtain ⟨i, hi⟩ := List.mem_iff_getElem?.1 hz
            have hil : i < (p0 :: r).length := by have h1 := HRWc.out.rd.1; have h2 := HRWc.out.len_; have h3 := (List.getElem?_eq_some_iff.1 hi).1; rw [h2]; omega
            obtain ⟨Az, nz, cz, h1, -⟩ := HRWc.out.el i z _ hi (List.getElem?_eq_getElem hil)
            exact ⟨Az, nz, cz, h1⟩⟩ (by have := HRWc.out.l2; omega) (fun i m z hm hz W' hW' => by
            obtain ⟨Az, nz, cz, rfl, h2, h3, -⟩ := HRWc.out.el i z m hz hm
            exact keeps2_any nx (w.heap.size + 1 + 1 + 1 + 1 + 1 + 1) Az nz cz m W' (h2.nw hW') (by omega) (cell_nw r2 hW') (cell_nw r3 hW'))
        obtain ⟨ab, hab⟩ : ∃ q, q = (p0 :: r).any (fun m => decide ((nx.rk, nx.rv) ∈ m)) := ⟨_, rfl⟩
        rw [← hab] at hcc
        have HCC := Lib.hid hcc
        have HAB := Lib.hid hab
        clear hcc hab
        go_wp2_with fail
        refine HCC.out.mono ?_
        rintro e Wx ⟨rfl, hnx⟩
        have hKx2 : Wx.heap[D]? = some (.deferred (some [])) := (hnx.grown.block D (Array.getElem?_eq_some_iff.1 hKc).1 (by simp)).trans hKc
        have hkx := HKC.out.trans (KCp.nw hnx)
        have HBX2 := Lib.hid (HBc.out.trans (hnx.below.mono (by have := HBc.out.size; omega)))
        clear x0 x1 x2 b4 b5 r0 r1 r2 r3 z4 z5 f0
        have x0 := hkx.cell trivial x09
        have x1 := hkx.cell trivial x19
        have x2 := hkx.cell trivial x29
        have b4 := hkx.cell trivial b49
        have b5 := hkx.cell trivial b59
        have r0 := hkx.cell trivial r09
        have r1 := hkx.cell trivial r19
        have r2 := hkx.cell trivial r29
        have r3 := hkx.cell trivial r39
        have z4 := (hkx.frozen trivial b49).trans z49
        have z5 := (hkx.frozen trivial b59).trans z59
        have f0 := hkx.cell trivial f9
        haveI : In W8.heap.size Wx := ⟨World.block_lt_of_cell? Wx _ f0⟩
        haveI : In (w.heap.size + 1 + 1 + 1) Wx := ⟨World.block_lt_of_cell? Wx _ x0⟩
        haveI : In (w.heap.size + 1 + 1 + 1 + 1) Wx := ⟨World.block_lt_of_cell? Wx _ b4⟩
        haveI : In (w.heap.size + 1 + 1 + 1 + 1 + 1) Wx := ⟨World.block_lt_of_cell? Wx _ b5⟩
        haveI : In (w.heap.size + 1 + 1 + 1 + 1 + 1 + 1) Wx := ⟨World.block_lt_of_cell? Wx _ r0⟩
        clear hkx hnx
        have HBX := HBX2
        have hKx := hKx2
        go_wp2
        have hK2 : ((Wx.setCell ⟨w.heap.size + 1 + 1 + 1 + 1, 0, none⟩ (.bool ab)).setCell ⟨w.heap.size + 1 + 1 + 1 + 1 + 1, 0, none⟩ (.int .i64 0)).heap[D]? = some (.deferred (some [])) := by
          have h1 := (Chg.set1 Wx (w.heap.size + 1 + 1 + 1 + 1) 0 (.bool ab)).block D (by have := (Array.getElem?_eq_some_iff.1 hKx).1; exact this) (by simp; omega)
          have h2 := (Chg.set1 (Wx.setCell ⟨w.heap.size + 1 + 1 + 1 + 1, 0, none⟩ (.bool ab)) (w.heap.size + 1 + 1 + 1 + 1 + 1) 0 (.int .i64 0)).block D (by have := (Array.getElem?_eq_some_iff.1 hKx).1; simpa using this) (by simp; omega)
          rw [h2, h1]; exact hKx
        have k4 : ((Wx.setCell ⟨w.heap.size + 1 + 1 + 1 + 1, 0, none⟩ (.bool ab)).setCell ⟨w.heap.size + 1 + 1 + 1 + 1 + 1, 0, none⟩ (.int .i64 0)).cell? ⟨w.heap.size + 1 + 1 + 1 + 1, 0, none⟩ = some (.bool ab) := by simp [go_sem, b4]
        have k5 : ((Wx.setCell ⟨w.heap.size + 1 + 1 + 1 + 1, 0, none⟩ (.bool ab)).setCell ⟨w.heap.size + 1 + 1 + 1 + 1 + 1, 0, none⟩ (.int .i64 0)).cell? ⟨w.heap.size + 1 + 1 + 1 + 1 + 1, 0, none⟩ = some (.int .i64 0) := by simp [go_sem, b5]
        have hB2 : Below w.heap.size w ((Wx.setCell ⟨w.heap.size + 1 + 1 + 1 + 1, 0, none⟩ (.bool ab)).setCell ⟨w.heap.size + 1 + 1 + 1 + 1 + 1, 0, none⟩ (.int .i64 0)) := (HBX.out.setCell (p := ⟨w.heap.size + 1 + 1 + 1 + 1, 0, none⟩) (by show w.heap.size ≤ w.heap.size + 1 + 1 + 1 + 1; omega) _).setCell (p := ⟨w.heap.size + 1 + 1 + 1 + 1 + 1, 0, none⟩) (by show w.heap.size ≤ w.heap.size + 1 + 1 + 1 + 1 + 1; omega) _
        refine ⟨by simp, .inl ⟨_, _, rfl, run_takeDeferred hK2, ?_⟩⟩
        have c4 := (KCp.put (p := fun _ => True) _ D _ (.deferred none) hK2 rfl).cell trivial k4
        have c5 := (KCp.put (p := fun _ => True) _ D _ (.deferred none) hK2 rfl).cell trivial k5
        refine ⟨.tuple #[.bool ab, .int .i64 0], results_cc rfl rfl rfl ?_ ?_, ?_, Nw.of_below (hB2.trans (belowK_b (w := w) (Nat.le_refl _) _ D _ _ (by omega) hK2 rfl rfl))⟩
        · simp [go_sem, c4]
        · simp [go_sem, c5]
        · rw [← HMS.out.1, HMS.out.2.2, HANY.out, ← HRF.out, ← HIB.out, ← HAB.out]; rfl
  case stop =>
    rintro D cd pre W hD hpre ⟨rfl, ⟨pre', z, rfl, hz⟩, ⟨k4, k5⟩, hB⟩ hKx
    have hany : (alwM (p0 :: r)).any (vioB nx x) = true := by
      obtain ⟨suf, hs⟩ := hpre
      rw [← hs]
      simp [hz]
    have HANY := Lib.hid hany
    have HBX := Lib.hid hB
    have hDD : w.heap.size + 9 ≤ D := by have := HSZ9.out; omega
    clear hpre hz hany hB
    gi_wp2
    refine ⟨by simp, .inl ⟨_, _, rfl, run_takeDeferred hKx, ?_⟩⟩
    have c4 := (KCp.put (p := fun _ => True) _ D _ (.deferred none) hKx rfl).cell trivial k4
    have c5 := (KCp.put (p := fun _ => True) _ D _ (.deferred none) hKx rfl).cell trivial k5
    refine ⟨.tuple #[.bool false, .int .i64 0], results_cc rfl rfl rfl ?_ ?_, ?_, Nw.of_below (HBX.out.trans (belowK_b (w := w) (Nat.le_refl _) _ D _ _ (by omega) hKx rfl rfl))⟩
    · simp [go_sem, c4]
    · simp [go_sem, c5]
    · rw [← HMS.out.1, HMS.out.2.2, HANY.out]; rfl
theorem keeps_any {w : World} {c : Cf} {cuts : List Nat} {A : Option Addr} {n cap : Nat} {l : List Cl} (hi : In3 w c cuts A n cap l) {o2 : List Sta} (hX : wX c cuts l = .ok o2) (op nx : Cl) (x : Lf) (hfr : -1 ≤ op.took) :
    Calls Tryz.prog 23 #[confV c, cv op, cv nx, lfv x, .slice A n cap] w (KpP w (keepM (mapsA c cuts l) (tksL l) op.took nx x)) := by
  by_cases h0 : nx.re = 0
  · have h := keeps0_any hi hX op nx x hfr h0
    have e : keepM (mapsA c cuts l) (tksL l) op.took nx x = (!((alwM (durM (mapsA c cuts l) (tksL l) op.took nx.took)).any (vioB nx x)) && (nx.rf && (insB x nx.rk && (durM (mapsA c cuts l) (tksL l) op.took nx.took).any fun p => decide ((nx.rk, nx.rv) ∈ p)))) := by
      unfold keepM
      rw [if_neg (by omega)]
      show (if (alwM (durM (mapsA c cuts l) (tksL l) op.took nx.took)).any (vioB nx x) = true then false else _) = _
      cases (alwM (durM (mapsA c cuts l) (tksL l) op.took nx.took)).any (vioB nx x) with
      | true => rfl
      | false =>
        rw [if_neg (by simp), if_neg (by omega)]
        cases nx.rf <;> cases insB x nx.rk <;> simp
    rw [e]; exact h
  · by_cases h14 : nx.re = 14
    · have h := keeps14_any hi hX op nx x hfr h14
      have e : keepM (mapsA c cuts l) (tksL l) op.took nx x = !((alwM (durM (mapsA c cuts l) (tksL l) op.took nx.took)).any (vioB nx x)) := by
        unfold keepM
        rw [if_neg (by omega)]
        show (if (alwM (durM (mapsA c cuts l) (tksL l) op.took nx.took)).any (vioB nx x) = true then false else _) = _
        cases (alwM (durM (mapsA c cuts l) (tksL l) op.took nx.took)).any (vioB nx x) with
        | true => rfl
        | false => rw [if_neg (by simp), if_pos h14]; rfl
      rw [e]; exact h
    · have e : keepM (mapsA c cuts l) (tksL l) op.took nx x = true := by unfold keepM; rw [if_pos ⟨h0, h14⟩]
      rw [e]; exact keepsA_any c A n cap op nx x w h0 h14
end Go.Proofs.YtkikdpdainmlcaaGreat
