import Derived.Test.YtahagplegmcaaaaDoorGTg
import Derived.Deep.DeepCutAuto
set_option linter.unusedVariables false
set_option linter.unusedSimpArgs false
set_option linter.unnecessarySimpa false
namespace Go.Proofs.YtahagplegmcaaaaDoor
open Go.RowKit Go.Xt
/-! The law ModelCommutes. -/
theorem idxI_in (t : Int) : 0 ≤ idxI t ∧ idxI t < 3 := by
  unfold idxI
  have h1 := Int.tmod_lt_of_pos t (by decide : (0 : Int) < 3)
  have h2 := Int.lt_tmod_of_pos t (by decide : (0 : Int) < 3)
  have h3 := Int.tmod_lt_of_pos (Int.tmod t 3 + 3) (by decide : (0 : Int) < 3)
  have h4 : 0 ≤ Int.tmod (Int.tmod t 3 + 3) 3 := Int.tmod_nonneg _ (by omega)
  exact ⟨h4, h3⟩
theorem comm_M {m : Md} (hl : m.th.length = 3) {s t : Int} (hs : 0 ≤ s ∧ s < 3) (ht : 0 ≤ t ∧ t < 3) (hst : s ≠ t) {o q : Ox} (ho : quietK o.k = true) (hq : quietK q.k = true) :
    ∃ rx ry m1 m3 m2, doM m s o = (rx, m1) ∧ doM m1 t q = (ry, m2) ∧ doM m t q = (ry, m3) ∧ doM m3 s o = (rx, m2) := by
  obtain ⟨s, rfl⟩ : ∃ n : Nat, s = n := ⟨s.toNat, by omega⟩
  obtain ⟨t, rfl⟩ : ∃ n : Nat, t = n := ⟨t.toNat, by omega⟩
  obtain ⟨x, hx⟩ : ∃ x, m.th[s]? = some x := ⟨_, List.getElem?_eq_getElem (by omega)⟩
  obtain ⟨y, hy⟩ : ∃ y, m.th[t]? = some y := ⟨_, List.getElem?_eq_getElem (by omega)⟩
  obtain ⟨h1, h2, h3⟩ := quiet_comm (m := m) (by omega : s ≠ t) hx hy ho hq
  refine ⟨(doM m s o).1, (doM m t q).1, (doM m s o).2, (doM m t q).2, (doM (doM m s o).2 t q).2, rfl, ?_, rfl, ?_⟩
  · rw [← h1]
  · rw [← h2, h3]
section
variable {w W W' : World} {N : Nat} {ms : List (Nat × Md)} {K : List (Nat × Obj)}
theorem Lw.base {w0 : World} (h : Lw W N ms K W') (hn : Nw w0 W) : Lw w0 N ms K W' := by
  obtain ⟨h0, ps, hl, hA, hD, hK⟩ := h
  exact ⟨hn.trans h0, ps, hl, fun i p m hp hm => by
    obtain ⟨a, b, c, d, e, f⟩ := hA i p m hp hm
    exact ⟨a, b, c, d, e, fun g hg => Nat.le_trans hn.grown.size (f g hg)⟩, hD, hK⟩
theorem Lw.made (h : Lw w N ms K W) (o : Obj) : Lw w N ms ((W.heap.size, o) :: K) (W.alloc o) := h.keep ((Nw.refl W).alloc o) (heap_alloc_new W o) (Nat.le_refl _)
theorem Lw.made2 (h : Lw w N ms K W) (o o' : Obj) : Lw w N ms ((W.heap.size + 1, o') :: (W.heap.size, o) :: K) ((W.alloc o).alloc o') := by
  have := (h.made o).made o'
  rwa [show (W.alloc o).heap.size = W.heap.size + 1 by simp] at this
theorem Lw.drew (h : Lw w N ms K W) : Lw w N ms K W.drew := h.grow ((Nw.refl W).drew)
theorem Chg.setIn {X : List Nat} {a b : World} (h : Chg X a b) {g o : Nat} (hg : g ∈ X) (v : Value) : Chg X a (b.setCell ⟨g, o, none⟩ v) := h.trans ((Chg.set1 b g o v).wide (by simpa using hg))
theorem Chg.al {X : List Nat} {a b : World} (h : Chg X a b) (o : Obj) : Chg X a (b.alloc o) := h.trans (Chg.of_nw ((Nw.refl b).alloc o))
theorem Chg.dr {X : List Nat} {a b : World} (h : Chg X a b) : Chg X a b.drew := h.trans (Chg.of_nw ((Nw.refl b).drew))
/-- Blocks that no model touches are kept as they are now. -/
theorem Lw.free (h : Lw w N ms K W) {X : List Nat} (hc : Chg X W W') (hX : ∀ x ∈ X, w.heap.size ≤ x ∧ (W.heap.size ≤ x ∨ ∃ o, (x, o) ∈ K)) (B : List Nat) (hB : ∀ b ∈ B, b < W'.heap.size ∧ (W.heap.size ≤ b ∨ ∃ o, (b, o) ∈ K)) :
    ∃ f : Nat → Obj, Lw w N ms (B.map fun b => (b, f b)) W' := by
  obtain ⟨h0, ps, hl, hA, hD, hK⟩ := h
  have hfr : ∀ b, (W.heap.size ≤ b ∨ ∃ o, (b, o) ∈ K) → ∀ p ∈ ps, b ∉ p.foot := fun b hb p hp hg => by
    rcases hb with h1 | ⟨o, h1⟩
    · have := Lw.low hl hA hp hg; omega
    · exact (hK _ h1).2 p hp hg
  refine ⟨fun b => (W'.heap[b]?).getD (.cells #[] 0), nw_chg2 h0 hc (fun k hk => (hX k hk).1), ps, hl, fun i p m hp hm => ?_, hD, fun x hx => ?_⟩
  · obtain ⟨a, b2, c, d, e, f⟩ := hA i p m hp hm
    exact ⟨a, b2.chg hc (fun g hg hgX => hfr g (hX g hgX).2 p (List.mem_of_getElem? hp) hg), c, d, e, f⟩
  · obtain ⟨b, hb, rfl⟩ := List.mem_map.1 hx
    have h1 := hB b hb
    exact ⟨by simp only [Array.getElem?_eq_getElem h1.1]; rfl, hfr b h1.2⟩
theorem Lw.kept (h : Lw w N ms K W) {N' : Nat} {ms' : List (Nat × Md)} {K' : List (Nat × Obj)} (h' : Lw w N' ms' K' W') {b : Nat} {o : Obj} (h1 : (b, o) ∈ K) (h2 : (b, o) ∈ K') (i : Nat) : W'.cell? ⟨b, i, none⟩ = W.cell? ⟨b, i, none⟩ :=
  World.cell?_of_block ((h'.block h2).trans (h.block h1).symm)
theorem Lw.c0 {b : Nat} {c : Array Value} {T : TypeId} (h : Lw w N ms ((b, .cells c T) :: K) W) : (∀ i, W.cell? ⟨b, i, none⟩ = c[i]?) ∧ (∀ i, W.frozen? ⟨b, i, none⟩ = false) ∧ In b W :=
  ⟨fun i => h.cell (List.mem_cons_self ..) i, fun i => Lib.frozen_of_heap (h.block (List.mem_cons_self ..)) i, ⟨(Array.getElem?_eq_some_iff.1 (h.block (List.mem_cons_self ..))).1⟩⟩
theorem Lw.c1 {x : Nat × Obj} {b : Nat} {c : Array Value} {T : TypeId} (h : Lw w N ms (x :: (b, .cells c T) :: K) W) : (∀ i, W.cell? ⟨b, i, none⟩ = c[i]?) ∧ (∀ i, W.frozen? ⟨b, i, none⟩ = false) ∧ In b W :=
  Lw.c0 (K := K) (h.less (fun y hy => List.mem_cons_of_mem _ hy))
end
theorem nw_setB {w a : World} (h : Nw w a) {b o : Nat} (hb : w.heap.size ≤ b) (v : Value) : Nw w (a.setCell ⟨b, o, none⟩ v) := h.setCell (p := ⟨b, o, none⟩) hb v
theorem le_size1 (w : World) (r : Option Nat) (d : World) : w.heap.size ≤ (w.ext r d).heap.size + 1 := Nat.le_succ_of_le (le_size w r d)
/-- A result in memory. -/
def At5 (W : World) (g : Nat) (r : Rs) : Prop := W.cell? ⟨g, 0, none⟩ = some (.int .i64 r.err) ∧ W.cell? ⟨g, 1, none⟩ = some (.bool r.fd) ∧ W.cell? ⟨g, 2, none⟩ = some (.int .u64 r.key) ∧ W.cell? ⟨g, 3, none⟩ = some (.int .u64 r.val) ∧ W.cell? ⟨g, 4, none⟩ = some (.int .i64 r.cnt)
theorem At5.lt {W : World} {g : Nat} {r : Rs} (h : At5 W g r) : g < W.heap.size := World.block_lt_of_cell? W _ h.1
/-- Two results in memory beside models. -/
def Two (w : World) (N : Nat) (ms : List (Nat × Md)) (ga gb : Nat) (rx ry : Rs) (W : World) : Prop := (∃ f : Nat → Obj, Lw w N ms [(ga, f ga), (gb, f gb)] W) ∧ At5 W ga rx ∧ At5 W gb ry ∧ w.heap.size ≤ ga ∧ w.heap.size ≤ gb
set_option maxRecDepth 20000 in
set_option maxHeartbeats 16000000 in
theorem commutes_M (A : Option Addr) (n c : Nat) (ds : List Dd) (x y : Dd) (w : World) (hr : Rd w 15 A n (dcells ds)) (hw : ∀ d ∈ ds, d.o.Wf) (hx : x.o.Wf) (hy : y.o.Wf) (HF : FmtAt w) :
    Calls Tryd.prog 3 #[.slice A n c, .agg #[.int .i64 x.t, .int .u8 x.o.k, .int .u64 x.o.key, .int .u64 x.o.hi, .int .u64 x.o.val, .int .u64 x.o.old, .int .u64 x.o.by_, .int .u64 x.o.draw, .bool x.j, .int .u8 x.by_, .int .i64 x.r.err, .bool x.r.fd, .int .u64 x.r.key, .int .u64 x.r.val, .int .i64 x.r.cnt], .agg #[.int .i64 y.t, .int .u8 y.o.k, .int .u64 y.o.key, .int .u64 y.o.hi, .int .u64 y.o.val, .int .u64 y.o.old, .int .u64 y.o.by_, .int .u64 y.o.draw, .bool y.j, .int .u8 y.by_, .int .i64 y.r.err, .bool y.r.fd, .int .u64 y.r.key, .int .u64 y.r.val, .int .i64 y.r.cnt]] w fun e w' => e = .returned (.bool true) ∧ Nw w w' := by
  have HKN := Lib.hid (fun W => known_M W)
  obtain ⟨xt, ⟨xk, xa, xb, xc, xd, xe, xf⟩, xj, xB, ⟨xe1, xf1, xk1, xv1, xc1⟩⟩ := x
  obtain ⟨yt, ⟨yk, ya, yb, yc, yd, ye, yf⟩, yj, yB, ⟨ye1, yf1, yk1, yv1, yc1⟩⟩ := y
  simp only at hx hy ⊢
  obtain ⟨w1, hw1⟩ : ∃ w1, w1 = (w.alloc (.cells #[.int .i64 xt, .int .u8 xk, .int .u64 xa, .int .u64 xb, .int .u64 xc, .int .u64 xd, .int .u64 xe, .int .u64 xf, .bool xj, .int .u8 xB, .int .i64 xe1, .bool xf1, .int .u64 xk1, .int .u64 xv1, .int .i64 xc1] 30)).alloc (.cells #[.int .i64 yt, .int .u8 yk, .int .u64 ya, .int .u64 yb, .int .u64 yc, .int .u64 yd, .int .u64 ye, .int .u64 yf, .bool yj, .int .u8 yB, .int .i64 ye1, .bool yf1, .int .u64 yk1, .int .u64 yv1, .int .i64 yc1] 30) := ⟨_, rfl⟩
  obtain ⟨q, hq⟩ : ∃ q, q = w.heap.size := ⟨_, rfl⟩
  have hn1 : Nw w w1 := by rw [hw1]; exact ((Nw.refl w).alloc _).alloc _
  have hb : w1.heap[q]? = some (.cells #[.int .i64 xt, .int .u8 xk, .int .u64 xa, .int .u64 xb, .int .u64 xc, .int .u64 xd, .int .u64 xe, .int .u64 xf, .bool xj, .int .u8 xB, .int .i64 xe1, .bool xf1, .int .u64 xk1, .int .u64 xv1, .int .i64 xc1] 30) := by rw [hw1, hq, Lib.alloc_old _ _ _ (by simp)]; exact heap_alloc_new _ _
  have hb' : w1.heap[q + 1]? = some (.cells #[.int .i64 yt, .int .u8 yk, .int .u64 ya, .int .u64 yb, .int .u64 yc, .int .u64 yd, .int .u64 ye, .int .u64 yf, .bool yj, .int .u8 yB, .int .i64 ye1, .bool yf1, .int .u64 yk1, .int .u64 yv1, .int .i64 yc1] 30) := by
    rw [hw1, hq, show w.heap.size + 1 = (w.alloc (.cells #[.int .i64 xt, .int .u8 xk, .int .u64 xa, .int .u64 xb, .int .u64 xc, .int .u64 xd, .int .u64 xe, .int .u64 xf, .bool xj, .int .u8 xB, .int .i64 xe1, .bool xf1, .int .u64 xk1, .int .u64 xv1, .int .i64 xc1] 30)).heap.size by simp]
    exact heap_alloc_new _ _
  have b0 : w1.cell? ⟨q, 0, none⟩ = some (.int .i64 xt) := by rw [Lib.cell_of_heap hb]; rfl
  have b1 : w1.cell? ⟨q, 1, none⟩ = some (.int .u8 xk) := by rw [Lib.cell_of_heap hb]; rfl
  have b2 : w1.cell? ⟨q, 2, none⟩ = some (.int .u64 xa) := by rw [Lib.cell_of_heap hb]; rfl
  have b3 : w1.cell? ⟨q, 3, none⟩ = some (.int .u64 xb) := by rw [Lib.cell_of_heap hb]; rfl
  have b4 : w1.cell? ⟨q, 4, none⟩ = some (.int .u64 xc) := by rw [Lib.cell_of_heap hb]; rfl
  have b5 : w1.cell? ⟨q, 5, none⟩ = some (.int .u64 xd) := by rw [Lib.cell_of_heap hb]; rfl
  have b6 : w1.cell? ⟨q, 6, none⟩ = some (.int .u64 xe) := by rw [Lib.cell_of_heap hb]; rfl
  have b7 : w1.cell? ⟨q, 7, none⟩ = some (.int .u64 xf) := by rw [Lib.cell_of_heap hb]; rfl
  have c0 : w1.cell? ⟨q + 1, 0, none⟩ = some (.int .i64 yt) := by rw [Lib.cell_of_heap hb']; rfl
  have c1 : w1.cell? ⟨q + 1, 1, none⟩ = some (.int .u8 yk) := by rw [Lib.cell_of_heap hb']; rfl
  have c2 : w1.cell? ⟨q + 1, 2, none⟩ = some (.int .u64 ya) := by rw [Lib.cell_of_heap hb']; rfl
  have c3 : w1.cell? ⟨q + 1, 3, none⟩ = some (.int .u64 yb) := by rw [Lib.cell_of_heap hb']; rfl
  have c4 : w1.cell? ⟨q + 1, 4, none⟩ = some (.int .u64 yc) := by rw [Lib.cell_of_heap hb']; rfl
  have c5 : w1.cell? ⟨q + 1, 5, none⟩ = some (.int .u64 yd) := by rw [Lib.cell_of_heap hb']; rfl
  have c6 : w1.cell? ⟨q + 1, 6, none⟩ = some (.int .u64 ye) := by rw [Lib.cell_of_heap hb']; rfl
  have c7 : w1.cell? ⟨q + 1, 7, none⟩ = some (.int .u64 yf) := by rw [Lib.cell_of_heap hb']; rfl
  haveI : In q w1 := ⟨World.block_lt_of_cell? w1 _ b0⟩
  haveI : In (q + 1) w1 := ⟨World.block_lt_of_cell? w1 _ c0⟩
  have HI1 := Lib.hid (fun W => index_any xt W)
  have HI2 := Lib.hid (fun W => index_any yt W)
  obtain ⟨s, hs⟩ : ∃ z, z = idxI xt := ⟨_, rfl⟩
  obtain ⟨t, ht⟩ : ∃ z, z = idxI yt := ⟨_, rfl⟩
  rw [← hs] at HI1
  rw [← ht] at HI2
  have HQX := Lib.hid (fun W => quiet_any xk W)
  have HQY := Lib.hid (fun W => quiet_any yk W)
  have HPL := Lib.hid (fun (hn : n ≤ 80) W (hW : Nw w1 W) => played_L A n c ds W ((hr.nw hn1).nw hW) hn hw)
  have HFM := Lib.hid (HF.nw hn1)
  have HX := Lib.hid hx
  have HY := Lib.hid hy
  have HS := Lib.hid hs
  have HT := Lib.hid ht
  have HW1 := Lib.hid hw1
  have HQ := Lib.hid hq
  have HNW := Lib.hid hn1
  clear hr hw hx hy HF hb hb' hw1 hq hn1 hs ht
  by_cases hok : n ≤ 80 ∧ s ≠ t ∧ quietK xk = true ∧ quietK yk = true
  case neg =>
    have hno : (decide ((80 : Int) < (n : Int)) = true) ∨ (decide ((80 : Int) < (n : Int)) = false ∧ (s == t) = true) ∨ (decide ((80 : Int) < (n : Int)) = false ∧ (s == t) = false ∧ quietK xk = false) ∨ (decide ((80 : Int) < (n : Int)) = false ∧ (s == t) = false ∧ quietK xk = true ∧ quietK yk = false) := by
      by_cases h1 : n ≤ 80
      · have d1 : decide ((80 : Int) < (n : Int)) = false := by simp; omega
        by_cases h2 : s = t
        · exact .inr (.inl ⟨d1, by simpa using h2⟩)
        have d2 : (s == t) = false := by simpa using h2
        cases h3 : quietK xk with
        | false => exact .inr (.inr (.inl ⟨d1, d2, rfl⟩))
        | true =>
          cases h4 : quietK yk with
          | false => exact .inr (.inr (.inr ⟨d1, d2, rfl, rfl⟩))
          | true => exact absurd ⟨h1, h2, h3, h4⟩ hok
      · exact .inl (by simp; omega)
    clear hok
    rcases hno with d1 | ⟨d1, d2⟩ | ⟨d1, d2, d3⟩ | ⟨d1, d2, d3, d4⟩
    · clear HQX HQY
      go_enter Tryd.func3, Tryd.ntmps3
      go_upto_region 1 with (fail)
      rw [← HW1.out, ← HQ.out]
      (refine wp_region_nw (by kernel_rfl) (by kernel_rfl) ?_; (repeat (go_big_quiet_step (first | (go_at_call 4; exact quiet_of (HI1.out _)) | (go_at_call 4; exact quiet_of (HI2.out _))))); refine wpQuiet_nil ?_; intro _ hreg; obtain ⟨dW, rfl⟩ : Nw _ _ := hreg)
      go_wp2_with (go_at_call 6; refine (HKN.out _).mono ?_; rintro e w' ⟨rfl, dW, rfl⟩)
      go_ret
      exact ⟨rfl, HNW.out.trans ((by repeat (first | exact Xt.Nw.refl _ | refine Xt.Nw.drew ?_ | refine Xt.Nw.drewN ?_ _ | refine Xt.Nw.alloc ?_ _ | refine Xt.Nw.joined ?_ | refine Xt.Nw.drewd ?_ | refine Xt.Nw.drewdN ?_ | refine Xt.Nw.ext ?_ | refine Xt.Nw.ext_some ?_ (by assumption) | refine Xt.Nw.setCell ?_ (by simp [go_sem] <;> omega) _)))⟩
    · clear HQX HQY
      go_enter Tryd.func3, Tryd.ntmps3
      go_upto_region 1 with (fail)
      rw [← HW1.out, ← HQ.out]
      (refine wp_region_nw (by kernel_rfl) (by kernel_rfl) ?_; (repeat (go_big_quiet_step (first | (go_at_call 4; exact quiet_of (HI1.out _)) | (go_at_call 4; exact quiet_of (HI2.out _))))); refine wpQuiet_nil ?_; intro _ hreg; obtain ⟨dW, rfl⟩ : Nw _ _ := hreg)
      go_wp2_with (go_at_call 6; refine (HKN.out _).mono ?_; rintro e w' ⟨rfl, dW, rfl⟩)
      go_ret
      exact ⟨rfl, HNW.out.trans ((by repeat (first | exact Xt.Nw.refl _ | refine Xt.Nw.drew ?_ | refine Xt.Nw.drewN ?_ _ | refine Xt.Nw.alloc ?_ _ | refine Xt.Nw.joined ?_ | refine Xt.Nw.drewd ?_ | refine Xt.Nw.drewdN ?_ | refine Xt.Nw.ext ?_ | refine Xt.Nw.ext_some ?_ (by assumption) | refine Xt.Nw.setCell ?_ (by simp [go_sem] <;> omega) _)))⟩
    · rw [d3] at HQX
      clear HQY d3
      go_enter Tryd.func3, Tryd.ntmps3
      go_upto_region 1 with (fail)
      rw [← HW1.out, ← HQ.out]
      (refine wp_region_nw (by kernel_rfl) (by kernel_rfl) ?_; (repeat (go_big_quiet_step (first | (go_at_call 4; exact quiet_of (HI1.out _)) | (go_at_call 4; exact quiet_of (HI2.out _))))); refine wpQuiet_nil ?_; intro _ hreg; obtain ⟨dW, rfl⟩ : Nw _ _ := hreg)
      go_wp2_with fail
      refine (HQX.out _).mono ?_
      rintro e W2 ⟨rfl, d2, rfl⟩
      go_wp2_with (go_at_call 6; refine (HKN.out _).mono ?_; rintro e w' ⟨rfl, dW, rfl⟩)
      go_ret
      exact ⟨rfl, HNW.out.trans ((by repeat (first | exact Xt.Nw.refl _ | refine Xt.Nw.drew ?_ | refine Xt.Nw.drewN ?_ _ | refine Xt.Nw.alloc ?_ _ | refine Xt.Nw.joined ?_ | refine Xt.Nw.drewd ?_ | refine Xt.Nw.drewdN ?_ | refine Xt.Nw.ext ?_ | refine Xt.Nw.ext_some ?_ (by assumption) | refine Xt.Nw.setCell ?_ (by simp [go_sem] <;> omega) _)))⟩
    · rw [d3] at HQX
      rw [d4] at HQY
      clear d3 d4
      go_enter Tryd.func3, Tryd.ntmps3
      go_upto_region 1 with (fail)
      rw [← HW1.out, ← HQ.out]
      (refine wp_region_nw (by kernel_rfl) (by kernel_rfl) ?_; (repeat (go_big_quiet_step (first | (go_at_call 4; exact quiet_of (HI1.out _)) | (go_at_call 4; exact quiet_of (HI2.out _))))); refine wpQuiet_nil ?_; intro _ hreg; obtain ⟨dW, rfl⟩ : Nw _ _ := hreg)
      go_wp2_with fail
      refine (HQX.out _).mono ?_
      rintro e W2 ⟨rfl, d2, rfl⟩
      go_wp2_with fail
      refine (HQY.out _).mono ?_
      rintro e W3 ⟨rfl, d3, rfl⟩
      go_wp2_with (go_at_call 6; refine (HKN.out _).mono ?_; rintro e w' ⟨rfl, dW, rfl⟩)
      go_ret
      exact ⟨rfl, HNW.out.trans ((by repeat (first | exact Xt.Nw.refl _ | refine Xt.Nw.drew ?_ | refine Xt.Nw.drewN ?_ _ | refine Xt.Nw.alloc ?_ _ | refine Xt.Nw.joined ?_ | refine Xt.Nw.drewd ?_ | refine Xt.Nw.drewdN ?_ | refine Xt.Nw.ext ?_ | refine Xt.Nw.ext_some ?_ (by assumption) | refine Xt.Nw.setCell ?_ (by simp [go_sem] <;> omega) _)))⟩
  case pos =>
    obtain ⟨hn, hst, hqx, hqy⟩ := hok
    have d1 : decide ((80 : Int) < (n : Int)) = false := by simp; omega
    have d2 : (s == t) = false := by simpa using hst
    rw [hqx] at HQX
    rw [hqy] at HQY
    have HST := Lib.hid hst
    have HQX1 := Lib.hid hqx
    have HQY1 := Lib.hid hqy
    have HPL := Lib.hid (HPL.out hn)
    clear hn hst hqx hqy
    go_enter Tryd.func3, Tryd.ntmps3
    go_upto_region 1 with (fail)
    rw [← HW1.out, ← HQ.out]
    (refine wp_region_nw (by kernel_rfl) (by kernel_rfl) ?_; (repeat (go_big_quiet_step (first | (go_at_call 4; exact quiet_of (HI1.out _)) | (go_at_call 4; exact quiet_of (HI2.out _))))); refine wpQuiet_nil ?_; intro _ hreg; obtain ⟨dW, rfl⟩ : Nw _ _ := hreg)
    go_wp2_with fail
    refine (HQX.out _).mono ?_
    rintro e W2 ⟨rfl, d3, rfl⟩
    go_wp2_with fail
    refine (HQY.out _).mono ?_
    rintro e W3 ⟨rfl, d4, rfl⟩
    go_wp2_with fail
    refine (HPL.out _ ((by repeat (first | exact Xt.Nw.refl _ | refine Xt.Nw.drew ?_ | refine Xt.Nw.drewN ?_ _ | refine Xt.Nw.alloc ?_ _ | refine Xt.Nw.joined ?_ | refine Xt.Nw.drewd ?_ | refine Xt.Nw.drewdN ?_ | refine Xt.Nw.ext ?_ | refine Xt.Nw.ext_some ?_ (by assumption) | refine Xt.Nw.setCell ?_ (by simp [go_sem] <;> omega) _)))).mono ?_
    rintro e W1 ⟨gm, m, rfl, h1, hth⟩
    replace h1 := h1.base ((by repeat (first | exact Xt.Nw.refl _ | refine Xt.Nw.drew ?_ | refine Xt.Nw.drewN ?_ _ | refine Xt.Nw.alloc ?_ _ | refine Xt.Nw.joined ?_ | refine Xt.Nw.drewd ?_ | refine Xt.Nw.drewdN ?_ | refine Xt.Nw.ext ?_ | refine Xt.Nw.ext_some ?_ (by assumption) | refine Xt.Nw.setCell ?_ (by simp [go_sem] <;> omega) _)) : Nw w1 _)
    have H1 := Lib.hid h1
    obtain ⟨d5, rfl⟩ := h1.nw
    clear h1
    go_wp2_with fail
    refine (copy_Lw (i := 0) H1.out (by omega) rfl).mono ?_
    rintro e W2 ⟨gn, rfl, h2⟩
    have H2 := Lib.hid (show Lw w1 100 [(gm, m), (gn, m)] [] W2 from h2)
    obtain ⟨d6, rfl⟩ := h2.nw
    clear h2 H1
    obtain ⟨rx, ry, m1, m3, m2, e1, e2, e3, e4⟩ := comm_M hth (by rw [HS.out]; exact idxI_in _) (by rw [HT.out]; exact idxI_in _) HST.out (o := ⟨xk, xa, xb, xc, xd, xe, xf⟩) (q := ⟨yk, ya, yb, yc, yd, ye, yf⟩) HQX1.out HQY1.out
    have hD1 := fun K W (h : Lw w1 100 [(gm, m), (gn, m)] K W) => do_Lw (i := 0) h (by omega) rfl s ⟨xk, xa, xb, xc, xd, xe, xf⟩ HX.out
    have hD2 := fun K W (h : Lw w1 101 [(gm, m1), (gn, m)] K W) => do_Lw (i := 0) h (by omega) rfl t ⟨yk, ya, yb, yc, yd, ye, yf⟩ HY.out
    have hD3 := fun K W (h : Lw w1 102 [(gm, m2), (gn, m)] K W) => do_Lw (i := 1) h (by omega) rfl t ⟨yk, ya, yb, yc, yd, ye, yf⟩ HY.out
    have hD4 := fun K W (h : Lw w1 103 [(gm, m2), (gn, m3)] K W) => do_Lw (i := 1) h (by omega) rfl s ⟨xk, xa, xb, xc, xd, xe, xf⟩ HX.out
    rw [e1] at hD1
    rw [e2] at hD2
    rw [e3] at hD3
    rw [e4] at hD4
    obtain ⟨r1, r2, r3, r4, r5⟩ := rx
    obtain ⟨p1, p2, p3, p4, p5⟩ := ry
    unfold opV resV at hD1 hD2 hD3 hD4
    simp only [List.set_cons_zero, List.set_cons_succ, Nat.reduceAdd] at hD1 hD2 hD3 hD4
    have D1 := Lib.hid hD1
    have D2 := Lib.hid hD2
    have D3 := Lib.hid hD3
    have D4 := Lib.hid hD4
    clear hD1 hD2 hD3 hD4 e1 e2 e3 e4 HQX1 HQY1 HPL HI1 HI2 HQX HQY hth
    have KB := Lib.hid (fun W (hW : Nw w1 W) => show W.cell? ⟨q, 1, none⟩ = some (.int .u8 xk) ∧ W.cell? ⟨q, 2, none⟩ = some (.int .u64 xa) ∧ W.cell? ⟨q, 3, none⟩ = some (.int .u64 xb) ∧ W.cell? ⟨q, 4, none⟩ = some (.int .u64 xc) ∧ W.cell? ⟨q, 5, none⟩ = some (.int .u64 xd) ∧ W.cell? ⟨q, 6, none⟩ = some (.int .u64 xe) ∧ W.cell? ⟨q, 7, none⟩ = some (.int .u64 xf) ∧ W.cell? ⟨q + 1, 1, none⟩ = some (.int .u8 yk) ∧ W.cell? ⟨q + 1, 2, none⟩ = some (.int .u64 ya) ∧ W.cell? ⟨q + 1, 3, none⟩ = some (.int .u64 yb) ∧ W.cell? ⟨q + 1, 4, none⟩ = some (.int .u64 yc) ∧ W.cell? ⟨q + 1, 5, none⟩ = some (.int .u64 yd) ∧ W.cell? ⟨q + 1, 6, none⟩ = some (.int .u64 ye) ∧ W.cell? ⟨q + 1, 7, none⟩ = some (.int .u64 yf) from ⟨cell_nw b1 hW, cell_nw b2 hW, cell_nw b3 hW, cell_nw b4 hW, cell_nw b5 hW, cell_nw b6 hW, cell_nw b7 hW, cell_nw c1 hW, cell_nw c2 hW, cell_nw c3 hW, cell_nw c4 hW, cell_nw c5 hW, cell_nw c6 hW, cell_nw c7 hW⟩)
    go_upto_region 8 with (fail)
    have InKB := fun {W : World} (h : Nw w1 W) => (⟨World.block_lt_of_cell? _ _ (KB.out W h).1⟩ : In q W)
    have InKC := fun {W : World} (h : Nw w1 W) => (⟨World.block_lt_of_cell? _ _ (KB.out W h).2.2.2.2.2.2.2.1⟩ : In (q + 1) W)
    have N2 := Lib.hid H2.out.nw
    have s2 := H2.out.nw.grown.size
    have L0 := H2.out.drew
    have L1 := (H2.out.made (.cells #[.int .i64 0, .bool false, .int .u64 0, .int .u64 0, .int .i64 0] 28)).drew
    have L2 := (H2.out.made2 (.cells #[.int .i64 0, .bool false, .int .u64 0, .int .u64 0, .int .i64 0] 28) (.cells #[.int .i64 0, .bool false, .int .u64 0, .int .u64 0, .int .i64 0] 28)).drew
    go_cut [11, 12] (fun u v wx => ∃ ga gb, u = .pointer (some ⟨ga, 0, none⟩) ∧ v = .pointer (some ⟨gb, 0, none⟩) ∧ Hid (Lw w1 102 [(gm, m2), (gn, m)] [(ga, ro ⟨r1, r2, r3, r4, r5⟩), (gb, ro ⟨p1, p2, p3, p4, p5⟩)] wx))
    case first =>
      go_region_held3 (fun w' => w'.cell? ⟨q, 1, none⟩ = some (.int .u8 xk) ∧ w'.cell? ⟨q, 2, none⟩ = some (.int .u64 xa) ∧ w'.cell? ⟨q, 3, none⟩ = some (.int .u64 xb) ∧ w'.cell? ⟨q, 4, none⟩ = some (.int .u64 xc) ∧ w'.cell? ⟨q, 5, none⟩ = some (.int .u64 xd) ∧ w'.cell? ⟨q, 6, none⟩ = some (.int .u64 xe) ∧ w'.cell? ⟨q, 7, none⟩ = some (.int .u64 xf) ∧ w'.cell? ⟨q + 1, 1, none⟩ = some (.int .u8 yk) ∧ w'.cell? ⟨q + 1, 2, none⟩ = some (.int .u64 ya) ∧ w'.cell? ⟨q + 1, 3, none⟩ = some (.int .u64 yb) ∧ w'.cell? ⟨q + 1, 4, none⟩ = some (.int .u64 yc) ∧ w'.cell? ⟨q + 1, 5, none⟩ = some (.int .u64 yd) ∧ w'.cell? ⟨q + 1, 6, none⟩ = some (.int .u64 ye) ∧ w'.cell? ⟨q + 1, 7, none⟩ = some (.int .u64 yf)) (exact KB.out _ (by repeat (first | with_reducible exact Xt.Nw.refl _ | with_reducible exact N2.out | with_reducible exact n5 | with_reducible exact n6 | with_reducible refine Xt.Nw.drew ?_ | with_reducible refine Xt.Nw.alloc ?_ _ | with_reducible refine nw_sets ?_ (by omega) _)))
        ((first | (have _hz := h5; go_at_call 9; (first | with_reducible refine Calls.mono (D2.out _ _ h5) ?_ | with_reducible refine Calls.mono (D2.out _ _ (Lw.made h5 _)) ?_ | with_reducible refine Calls.mono (D2.out _ _ (Lw.made2 h5 _ _)) ?_); rintro r W6 ⟨rfl, h6⟩; have n6 := h6.nw; have s6 := n6.grown.size; haveI := InKB n6; haveI := InKC n6; (try haveI := Lw.box h6 (List.mem_cons_self ..)); (try have lh6a := (Lw.box h6 (List.mem_cons_self ..)).lt); (try haveI := Lw.box h6 (List.mem_cons_of_mem _ (List.mem_cons_self ..))); (try have lh6b := (Lw.box h6 (List.mem_cons_of_mem _ (List.mem_cons_self ..))).lt)) | (go_at_call 9; (first | with_reducible refine Calls.mono (D1.out _ _ L0) ?_ | with_reducible refine Calls.mono (D1.out _ _ L1) ?_ | with_reducible refine Calls.mono (D1.out _ _ L2) ?_); rintro r W5 ⟨rfl, h5⟩; have n5 := h5.nw; have s5 := n5.grown.size; haveI := InKB n5; haveI := InKC n5; (try haveI := Lw.box h5 (List.mem_cons_self ..)); (try have lh5a := (Lw.box h5 (List.mem_cons_self ..)).lt); (try haveI := Lw.box h5 (List.mem_cons_of_mem _ (List.mem_cons_self ..))); (try have lh5b := (Lw.box h5 (List.mem_cons_of_mem _ (List.mem_cons_self ..))).lt))))
      all_goals (try go_wp2)
      all_goals go_meet
      all_goals (refine ⟨_, _, rfl, rfl, Lib.hid ?_⟩)
      all_goals (refine Lw.two (ra := (⟨r1, r2, r3, r4, r5⟩ : Rs)) (rb := (⟨p1, p2, p3, p4, p5⟩ : Rs)) h6 (by repeat (first | with_reducible exact Xt.Nw.refl _ | with_reducible refine Xt.Nw.drew ?_ | with_reducible refine Xt.Nw.alloc ?_ _)) ?_ ?_ ?_ ?_ ?_ inferInstance inferInstance (fun x hx => by cases hx))
      all_goals (first | with_reducible exact memC | with_reducible exact memD | with_reducible exact memA | with_reducible exact memB | omega)
    case rest =>
      obtain ⟨ga, gb, rfl, rfl, HB⟩ := hcut
      clear L0 L1 L2 N2 s2 H2
      obtain ⟨W7, hW7⟩ : ∃ W, W = wc := ⟨_, rfl⟩
      subst hW7
      have N2 := Lib.hid HB.out.nw
      have s2 := HB.out.nw.grown.size
      haveI := InKB N2.out
      haveI := InKC N2.out
      have la : ga < W7.heap.size := (Array.getElem?_eq_some_iff.1 (HB.out.block (List.mem_cons_self ..))).1
      have lb : gb < W7.heap.size := (Array.getElem?_eq_some_iff.1 (HB.out.block (List.mem_cons_of_mem _ (List.mem_cons_self ..)))).1
      go_upto_region 9 with (fail)
      have L0 := HB.out.drew
      have L1 := (HB.out.made (.cells #[.int .i64 0, .bool false, .int .u64 0, .int .u64 0, .int .i64 0] 28)).drew
      have L2 := (HB.out.made2 (.cells #[.int .i64 0, .bool false, .int .u64 0, .int .u64 0, .int .i64 0] 28) (.cells #[.int .i64 0, .bool false, .int .u64 0, .int .u64 0, .int .i64 0] 28)).drew
      go_cut [13, 14] (fun u v wx => ∃ gc gd, u = .pointer (some ⟨gc, 0, none⟩) ∧ v = .pointer (some ⟨gd, 0, none⟩) ∧ Hid (Lw w1 104 [(gm, m2), (gn, m2)] [(gc, ro ⟨p1, p2, p3, p4, p5⟩), (gd, ro ⟨r1, r2, r3, r4, r5⟩), (ga, ro ⟨r1, r2, r3, r4, r5⟩), (gb, ro ⟨p1, p2, p3, p4, p5⟩)] wx))
      case first =>
        go_region_held3 (fun w' => w'.cell? ⟨q, 1, none⟩ = some (.int .u8 xk) ∧ w'.cell? ⟨q, 2, none⟩ = some (.int .u64 xa) ∧ w'.cell? ⟨q, 3, none⟩ = some (.int .u64 xb) ∧ w'.cell? ⟨q, 4, none⟩ = some (.int .u64 xc) ∧ w'.cell? ⟨q, 5, none⟩ = some (.int .u64 xd) ∧ w'.cell? ⟨q, 6, none⟩ = some (.int .u64 xe) ∧ w'.cell? ⟨q, 7, none⟩ = some (.int .u64 xf) ∧ w'.cell? ⟨q + 1, 1, none⟩ = some (.int .u8 yk) ∧ w'.cell? ⟨q + 1, 2, none⟩ = some (.int .u64 ya) ∧ w'.cell? ⟨q + 1, 3, none⟩ = some (.int .u64 yb) ∧ w'.cell? ⟨q + 1, 4, none⟩ = some (.int .u64 yc) ∧ w'.cell? ⟨q + 1, 5, none⟩ = some (.int .u64 yd) ∧ w'.cell? ⟨q + 1, 6, none⟩ = some (.int .u64 ye) ∧ w'.cell? ⟨q + 1, 7, none⟩ = some (.int .u64 yf)) (exact KB.out _ (by repeat (first | with_reducible exact Xt.Nw.refl _ | with_reducible exact N2.out | with_reducible exact n5 | with_reducible exact n6 | with_reducible refine Xt.Nw.drew ?_ | with_reducible refine Xt.Nw.alloc ?_ _ | with_reducible refine nw_sets ?_ (by omega) _)))
        ((first | (have _hz := h5; go_at_call 9; (first | with_reducible refine Calls.mono (D4.out _ _ h5) ?_ | with_reducible refine Calls.mono (D4.out _ _ (Lw.made h5 _)) ?_ | with_reducible refine Calls.mono (D4.out _ _ (Lw.made2 h5 _ _)) ?_); rintro r W6 ⟨rfl, h6⟩; have n6 := h6.nw; have s6 := n6.grown.size; haveI := InKB n6; haveI := InKC n6; (try haveI := Lw.box h6 (List.mem_cons_self ..)); (try have lh6a := (Lw.box h6 (List.mem_cons_self ..)).lt); (try haveI := Lw.box h6 (List.mem_cons_of_mem _ (List.mem_cons_self ..))); (try have lh6b := (Lw.box h6 (List.mem_cons_of_mem _ (List.mem_cons_self ..))).lt)) | (go_at_call 9; (first | with_reducible refine Calls.mono (D3.out _ _ L0) ?_ | with_reducible refine Calls.mono (D3.out _ _ L1) ?_ | with_reducible refine Calls.mono (D3.out _ _ L2) ?_); rintro r W5 ⟨rfl, h5⟩; have n5 := h5.nw; have s5 := n5.grown.size; haveI := InKB n5; haveI := InKC n5; (try haveI := Lw.box h5 (List.mem_cons_self ..)); (try have lh5a := (Lw.box h5 (List.mem_cons_self ..)).lt); (try haveI := Lw.box h5 (List.mem_cons_of_mem _ (List.mem_cons_self ..))); (try have lh5b := (Lw.box h5 (List.mem_cons_of_mem _ (List.mem_cons_self ..))).lt))))
        all_goals (try go_wp2)
        all_goals go_meet
        all_goals (refine ⟨_, _, rfl, rfl, Lib.hid ?_⟩)
        all_goals (refine Lw.two (ra := (⟨p1, p2, p3, p4, p5⟩ : Rs)) (rb := (⟨r1, r2, r3, r4, r5⟩ : Rs)) h6 (by repeat (first | with_reducible exact Xt.Nw.refl _ | with_reducible refine Xt.Nw.drew ?_ | with_reducible refine Xt.Nw.alloc ?_ _)) ?_ ?_ ?_ ?_ ?_ inferInstance inferInstance (fun x hx => by simp only [List.mem_cons, List.not_mem_nil, or_false] at hx; rcases hx with rfl | rfl; exact ⟨(by repeat (first | with_reducible exact List.mem_cons_self .. | with_reducible refine List.mem_cons_of_mem _ ?_)), by show ga ≠ _; omega, by show ga ≠ _; omega⟩; exact ⟨(by repeat (first | with_reducible exact List.mem_cons_self .. | with_reducible refine List.mem_cons_of_mem _ ?_)), by show gb ≠ _; omega, by show gb ≠ _; omega⟩))
        all_goals (first | with_reducible exact memC | with_reducible exact memD | with_reducible exact memA | with_reducible exact memB | omega)
      case rest =>
        obtain ⟨gc, gd, rfl, rfl, HC⟩ := hcut
        clear L0 L1 L2 N2 s2 HB la lb D1 D2 D3 D4 KB InKB InKC
        obtain ⟨W9, hW9⟩ : ∃ W, W = wc := ⟨_, rfl⟩
        subst hW9
        obtain ⟨gc0, gc1, gc2, gc3, gc4, igc⟩ := HC.out.c5 (b := gc) (r := ⟨p1, p2, p3, p4, p5⟩) (List.mem_cons_self ..)
        haveI : In gc W9 := ⟨igc⟩
        obtain ⟨gd0, gd1, gd2, gd3, gd4, igd⟩ := HC.out.c5 (b := gd) (r := ⟨r1, r2, r3, r4, r5⟩) (List.mem_cons_of_mem _ (List.mem_cons_self ..))
        haveI : In gd W9 := ⟨igd⟩
        obtain ⟨ga0, ga1, ga2, ga3, ga4, iga⟩ := HC.out.c5 (b := ga) (r := ⟨r1, r2, r3, r4, r5⟩) (List.mem_cons_of_mem _ (List.mem_cons_of_mem _ (List.mem_cons_self ..)))
        haveI : In ga W9 := ⟨iga⟩
        obtain ⟨gb0, gb1, gb2, gb3, gb4, igb⟩ := HC.out.c5 (b := gb) (r := ⟨p1, p2, p3, p4, p5⟩) (List.mem_cons_of_mem _ (List.mem_cons_of_mem _ (List.mem_cons_of_mem _ (List.mem_cons_self ..))))
        haveI : In gb W9 := ⟨igb⟩
        simp only at gc0 gc1 gc2 gc3 gc4 gd0 gd1 gd2 gd3 gd4 ga0 ga1 ga2 ga3 ga4 gb0 gb1 gb2 gb3 gb4
        obtain ⟨z, hz⟩ : ∃ z : ByteArray, z = ⟨(keyB m2).toArray⟩ := ⟨_, rfl⟩
        have HZ := Lib.hid hz
        clear hz
        go_wp2_with fail
        refine (key_Lv (i := 0) (HC.out.grow ((by repeat (first | exact Xt.Nw.refl _ | refine Xt.Nw.drew ?_ | refine Xt.Nw.drewN ?_ _ | refine Xt.Nw.alloc ?_ _ | refine Xt.Nw.joined ?_ | refine Xt.Nw.drewd ?_ | refine Xt.Nw.drewdN ?_ | refine Xt.Nw.ext ?_ | refine Xt.Nw.ext_some ?_ (by assumption) | refine Xt.Nw.setCell ?_ (by simp [go_sem] <;> omega) _)))) (by omega) HFM.out rfl HZ.out).mono ?_
        rintro e W10 ⟨rfl, d10, rfl⟩
        go_wp2_with fail
        refine (key_Lv (i := 1) (HC.out.grow ((by repeat (first | exact Xt.Nw.refl _ | refine Xt.Nw.drew ?_ | refine Xt.Nw.drewN ?_ _ | refine Xt.Nw.alloc ?_ _ | refine Xt.Nw.joined ?_ | refine Xt.Nw.drewd ?_ | refine Xt.Nw.drewdN ?_ | refine Xt.Nw.ext ?_ | refine Xt.Nw.ext_some ?_ (by assumption) | refine Xt.Nw.setCell ?_ (by simp [go_sem] <;> omega) _)))) (by omega) HFM.out rfl HZ.out).mono ?_
        rintro e W11 ⟨rfl, d11, rfl⟩
        have HP9 := Lib.hid (fun W (hW : Nw W9 W) => pairs_Lv (i := 0) (HC.out.grow hW) (by omega) rfl)
        go_wp2_with fail
        refine (HP9.out _ ((by repeat (first | exact Xt.Nw.refl _ | refine Xt.Nw.drew ?_ | refine Xt.Nw.drewN ?_ _ | refine Xt.Nw.alloc ?_ _ | refine Xt.Nw.joined ?_ | refine Xt.Nw.drewd ?_ | refine Xt.Nw.drewdN ?_ | refine Xt.Nw.ext ?_ | refine Xt.Nw.ext_some ?_ (by assumption) | refine Xt.Nw.setCell ?_ (by simp [go_sem] <;> omega) _)))).mono ?_
        rintro e W12 ⟨A1, n1, c1, K1, rfl, hn1, -, q1, h12, -⟩
        have H12 := Lib.hid h12
        have Q1 := Lib.hid q1
        have HN1 := Lib.hid hn1
        clear h12 q1 hn1 HP9
        go_wp2_with fail
        refine (pairs_Lv (i := 1) H12.out (by omega) rfl).mono ?_
        rintro e W13 ⟨A2, n2, c2, K2, rfl, hn2, hs2, q2, h13, -⟩
        have H13 := Lib.hid h13
        have Q2 := Lib.hid q2
        have Q1 := Lib.hid (Q1.out.more hs2)
        have HN2 := Lib.hid hn2
        clear h13 q2 hn2 hs2 H12
        go_wp2_with fail
        refine (equal_Lw (b := true) H13.out Q1.out Q2.out HN1.out HN2.out (by simp)).mono ?_
        rintro e W14 ⟨rfl, hn14⟩
        have H14 := Lib.hid (H13.out.nw.trans hn14)
        clear hn14 H13 Q1 Q2 HN1 HN2
        go_wp2_with (go_at_call 6; refine (HKN.out _).mono ?_; rintro e w' ⟨rfl, dW, rfl⟩)
        go_ret
        exact ⟨rfl, HNW.out.trans (H14.out.trans ((by repeat (first | exact Xt.Nw.refl _ | refine Xt.Nw.drew ?_ | refine Xt.Nw.drewN ?_ _ | refine Xt.Nw.alloc ?_ _ | refine Xt.Nw.joined ?_ | refine Xt.Nw.drewd ?_ | refine Xt.Nw.drewdN ?_ | refine Xt.Nw.ext ?_ | refine Xt.Nw.ext_some ?_ (by assumption) | refine Xt.Nw.setCell ?_ (by simp [go_sem] <;> omega) _))))⟩
end Go.Proofs.YtahagplegmcaaaaDoor
