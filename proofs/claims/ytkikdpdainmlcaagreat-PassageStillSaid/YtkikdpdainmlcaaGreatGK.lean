import Derived.Test.YtkikdpdainmlcaaGreatGI
import Derived.Maps.OwnSet
import Derived.Maps.Views
import Derived.Maps.Keyed
import Derived.StillTailTactics
set_option linter.unusedVariables false
set_option linter.unusedSimpArgs false
set_option linter.unnecessarySimpa false
namespace Go.Proofs.YtkikdpdainmlcaaGreat
open Go.RowKit Go.Xt
attribute [local go_sem] Oper.semAt_some
def lastC (pre : List (Nat × Cl)) : Cl := match pre.getLast? with | some z => z.2 | none => zc
def AftI (w : World) (x : Cl) (pre : List (Nat × Cl)) (W : World) : Prop :=
  (Box W (w.heap.size + 1) (lastC pre) ∧ W.cell? ⟨w.heap.size + 2, 0, none⟩ = some (.bool (!pre.isEmpty)) ∧ W.frozen? ⟨w.heap.size + 2, 0, none⟩ = false ∧ Box W w.heap.size x) ∧ Below w.heap.size w W
def AftJ (w : World) (x : Cl) (pre : List (Nat × Cl)) (W : World) : Prop := AftI w x pre W ∧ w.heap.size + 5 ≤ W.heap.size
theorem aftI_own (w : World) (x : Cl) : OwnFrom w.heap.size (AftI w x) := fun s A B row hs hg hr =>
  ⟨⟨hs.1.1.kept hg (fun r e => (hr r e).2), cell_kept hs.1.2.1 hg (fun r e => (hr r e).2), (frozen_kept hs.1.2.1 hg (fun r e => (hr r e).2)).trans hs.1.2.2.1, hs.1.2.2.2.kept hg (fun r e => (hr r e).2)⟩,
    ownFrom_below (β := Unit) (Nat.le_refl _) (Nat.le_refl _) () A B row hs.2 hg hr⟩
set_option maxRecDepth 100000 in
set_option maxHeartbeats 8000000 in
theorem hafter_any (kb m cap : Nat) (A : Option Addr) (L : List Cl) (x : Cl) (w : World) (hm : m ≤ 1000) (hk : w.cell? ⟨kb, 0, none⟩ = some (.slice A (m + 1) cap)) (hl : Cs w A (m + 1) L) (hx : L[m]? = some x) (hcap : m + 1 ≤ cap) (hcapm : cap ≤ 9223372036854775807) :
    Calls Tryz.prog 43 #[.pointer (some ⟨kb, 0, none⟩), cv x] w fun e w' => e = .returned (.bool (aftF (L.take m) x)) ∧ Nw w w' := by
  have hkb := World.block_lt_of_cell? w _ hk
  haveI : In kb w := ⟨hkb⟩
  obtain ⟨b, o, y, rfl, hb, hy, hcy⟩ := hl.get (show m < m + 1 by omega)
  haveI : In b w := ⟨hb⟩
  have HL := Lib.hid hl
  have HX := Lib.hid hx
  clear hl hx hy hcy
  -- the boxes
  have b0 : Box (((w.alloc (.cells #[.int .i64 x.th, .int .i64 x.ix, .int .u8 x.kd, .int .u64 x.ka, .int .u64 x.kb, .int .u64 x.kc, .int .u64 x.kx, .int .u64 x.ky, .int .u64 x.kz, .int .i64 x.inv, .int .i64 x.took, .int .i64 x.ans, .int .i64 x.st, .int .i64 x.re, .bool x.rf, .int .u64 x.rk, .int .u64 x.rv, .int .i64 x.rc] 45)).alloc (.cells #[.int .i64 0, .int .i64 0, .int .u8 0, .int .u64 0, .int .u64 0, .int .u64 0, .int .u64 0, .int .u64 0, .int .u64 0, .int .i64 0, .int .i64 0, .int .i64 0, .int .i64 0, .int .i64 0, .bool false, .int .u64 0, .int .u64 0, .int .i64 0] 45)).alloc (.cells #[.bool false] 4)) w.heap.size x := ((newBox w x).same (RowKit.Below.heap_alloc _ _ _ (by simp))).same (RowKit.Below.heap_alloc _ _ _ (by simp; omega))
  have b1 : Box (((w.alloc (.cells #[.int .i64 x.th, .int .i64 x.ix, .int .u8 x.kd, .int .u64 x.ka, .int .u64 x.kb, .int .u64 x.kc, .int .u64 x.kx, .int .u64 x.ky, .int .u64 x.kz, .int .i64 x.inv, .int .i64 x.took, .int .i64 x.ans, .int .i64 x.st, .int .i64 x.re, .bool x.rf, .int .u64 x.rk, .int .u64 x.rv, .int .i64 x.rc] 45)).alloc (.cells #[.int .i64 0, .int .i64 0, .int .u8 0, .int .u64 0, .int .u64 0, .int .u64 0, .int .u64 0, .int .u64 0, .int .u64 0, .int .i64 0, .int .i64 0, .int .i64 0, .int .i64 0, .int .i64 0, .bool false, .int .u64 0, .int .u64 0, .int .i64 0] 45)).alloc (.cells #[.bool false] 4)) (w.heap.size + 1) zc := by
    have h := (newBox (w.alloc (.cells #[.int .i64 x.th, .int .i64 x.ix, .int .u8 x.kd, .int .u64 x.ka, .int .u64 x.kb, .int .u64 x.kc, .int .u64 x.kx, .int .u64 x.ky, .int .u64 x.kz, .int .i64 x.inv, .int .i64 x.took, .int .i64 x.ans, .int .i64 x.st, .int .i64 x.re, .bool x.rf, .int .u64 x.rk, .int .u64 x.rv, .int .i64 x.rc] 45)) zc)
    rw [World.size_alloc] at h
    exact h.same (RowKit.Below.heap_alloc _ _ _ (by simp))
  obtain ⟨W4, hst, b1', hwr⟩ := store_box b1 zc
  have b0' : Box W4 w.heap.size x := b0.same (hwr.others _ (by omega))
  have hB3 : Below w.heap.size w (((w.alloc (.cells #[.int .i64 x.th, .int .i64 x.ix, .int .u8 x.kd, .int .u64 x.ka, .int .u64 x.kb, .int .u64 x.kc, .int .u64 x.kx, .int .u64 x.ky, .int .u64 x.kz, .int .i64 x.inv, .int .i64 x.took, .int .i64 x.ans, .int .i64 x.st, .int .i64 x.re, .bool x.rf, .int .u64 x.rk, .int .u64 x.rv, .int .i64 x.rc] 45)).alloc (.cells #[.int .i64 0, .int .i64 0, .int .u8 0, .int .u64 0, .int .u64 0, .int .u64 0, .int .u64 0, .int .u64 0, .int .u64 0, .int .i64 0, .int .i64 0, .int .i64 0, .int .i64 0, .int .i64 0, .bool false, .int .u64 0, .int .u64 0, .int .i64 0] 45)).alloc (.cells #[.bool false] 4)) := (((Below.refl _ w).alloc (Nat.le_refl _) _).alloc (by simp) _).alloc (by simp; omega) _
  have hB4 : Below w.heap.size w W4 := hB3.trans (hwr.below (by omega))
  have c0 : W4.cell? ⟨w.heap.size + 2, 0, none⟩ = some (.bool false) := (hwr.cell (by omega)).trans (by simp [go_sem])
  have f0 : W4.frozen? ⟨w.heap.size + 2, 0, none⟩ = false := (hwr.frozen (by omega)).trans (by simp [go_sem])
  have hk4 : W4.cell? ⟨kb, 0, none⟩ = some (.slice (some ⟨b, o, none⟩) (m + 1) cap) := (hB4.cell (p := ⟨kb, 0, none⟩) hkb).trans hk
  have hs4 : W4.heap.size = w.heap.size + 3 := by rw [hwr.size]; simp
  have t0 : W4.cell? ⟨w.heap.size, 0, none⟩ = some (.int .i64 x.th) := b0'.1.1
  have hst' : (storeCall (.pointer (some ⟨w.heap.size + 1, 0, none⟩)) (.agg #[.int .i64 0, .int .i64 0, .int .u8 0, .int .u64 0, .int .u64 0, .int .u64 0, .int .u64 0, .int .u64 0, .int .u64 0, .int .i64 0, .int .i64 0, .int .i64 0, .int .i64 0, .int .i64 0, .bool false, .int .u64 0, .int .u64 0, .int .i64 0])).run Tryz.prog (((w.alloc (.cells #[.int .i64 x.th, .int .i64 x.ix, .int .u8 x.kd, .int .u64 x.ka, .int .u64 x.kb, .int .u64 x.kc, .int .u64 x.kx, .int .u64 x.ky, .int .u64 x.kz, .int .i64 x.inv, .int .i64 x.took, .int .i64 x.ans, .int .i64 x.st, .int .i64 x.re, .bool x.rf, .int .u64 x.rk, .int .u64 x.rv, .int .i64 x.rc] 45)).alloc (.cells #[.int .i64 0, .int .i64 0, .int .u8 0, .int .u64 0, .int .u64 0, .int .u64 0, .int .u64 0, .int .u64 0, .int .u64 0, .int .i64 0, .int .i64 0, .int .i64 0, .int .i64 0, .int .i64 0, .bool false, .int .u64 0, .int .u64 0, .int .i64 0] 45)).alloc (.cells #[.bool false] 4)) = .ok () W4 := hst
  clear hst b0 b1 hwr hB3
  refine (callsIn_wide (n := 9)).1 ?_
  refine callsIn_of_wp_marks Tryz.func43 rfl trivial ?_ rfl
  refine wpIn_wide.2 ?_
  simp only [Tryz.ntmps43, List.size_toArray, List.length_cons, List.length_nil, Nat.reduceAdd, Nat.reduceSub, Array.replicate_succ, Array.replicate_zero, List.push_toArray, List.append_toArray, List.nil_append, List.cons_append]
  go_upto_region 2 with fail
  have hwm : IntKind.i64.wrap (m : Int) = (m : Int) := by rw [IntKind.wrap_i64] <;> omega
  have hmc : (m : Int) ≤ (cap : Int) := by omega
  have e0 : Box (W4.setCell ⟨w.heap.size + 1 + 1, 0, none⟩ (.bool false)) w.heap.size x := b0'.same (heap_set _ _ _ _ (by show w.heap.size + 1 + 1 ≠ w.heap.size; omega))
  have e1 : Box (W4.setCell ⟨w.heap.size + 1 + 1, 0, none⟩ (.bool false)) (w.heap.size + 1) zc := b1'.same (heap_set _ _ _ _ (by simp))
  have e2 : (W4.setCell ⟨w.heap.size + 1 + 1, 0, none⟩ (.bool false)).cell? ⟨w.heap.size + 2, 0, none⟩ = some (.bool false) := World.cell?_setCell_same' _ _ _ (by rw [c0]; rfl)
  have e3 : (W4.setCell ⟨w.heap.size + 1 + 1, 0, none⟩ (.bool false)).frozen? ⟨w.heap.size + 2, 0, none⟩ = false := (World.frozen?_setCell ..).trans f0
  have e4 : (W4.setCell ⟨w.heap.size + 1 + 1, 0, none⟩ (.bool false)).cell? ⟨kb, 0, none⟩ = some (.slice (some ⟨b, o, none⟩) (m + 1) cap) := (World.cell?_of_block (heap_set _ _ _ _ (by show w.heap.size + 1 + 1 ≠ kb; have : kb < w.heap.size := hkb; omega))).trans hk4
  have e5 : Below w.heap.size w (W4.setCell ⟨w.heap.size + 1 + 1, 0, none⟩ (.bool false)) := hB4.setCell (p := ⟨w.heap.size + 1 + 1, 0, none⟩) (by show w.heap.size ≤ w.heap.size + 1 + 1; omega) _
  have e6 : (W4.setCell ⟨w.heap.size + 1 + 1, 0, none⟩ (.bool false)).heap.size = w.heap.size + 3 := by simpa using hs4
  generalize W4.setCell ⟨w.heap.size + 1 + 1, 0, none⟩ (.bool false) = W5 at e0 e1 e2 e3 e4 e5 e6 ⊢
  clear b1' b0' hB4 c0 f0 hk4 hs4 t0 hst'
  have t0 := e0.1.1
  haveI : In w.heap.size W5 := ⟨by omega⟩
  haveI : In kb W5 := ⟨Nat.lt_of_lt_of_le hkb e5.size⟩
  have E0 := Lib.hid e0
  have E1 := Lib.hid e1
  clear e0 e1
  go_still_tail 13, (by kernel_rfl)
  change wpList _ _ _ _ _ W5.drew
  have g0 : Hid (Box W5.drew w.heap.size x) := E0
  have g1 : Hid (Box W5.drew (w.heap.size + 1) zc) := E1
  have g2 : W5.drew.cell? ⟨w.heap.size + 2, 0, none⟩ = some (.bool false) := e2
  have g3 : W5.drew.frozen? ⟨w.heap.size + 2, 0, none⟩ = false := e3
  have g5 : Below w.heap.size w W5.drew := e5.drew
  have g6 : W5.drew.heap.size = w.heap.size + 3 := e6
  generalize W5.drew = W6 at g0 g1 g2 g3 g5 g6 ⊢
  clear E0 E1 e2 e3 e4 e5 e6 t0
  go_wp2_with (go_at_call 62; refine (hof_any _ _ _ _ _).mono ?_; rintro e w' ⟨rfl, rfl⟩)
  have hO : OwnFrom w.heap.size (AftI w x) := aftI_own w x
  have h0 : AftI w x [] ((W6.alloc (.cells #[.int .i64 x.th] 3)).alloc (.cells #[.slice (some ⟨b, o, none⟩) m cap] 28)) := (aftI_own w x).alloc _ ((aftI_own w x).alloc _ ⟨⟨g1.out, g2, g3, g0.out⟩, g5⟩)
  have hW7 : ((W6.alloc (.cells #[.int .i64 x.th] 3)).alloc (.cells #[.slice (some ⟨b, o, none⟩) m cap] 28)).heap.size = w.heap.size + 3 + 1 + 1 := by simp [g6]
  have hCs := (HL.out.take (show m ≤ m + 1 by omega)).nw (((Nw.of_below g5).alloc (.cells #[.int .i64 x.th] 3)).alloc (.cells #[.slice (some ⟨b, o, none⟩) m cap] 28))
  have c1 : ((W6.alloc (.cells #[.int .i64 x.th] 3)).alloc (.cells #[.slice (some ⟨b, o, none⟩) m cap] 28)).cell? ⟨w.heap.size + 3 + 1, 0, none⟩ = some (.slice (some ⟨b, o, none⟩) m cap) := by rw [← g6]; simp [go_sem]
  have c2 : ((W6.alloc (.cells #[.int .i64 x.th] 3)).alloc (.cells #[.slice (some ⟨b, o, none⟩) m cap] 28)).cell? ⟨w.heap.size + 3, 0, none⟩ = some (.int .i64 x.th) := by rw [← g6]; simp [go_sem]
  generalize ((W6.alloc (.cells #[.int .i64 x.th] 3)).alloc (.cells #[.slice (some ⟨b, o, none⟩) m cap] 28)) = W7 at h0 hW7 hCs c1 c2 ⊢
  clear g0 g1 g2 g3 g5
  refine (wpIn_wide (n := 9)).1 ?_
  refine wpIn_rangeFunc_ownH (F := Fence.wide) (n := 9) rfl (by omega) (gf := 76) (lb := #[.pointer (some ⟨w.heap.size + 3 + 1, 0, none⟩), .pointer (some ⟨w.heap.size + 3, 0, none⟩)]) rfl trivial (enters_of Tryz.func76 (by kernel_rfl) rfl)
    (of_stops Fence.wide (9 - 1) trivial rfl (by omega) (w.heap.size + 3 + 1) (w.heap.size + 3) w.heap.size x.th (some ⟨b, o, none⟩) m cap (L.take m) (by omega) W7 (by omega) (fun _ b' o' e => by injection e with e; injection e with e1 e2; omega) c1 c2 hCs) KT.trans (KT.put (by omega) (by omega)) (Below.refl _ _) (fun _ => rfl)
    (AftJ w x) (fun _ _ _ => False)
    (fun s A B row hs hg hr => ⟨hO s A B row hs.1 hg (fun r e => ⟨by have := (hr r e).1; omega, (hr r e).2⟩), Nat.le_trans hs.2 hg.size⟩)
    (fun _ _ _ _ _ hs _ _ => hs) ⟨h0, by omega⟩
    (fun z a' W => ∃ Bx, w.heap.size + 3 + 1 < Bx ∧ AtC W Bx 0 z.2 ∧ a' = { tmps := #[.pointer (some ⟨kb, 0, none⟩), cv x, undef, .pointer (some ⟨w.heap.size, 0, none⟩), .bool false, .pointer (some ⟨w.heap.size + 1, 0, none⟩), .pointer (some ⟨w.heap.size + 1 + 1, 0, none⟩), undef, .pointer (some ⟨Bx, 0, none⟩), .agg #[.int .i64 0, .int .i64 0, .int .u8 0, .int .u64 0, .int .u64 0, .int .u64 0, .int .u64 0, .int .u64 0, .int .u64 0, .int .i64 0, .int .i64 0, .int .i64 0, .int .i64 0, .int .i64 0, .bool false, .int .u64 0, .int .u64 0, .int .i64 0], .pointer (some ⟨w.heap.size, 0, none⟩), .int .i64 x.th, .pointer (some ⟨kb, 0, none⟩), .pointer (some ⟨kb, 0, none⟩), .pointer (some ⟨kb, 0, none⟩), .slice (some ⟨b, o, none⟩) (m + 1) cap, .pointer (some ⟨kb, 0, none⟩), .pointer (some ⟨kb, 0, none⟩), .pointer (some ⟨kb, 0, none⟩), .slice (some ⟨b, o, none⟩) (m + 1) cap, .int .i64 ((m : Int) + 1), .int .i64 (m : Int), .slice (some ⟨b, o, none⟩) m cap, .func (.func 76) #[] #[.pointer (some ⟨w.heap.size + 3 + 1, 0, none⟩), .pointer (some ⟨w.heap.size + 3, 0, none⟩)], .int .i64 (z.1 : Int), cv z.2, undef, undef, undef, undef, undef, undef, undef, undef], defers := [] })
    (fun z a' _ X Y row hs hg hr => by obtain ⟨Bx, h1, h2, h3⟩ := hs; exact ⟨Bx, h1, h2.kept hg (fun r e => (hr r e).2), h3⟩)
    ?assign ?body ?done ?stop
  case assign =>
    rintro l pre z W K hi hK
    gi_wp2
    exact hK _ _ ((KeepsOthers.alloc _ _).from _) ((KT.refl _ _ W).alloc (by have := hi.2; omega) (by have := hi.2; omega) _) ⟨hO.alloc _ hi.1, by have := hi.2; simp; omega⟩ ⟨W.heap.size, by have := hi.2; omega, boxed W z.2 _, rfl⟩
  case body =>
    rintro l pre z a' W hl ⟨r, hr⟩ ⟨⟨⟨q1, q2, q3, q4⟩, qB⟩, qs⟩ ⟨Bx, hBx, bX, rfl⟩ hlt
    obtain ⟨v17, hv17⟩ := bX.some 0 (by omega)
    haveI : CallAt W Bx 0 z.2 := ⟨bX, World.block_lt_of_cell? W _ hv17⟩
    obtain ⟨W', hst, p1, pw⟩ := store_box q1 z.2
    have p2 : W'.cell? ⟨w.heap.size + 1 + 1, 0, none⟩ = some (.bool (!pre.isEmpty)) := (pw.cell (by omega)).trans q2
    have p3 : W'.frozen? ⟨w.heap.size + 1 + 1, 0, none⟩ = false := (pw.frozen (by omega)).trans q3
    have P1 := Lib.hid p1; have PW := Lib.hid pw; have Q1 := Lib.hid q1; have Q4 := Lib.hid q4
    clear p1 pw q1 q4 hv17 q2 q3
    gi_wp2
    have hne : (w.heap.size + 1 + 1 : Nat) ≠ w.heap.size + 1 := by omega
    refine ⟨(PW.out.keeps.trans (KeepsOthers.setCell _ _ _)).from _, ⟨(PW.out.below (by omega)).setCell (p := ⟨w.heap.size + 1 + 1, 0, none⟩) (by show w.heap.size ≤ w.heap.size + 1 + 1; omega) _, (heap_set _ _ _ _ (by show w.heap.size + 1 + 1 ≠ w.heap.size + 3; omega)).trans (PW.out.others _ (by omega))⟩,
      ⟨⟨⟨?_, ?_, (World.frozen?_setCell ..).trans p3, ?_⟩, ?_⟩, ?_⟩⟩
    · have : lastC (pre ++ [z]) = z.2 := by simp [lastC]
      rw [this]
      exact P1.out.same (heap_set _ _ _ _ hne)
    · have : (!(pre ++ [z]).isEmpty) = true := by simp
      rw [this]
      exact World.cell?_setCell_same' _ _ _ (by rw [p2]; rfl)
    · exact (Q4.out.same (PW.out.others _ (by omega))).same (heap_set _ _ _ _ (by show w.heap.size + 1 + 1 ≠ w.heap.size; omega))
    · exact (qB.trans (PW.out.below (by omega))).setCell (p := ⟨w.heap.size + 1 + 1, 0, none⟩) (by show w.heap.size ≤ w.heap.size + 1 + 1; omega) _
    · have := PW.out.size; simp; omega
  case done =>
    rintro D ys W hD rfl ⟨⟨⟨q1, q2, q3, q4⟩, qB⟩, qs⟩ hK
    have hend := fun o' => belowK_b (w := w) (Nat.le_refl _) W D _ o' (by omega) hK rfl rfl
    have h2 := ofK_of x.th (L.take m) m (by rw [List.length_take, HL.out.1]; omega)
    rw [List.take_take, Nat.min_self] at h2
    obtain ⟨ys, hys⟩ : ∃ ys, ys = ofK x.th (L.take m) m := ⟨_, rfl⟩
    rw [← hys] at h2 q1 q2
    have H2 := Lib.hid h2
    clear h2 hys
    rcases hl : ys.getLast? with _ | z
    · have hnil : ys = [] := List.getLast?_eq_none_iff.1 hl
      subst hnil
      have q2' : W.cell? ⟨w.heap.size + 1 + 1, 0, none⟩ = some (.bool false) := q2
      clear q1 q4 hl q2
      go_wp2
      refine ⟨by simp, .inl ⟨_, _, rfl, run_takeDeferred hK, ?_⟩⟩
      refine ⟨_, results_tmp rfl _ _ _, ?_, Nw.of_below (qB.trans (hend _))⟩
      have h3 := H2.out
      rw [aftF, ← h3]; rfl
    · have hne : (!ys.isEmpty) = true := by
        cases ys with
        | nil => simp at hl
        | cons => rfl
      have hlast : lastC ys = z.2 := by rw [lastC, hl]
      rw [hne] at q2
      rw [hlast] at q1
      have q2' : W.cell? ⟨w.heap.size + 1 + 1, 0, none⟩ = some (.bool true) := q2
      haveI : CallAt W (w.heap.size + 1) 0 z.2 := ⟨q1.1, by omega⟩
      haveI : CallAt W w.heap.size 0 x := ⟨q4.1, by omega⟩
      have HLz := Lib.hid hl
      clear q1 q4 hne hlast hl q2
      go_wp2_with (go_at_call 63; refine (before_any z.2 x _).mono ?_; rintro e w' ⟨rfl, dW, rfl⟩)
      have hK' : (W.ext none dW).heap[D]? = some (.deferred (some [])) := ((gext W none dW).block D (Array.getElem?_eq_some_iff.1 hK).1 (by simp)).trans hK
      refine ⟨by simp, .inl ⟨_, _, rfl, run_takeDeferred hK', ?_⟩⟩
      refine ⟨_, results_tmp rfl _ _ _, ?_, Nw.of_below ((qB.trans ((Nw.refl W).ext.below.mono (by omega))).trans (belowK_b (w := w) (Nat.le_refl _) _ D _ _ (by omega) hK' rfl rfl))⟩
      have h3 := H2.out
      rw [aftF, ← h3, List.getLast?_map, HLz.out]; rfl
  case stop =>
    rintro D c pre W _ _ h _
    exact h.elim
end Go.Proofs.YtkikdpdainmlcaaGreat
namespace Go.Proofs.YtkikdpdainmlcaaGreat
open Go.RowKit Go.Xt
def MapAt (W : World) (mb n : Nat) (f : Int → Option Int) : Prop :=
  ∃ D : DataW Unit, W.ownsMap Tryz.prog 3 (plainElem Tryz.prog 3) mb n D ∧ ∀ s, Maps.has D (.int .i64 s) = (f s).isSome ∧ ∀ t, f s = some t → D.atKey (.int .i64 s) (.lit (.int .i64 0)) = .lit (.int .i64 t)
theorem MapAt.kept {W W' : World} {mb n : Nat} {f : Int → Option Int} {row : Option Nat} (h : MapAt W mb n f) (hg : W.grownBy W' row) (hne : some mb ≠ row) : MapAt W' mb n f := by
  obtain ⟨D, h1, h2⟩ := h; exact ⟨D, h1.kept hg hne, h2⟩
theorem MapAt.mono {W : World} {mb n n' : Nat} {f : Int → Option Int} (h : MapAt W mb n f) (hn : n ≤ n') : MapAt W mb n' f := by
  obtain ⟨D, h1, h2⟩ := h; exact ⟨D, h1.mono hn, h2⟩
theorem MapAt.lt {W : World} {mb n : Nat} {f : Int → Option Int} (h : MapAt W mb n f) : mb < W.heap.size := by
  obtain ⟨D, h1, _⟩ := h; exact h1.lt
theorem mapAt_new (w : World) : MapAt (w.alloc (.map #[] 0)) w.heap.size 0 (fun _ => none) := ⟨_, World.ownsMap_made w _ _ _, fun s => ⟨rfl, fun t h => by cases h⟩⟩
theorem _root_.Go.World.grownBy.widen {W W' : World} (h : W.grownBy W' none) {row : Option Nat} : W.grownBy W' row := ⟨h.os, h.tape, h.output, h.size, fun k hk _ => h.block k hk (by simp)⟩
def upd (f : Int → Option Int) (s t : Int) : Int → Option Int := fun z => if z = s then some t else f z
theorem mapAt_put {W : World} {mb n : Nat} {f : Int → Option Int} {D : DataW Unit} (s t : Int) (h1 : Maps.IsMap D) (h2 : ∀ s, Maps.has D (.int .i64 s) = (f s).isSome ∧ ∀ t, f s = some t → D.atKey (.int .i64 s) (.lit (.int .i64 0)) = .lit (.int .i64 t))
    (h3 : W.ownsMap Tryz.prog 3 (plainElem Tryz.prog 3) mb n (D.put (.int .i64 s) (.lit (.int .i64 t)))) : MapAt W mb n (upd f s t) := by
  refine ⟨_, h3, fun z => ?_⟩
  by_cases hz : z = s
  · subst hz
    rw [Maps.has_put_same h1 (show WideAt.IsKeyLit (.int .i64 z) from trivial), Maps.atKey_put_same h1 (show WideAt.IsKeyLit (.int .i64 z) from trivial)]
    simp [upd]
  · have hne : (Lit.int .i64 z) ≠ .int .i64 s := by intro e; injection e with _ e; exact hz e
    rw [Maps.has_put_other hne, Maps.atKey_put_other hne]
    simp only [upd, if_neg hz]
    exact h2 z
def apStep (t : Int) (f : Int → Option Int) (s : Int) : Option (Int → Option Int) :=
  if s < 0 then some f else match f s with
    | some u => if u = t then some (upd f s t) else none
    | none => some (upd f s t)
def apRun (t : Int) : List Int → (Int → Option Int) → Option (Int → Option Int)
  | [], f => some f
  | s :: l, f => match apStep t f s with
    | some f' => apRun t l f'
    | none => none
theorem apRun_snoc (t s : Int) : ∀ (l : List Int) (f f' : Int → Option Int), apRun t l f = some f' → apRun t (l ++ [s]) f = apStep t f' s
  | [], f, f', h => by
    injection h with h; subst h
    show (match apStep t f s with | some f' => some f' | none => none) = _
    cases apStep t f s <;> rfl
  | a :: l, f, f', h => by
    rw [apRun] at h
    rw [List.cons_append, apRun]
    cases ha : apStep t f a with
    | none => rw [ha] at h; cases h
    | some f1 => rw [ha] at h; simp only; exact apRun_snoc t s l f1 f' h
theorem apRun_none (t : Int) : ∀ (l l' : List Int) (f : Int → Option Int), apRun t l f = none → apRun t (l ++ l') f = none
  | [], l', f, h => by cases h
  | a :: l, l', f, h => by
    rw [apRun] at h
    rw [List.cons_append, apRun]
    cases ha : apStep t f a with
    | none => rfl
    | some f1 => rw [ha] at h; exact apRun_none t l l' f1 h
theorem stepAt_wf {x : Cl} (hw : WfC x) {k : Nat} {s : Int} (h : [x.inv, x.took, x.ans][k]? = some s) : (Lit.int .i64 s).wf = true := by
  have hm : s ∈ [x.inv, x.took, x.ans] := List.mem_of_getElem? h
  have : -9223372036854775808 ≤ s ∧ s ≤ 9223372036854775807 := by
    simp only [List.mem_cons, List.not_mem_nil, or_false] at hm
    rcases hm with rfl | rfl | rfl
    · exact hw.inv
    · exact hw.took
    · exact hw.ans
  simp [Lit.wf, IntKind.min, IntKind.max, IntKind.bits, IntKind.signed]; omega
set_option maxRecDepth 100000 in
set_option maxHeartbeats 8000000 in
theorem apart_any (kb mb n : Nat) (f : Int → Option Int) (x : Cl) (w : World) (hk : w.cell? ⟨kb, 1, none⟩ = some (.map (some mb))) (hM : MapAt w mb n f) (hn : n ≤ 1000000) (hkm : kb ≠ mb) (hw : WfC x) :
    Calls Tryz.prog 44 #[.pointer (some ⟨kb, 0, none⟩), cv x] w fun e w' => e = .returned (.bool (apRun x.th [x.inv, x.took, x.ans] f).isSome) ∧ (∀ f', apRun x.th [x.inv, x.took, x.ans] f = some f' → MapAt w' mb (n + 3) f') ∧ w.grownBy w' (some mb) := by
  have hkb := World.block_lt_of_cell? w _ hk
  have hmb := hM.lt
  obtain ⟨W1, hW1⟩ : ∃ W1, W1 = ((w.alloc (.cells #[.int .i64 x.th, .int .i64 x.ix, .int .u8 x.kd, .int .u64 x.ka, .int .u64 x.kb, .int .u64 x.kc, .int .u64 x.kx, .int .u64 x.ky, .int .u64 x.kz, .int .i64 x.inv, .int .i64 x.took, .int .i64 x.ans, .int .i64 x.st, .int .i64 x.re, .bool x.rf, .int .u64 x.rk, .int .u64 x.rv, .int .i64 x.rc] 45)).alloc (.cells #[.int .i64 x.inv, .int .i64 x.took, .int .i64 x.ans] 3)) := ⟨_, rfl⟩
  have hsz : W1.heap.size = w.heap.size + 2 := by rw [hW1]; simp
  have hg : w.grownBy W1 none := by rw [hW1]; exact Nw.grown (nwa)
  have his : Is W1 (some ⟨w.heap.size + 1, 0, none⟩) 3 [x.inv, x.took, x.ans] := by
    have h := Is_three (w.alloc (.cells #[.int .i64 x.th, .int .i64 x.ix, .int .u8 x.kd, .int .u64 x.ka, .int .u64 x.kb, .int .u64 x.kc, .int .u64 x.kx, .int .u64 x.ky, .int .u64 x.kz, .int .i64 x.inv, .int .i64 x.took, .int .i64 x.ans, .int .i64 x.st, .int .i64 x.re, .bool x.rf, .int .u64 x.rk, .int .u64 x.rv, .int .i64 x.rc] 45)) x.inv x.took x.ans 3
    rw [World.size_alloc] at h
    rw [hW1]; exact h
  have hth : W1.cell? ⟨w.heap.size, 0, none⟩ = some (.int .i64 x.th) := by rw [hW1]; simp [go_sem]
  have hk1 : W1.cell? ⟨kb, 1, none⟩ = some (.map (some mb)) := (World.cell?_of_block (hg.block kb hkb (by simp))).trans hk
  have hM1 : MapAt W1 mb n f := hM.kept hg (by simp)
  haveI : In w.heap.size W1 := ⟨by omega⟩
  haveI : In (w.heap.size + 1) W1 := ⟨by omega⟩
  have hkb' : kb < w.heap.size := hkb
  haveI : In kb W1 := ⟨by omega⟩
  haveI : Off w.heap.size (some mb) := ⟨by intro e; injection e with e; omega⟩
  haveI : Off (w.heap.size + 1) (some mb) := ⟨by intro e; injection e with e; omega⟩
  haveI : Off kb (some mb) := ⟨by intro e; injection e with e; omega⟩
  have HI := Lib.hid his
  have HW := Lib.hid hW1
  have HG := Lib.hid hg
  have HWf := Lib.hid hw
  clear his hW1 hg hw hk hM
  go_enter Tryz.func44, Tryz.ntmps44
  go_wp2
  rw [← HW.out]
  go_loopw [6, 7, 8, 17] (fun _ _ _ i wr => ∃ (k : Nat) (f' : Int → Option Int), k ≤ 3 ∧ i = .int .i64 k ∧ Hid (apRun x.th ([x.inv, x.took, x.ans].take k) f = some f') ∧ MapAt wr mb (n + k) f' ∧ ∃ d, wr = W1.ext (some mb) d) (fun _ _ _ i _ => 3 - (intOf i).toNat)
  case atStart => exact ⟨0, f, by omega, rfl, rfl, hM1, W1, (ext_of (gref _ _)).symm⟩
  case round =>
    obtain ⟨k, f', hk, rfl, hrun, hMk, d, rfl⟩ := hrel
    by_cases hlt : k < 3
    · obtain ⟨b, o, s, e1, hb, hx, hc⟩ := HI.out.get hlt
      obtain ⟨rfl, rfl⟩ : w.heap.size + 1 = b ∧ 0 = o := by simpa using e1
      simp only [Nat.zero_add] at hc
      have hsw := stepAt_wf HWf.out hx
      have hsnoc : Hid (apRun x.th ([x.inv, x.took, x.ans].take (k + 1)) f = apStep x.th f' s) := by
        show _ = _
        obtain ⟨p1, q1⟩ := List.getElem?_eq_some_iff.1 hx
        rw [List.take_succ_eq_append_getElem p1, q1]
        exact apRun_snoc _ _ _ _ _ hrun.out
      have hkey : keyOf Tryz.prog 3 (.int .i64 s) = some (.int .i64 s) := Maps.keyOf_int_mk Tryz.underlying3 hsw
      clear hx e1
      by_cases h0 : s < 0
      · have hd : decide (s < 0) = true := by simpa using h0
        have HM := Lib.hid hMk
        clear hMk
        go_wp2
        refine ⟨⟨k + 1, f', by omega, by go_num, ?_, HM.out.mono (by omega), _, rfl⟩, by simp [intOf]; omega⟩
        show _ = _
        rw [hsnoc.out, apStep, if_pos h0]
      · have hd : decide (s < 0) = false := by simp; omega
        obtain ⟨D, hown, hD⟩ := hMk
        have HD := Lib.hid hD
        have HOwn := Lib.hid hown
        cases hfs : f' s with
        | none =>
          have hhas : Maps.has D (.int .i64 s) = false := by rw [(hD s).1, hfs]; rfl
          clear hD hown
          go_wp2_with (at_lookup; refine wpList_lookup_own_ok_int _ rfl _ _ 95 rfl 3 3 .i64 (Maps.int_keyed Tryz.underlying3) Tryz.underlying95 Tryz.underlying3 (Tryz.zeroValue3 _) mb (n + k) D rfl HOwn.out _ _ rfl hkey ?_; intro c hat hwc)
          have g1 : (W1.ext (some mb) d).cell? ⟨kb, 1, none⟩ = some (.map (some mb)) := by rw [cell_ext]; exact hk1
          have g2 : (W1.ext (some mb) d).cell? ⟨w.heap.size, 0, none⟩ = some (.int .i64 x.th) := by rw [cell_ext]; exact hth
          have g3 : W1.grownBy (W1.ext (some mb) d) (some mb) := gext _ _ _
          have hthw : (Lit.int .i64 x.th).wf = true := by have := HWf.out.th; simp [Lit.wf, IntKind.min, IntKind.max, IntKind.bits, IntKind.signed]; omega
          have hval : plainElem (H := Unit) Tryz.prog 3 (.int .i64 x.th) = some (.lit (.int .i64 x.th), []) := plainElem_int Tryz.underlying3 hthw
          generalize W1.ext (some mb) d = Wk at g1 g2 g3 HOwn ⊢
          haveI : In kb Wk := ⟨Nat.lt_of_lt_of_le hkb (Nat.le_trans (by omega) g3.size)⟩
          go_still_tail 7, (by kernel_rfl)
          change wpList _ _ _ _ _ Wk.drew
          refine wpList_mapUpdate_own _ rfl _ _ _ 95 rfl 3 3 (Maps.int_keyed Tryz.underlying3) Tryz.underlying95 _ mb (n + k) D rfl HOwn.out.drew (by unfold maxLen; omega) _ _ (.int .i64 s) rfl rfl hkey (.lit (.int .i64 x.th)) [] hval ?_
          intro w1 hown1 hgrow1
          have hM' := Lib.hid (mapAt_put s x.th HOwn.out.isMap HD.out hown1)
          have hG' : W1.grownBy w1 (some mb) := grownBy_trans (⟨g3.os, g3.tape, g3.output, g3.size, g3.block⟩ : W1.grownBy Wk.drew (some mb)) hgrow1
          have HG' := Lib.hid hG'
          clear hgrow1 hown1 hG' g1 g2 g3
          go_wp2
          refine ⟨⟨k + 1, upd f' s x.th, by omega, by go_num, ?_, hM'.out, _, (ext_of HG'.out).symm⟩, by simp [intOf]; omega⟩
          show _ = _
          rw [hsnoc.out, apStep, if_neg (show ¬ s < 0 by omega), hfs]
        | some u =>
          have hhas : Maps.has D (.int .i64 s) = true := by rw [(hD s).1, hfs]; rfl
          have hval0 := (hD s).2 u hfs
          have HV := Lib.hid hval0
          clear hD hown hval0
          by_cases hu : u = x.th
          · have hun : (u != x.th) = false := by simpa using hu
            have HU := Lib.hid hu
            clear hu
            go_wp2_with (at_lookup; refine wpList_lookup_own_ok_int _ rfl _ _ 95 rfl 3 3 .i64 (Maps.int_keyed Tryz.underlying3) Tryz.underlying95 Tryz.underlying3 (Tryz.zeroValue3 _) mb (n + k) D rfl HOwn.out _ _ rfl hkey ?_; intro c hat hwc; obtain rfl : u = c := by (have h1 := HV.out; rw [hat] at h1; injection h1 with h1; injection h1 with _ h1; exact h1.symm))
            have g1 : (W1.ext (some mb) d).cell? ⟨kb, 1, none⟩ = some (.map (some mb)) := by rw [cell_ext]; exact hk1
            have g2 : (W1.ext (some mb) d).cell? ⟨w.heap.size, 0, none⟩ = some (.int .i64 x.th) := by rw [cell_ext]; exact hth
            have g3 : W1.grownBy (W1.ext (some mb) d) (some mb) := gext _ _ _
            have hthw : (Lit.int .i64 x.th).wf = true := by have := HWf.out.th; simp [Lit.wf, IntKind.min, IntKind.max, IntKind.bits, IntKind.signed]; omega
            have hval : plainElem (H := Unit) Tryz.prog 3 (.int .i64 x.th) = some (.lit (.int .i64 x.th), []) := plainElem_int Tryz.underlying3 hthw
            generalize W1.ext (some mb) d = Wk at g1 g2 g3 HOwn ⊢
            haveI : In kb Wk := ⟨Nat.lt_of_lt_of_le hkb (Nat.le_trans (by omega) g3.size)⟩
            go_still_tail 7, (by kernel_rfl)
            change wpList _ _ _ _ _ Wk.drew
            refine wpList_mapUpdate_own _ rfl _ _ _ 95 rfl 3 3 (Maps.int_keyed Tryz.underlying3) Tryz.underlying95 _ mb (n + k) D rfl HOwn.out.drew (by unfold maxLen; omega) _ _ (.int .i64 s) rfl rfl hkey (.lit (.int .i64 x.th)) [] hval ?_
            intro w1 hown1 hgrow1
            have hM' := Lib.hid (mapAt_put s x.th HOwn.out.isMap HD.out hown1)
            have hG' : W1.grownBy w1 (some mb) := grownBy_trans (⟨g3.os, g3.tape, g3.output, g3.size, g3.block⟩ : W1.grownBy Wk.drew (some mb)) hgrow1
            have HG' := Lib.hid hG'
            clear hgrow1 hown1 hG' g1 g2 g3
            go_wp2
            refine ⟨⟨k + 1, upd f' s x.th, by omega, by go_num, ?_, hM'.out, _, (ext_of HG'.out).symm⟩, by simp [intOf]; omega⟩
            show _ = _
            rw [hsnoc.out, apStep, if_neg (show ¬ s < 0 by omega), hfs]
            simp [HU.out]
          · have hun : (u != x.th) = true := by simpa using hu
            have HU := Lib.hid hu
            clear hu
            go_wp2_with (at_lookup; refine wpList_lookup_own_ok_int _ rfl _ _ 95 rfl 3 3 .i64 (Maps.int_keyed Tryz.underlying3) Tryz.underlying95 Tryz.underlying3 (Tryz.zeroValue3 _) mb (n + k) D rfl HOwn.out _ _ rfl hkey ?_; intro c hat hwc; obtain rfl : u = c := by (have h1 := HV.out; rw [hat] at h1; injection h1 with h1; injection h1 with _ h1; exact h1.symm))
            have hnone : apRun x.th [x.inv, x.took, x.ans] f = none := by
              have h1 : apRun x.th ([x.inv, x.took, x.ans].take (k + 1)) f = none := by
                rw [hsnoc.out, apStep, if_neg (show ¬ s < 0 by omega), hfs]; simp [HU.out]
              rw [← List.take_append_drop (k + 1) [x.inv, x.took, x.ans]]
              exact apRun_none _ _ _ _ h1
            refine bodyPost_ret (results_tmp rfl _ _ _) rfl ⟨?_, ?_, ?_⟩
            · rw [hnone]; rfl
            · intro f1 h1; rw [hnone] at h1; cases h1
            · exact grownBy_trans (HG.out.widen) (gext _ _ _)
    · have hk3 : k = 3 := by omega
      subst hk3
      have HM := Lib.hid hMk
      clear hMk
      go_wp2
      have h3 : apRun x.th [x.inv, x.took, x.ans] f = some f' := hrun.out
      refine bodyPost_ret (results_tmp rfl _ _ _) rfl ⟨?_, ?_, ?_⟩
      · rw [h3]; rfl
      · intro f1 h1; rw [h3] at h1; injection h1 with h1; rw [← h1]; exact HM.out
      · exact grownBy_trans (HG.out.widen) (gext _ _ _)
end Go.Proofs.YtkikdpdainmlcaaGreat
