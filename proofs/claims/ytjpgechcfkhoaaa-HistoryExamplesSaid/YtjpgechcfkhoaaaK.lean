import Derived.Test.YtjpgechcfkhoaaaJ
namespace Go.Proofs.Ytjpgechcfkhoaaa
open Go.RowKit Go.Xt
attribute [local go_sem] Oper.semAt_some
def lastC (pre : List (Nat × Cl)) : Cl := match pre.getLast? with | some z => z.2 | none => zc
def AftI (w : World) (x : Cl) (pre : List (Nat × Cl)) (W : World) : Prop :=
  (Box W (w.heap.size + 1) (lastC pre) ∧ W.cell? ⟨w.heap.size + 2, 0, none⟩ = some (.bool (!pre.isEmpty)) ∧ W.frozen? ⟨w.heap.size + 2, 0, none⟩ = false ∧ Box W w.heap.size x) ∧ Below w.heap.size w W
/-- .. behind the making of the iterator. -/
def AftJ (w : World) (x : Cl) (pre : List (Nat × Cl)) (W : World) : Prop := AftI w x pre W ∧ w.heap.size + 5 ≤ W.heap.size
theorem aftI_own (w : World) (x : Cl) : OwnFrom w.heap.size (AftI w x) := fun s A B row hs hg hr =>
  ⟨⟨hs.1.1.kept hg (fun r e => (hr r e).2), cell_kept hs.1.2.1 hg (fun r e => (hr r e).2), (frozen_kept hs.1.2.1 hg (fun r e => (hr r e).2)).trans hs.1.2.2.1, hs.1.2.2.2.kept hg (fun r e => (hr r e).2)⟩,
    ownFrom_below (β := Unit) (Nat.le_refl _) (Nat.le_refl _) () A B row hs.2 hg hr⟩
set_option maxRecDepth 100000 in
set_option maxHeartbeats 8000000 in
theorem after_any (kb m cap : Nat) (A : Option Addr) (L : List Cl) (x : Cl) (w : World) (hm : m ≤ 1000) (hk : w.cell? ⟨kb, 0, none⟩ = some (.slice A (m + 1) cap)) (hl : Cs w A (m + 1) L) (hx : L[m]? = some x) (hcap : m + 1 ≤ cap) (hcapm : cap ≤ 9223372036854775807) :
    Calls Try.prog 36 #[.pointer (some ⟨kb, 0, none⟩), cv x] w fun e w' => e = .returned (.bool (aftF (L.take m) x)) ∧ Nw w w' := by
  have hkb := World.block_lt_of_cell? w _ hk
  haveI : In kb w := ⟨hkb⟩
  obtain ⟨b, o, y, rfl, hb, hy, hcy⟩ := hl.get (show m < m + 1 by omega)
  haveI : In b w := ⟨hb⟩
  have HL := Lib.hid hl
  have HX := Lib.hid hx
  clear hl hx hy hcy
  -- the boxes
  have b0 : Box (((w.alloc (.cells #[.int .i64 x.th, .int .i64 x.ix, .int .u8 x.kd, .int .u64 x.ka, .int .u64 x.kb, .int .u64 x.kc, .int .u64 x.kx, .int .u64 x.ky, .int .u64 x.kz, .int .i64 x.inv, .int .i64 x.took, .int .i64 x.ans, .int .i64 x.st, .int .i64 x.re, .bool x.rf, .int .u64 x.rk, .int .u64 x.rv, .int .i64 x.rc] 47)).alloc (.cells #[.int .i64 0, .int .i64 0, .int .u8 0, .int .u64 0, .int .u64 0, .int .u64 0, .int .u64 0, .int .u64 0, .int .u64 0, .int .i64 0, .int .i64 0, .int .i64 0, .int .i64 0, .int .i64 0, .bool false, .int .u64 0, .int .u64 0, .int .i64 0] 47)).alloc (.cells #[.bool false] 4)) w.heap.size x := ((newBox w x).same (RowKit.Below.heap_alloc _ _ _ (by simp))).same (RowKit.Below.heap_alloc _ _ _ (by simp; omega))
  have b1 : Box (((w.alloc (.cells #[.int .i64 x.th, .int .i64 x.ix, .int .u8 x.kd, .int .u64 x.ka, .int .u64 x.kb, .int .u64 x.kc, .int .u64 x.kx, .int .u64 x.ky, .int .u64 x.kz, .int .i64 x.inv, .int .i64 x.took, .int .i64 x.ans, .int .i64 x.st, .int .i64 x.re, .bool x.rf, .int .u64 x.rk, .int .u64 x.rv, .int .i64 x.rc] 47)).alloc (.cells #[.int .i64 0, .int .i64 0, .int .u8 0, .int .u64 0, .int .u64 0, .int .u64 0, .int .u64 0, .int .u64 0, .int .u64 0, .int .i64 0, .int .i64 0, .int .i64 0, .int .i64 0, .int .i64 0, .bool false, .int .u64 0, .int .u64 0, .int .i64 0] 47)).alloc (.cells #[.bool false] 4)) (w.heap.size + 1) zc := by
    have h := (newBox (w.alloc (.cells #[.int .i64 x.th, .int .i64 x.ix, .int .u8 x.kd, .int .u64 x.ka, .int .u64 x.kb, .int .u64 x.kc, .int .u64 x.kx, .int .u64 x.ky, .int .u64 x.kz, .int .i64 x.inv, .int .i64 x.took, .int .i64 x.ans, .int .i64 x.st, .int .i64 x.re, .bool x.rf, .int .u64 x.rk, .int .u64 x.rv, .int .i64 x.rc] 47)) zc)
    rw [World.size_alloc] at h
    exact h.same (RowKit.Below.heap_alloc _ _ _ (by simp))
  obtain ⟨W4, hst, b1', hwr⟩ := store_box b1 zc
  have b0' : Box W4 w.heap.size x := b0.same (hwr.others _ (by omega))
  have hB3 : Below w.heap.size w (((w.alloc (.cells #[.int .i64 x.th, .int .i64 x.ix, .int .u8 x.kd, .int .u64 x.ka, .int .u64 x.kb, .int .u64 x.kc, .int .u64 x.kx, .int .u64 x.ky, .int .u64 x.kz, .int .i64 x.inv, .int .i64 x.took, .int .i64 x.ans, .int .i64 x.st, .int .i64 x.re, .bool x.rf, .int .u64 x.rk, .int .u64 x.rv, .int .i64 x.rc] 47)).alloc (.cells #[.int .i64 0, .int .i64 0, .int .u8 0, .int .u64 0, .int .u64 0, .int .u64 0, .int .u64 0, .int .u64 0, .int .u64 0, .int .i64 0, .int .i64 0, .int .i64 0, .int .i64 0, .int .i64 0, .bool false, .int .u64 0, .int .u64 0, .int .i64 0] 47)).alloc (.cells #[.bool false] 4)) := (((Below.refl _ w).alloc (Nat.le_refl _) _).alloc (by simp) _).alloc (by simp; omega) _
  have hB4 : Below w.heap.size w W4 := hB3.trans (hwr.below (by omega))
  have c0 : W4.cell? ⟨w.heap.size + 2, 0, none⟩ = some (.bool false) := (hwr.cell (by omega)).trans (by simp [go_sem])
  have f0 : W4.frozen? ⟨w.heap.size + 2, 0, none⟩ = false := (hwr.frozen (by omega)).trans (by simp [go_sem])
  have hk4 : W4.cell? ⟨kb, 0, none⟩ = some (.slice (some ⟨b, o, none⟩) (m + 1) cap) := (hB4.cell (p := ⟨kb, 0, none⟩) hkb).trans hk
  have hs4 : W4.heap.size = w.heap.size + 3 := by rw [hwr.size]; simp
  have t0 : W4.cell? ⟨w.heap.size, 0, none⟩ = some (.int .i64 x.th) := b0'.1.1
  have hst' : (storeCall (.pointer (some ⟨w.heap.size + 1, 0, none⟩)) (.agg #[.int .i64 0, .int .i64 0, .int .u8 0, .int .u64 0, .int .u64 0, .int .u64 0, .int .u64 0, .int .u64 0, .int .u64 0, .int .i64 0, .int .i64 0, .int .i64 0, .int .i64 0, .int .i64 0, .bool false, .int .u64 0, .int .u64 0, .int .i64 0])).run Try.prog (((w.alloc (.cells #[.int .i64 x.th, .int .i64 x.ix, .int .u8 x.kd, .int .u64 x.ka, .int .u64 x.kb, .int .u64 x.kc, .int .u64 x.kx, .int .u64 x.ky, .int .u64 x.kz, .int .i64 x.inv, .int .i64 x.took, .int .i64 x.ans, .int .i64 x.st, .int .i64 x.re, .bool x.rf, .int .u64 x.rk, .int .u64 x.rv, .int .i64 x.rc] 47)).alloc (.cells #[.int .i64 0, .int .i64 0, .int .u8 0, .int .u64 0, .int .u64 0, .int .u64 0, .int .u64 0, .int .u64 0, .int .u64 0, .int .i64 0, .int .i64 0, .int .i64 0, .int .i64 0, .int .i64 0, .bool false, .int .u64 0, .int .u64 0, .int .i64 0] 47)).alloc (.cells #[.bool false] 4)) = .ok () W4 := hst
  clear hst b0 b1 hwr hB3
  refine (callsIn_wide (n := 9)).1 ?_
  refine callsIn_of_wp_marks Try.func36 rfl trivial ?_ rfl
  refine wpIn_wide.2 ?_
  simp only [Try.ntmps36, List.size_toArray, List.length_cons, List.length_nil, Nat.reduceAdd, Nat.reduceSub, Array.replicate_succ, Array.replicate_zero, List.push_toArray, List.append_toArray, List.nil_append, List.cons_append]
  go_upto_region 2 with fail
  have hwm : IntKind.i64.wrap (m : Int) = (m : Int) := by rw [IntKind.wrap_i64] <;> omega
  have hmc : (m : Int) ≤ (cap : Int) := by omega
  have e0 : Box (W4.setCell ⟨w.heap.size + 1 + 1, 0, none⟩ (.bool false)) w.heap.size x := b0'.same (heap_set _ _ _ _ (by show w.heap.size + 1 + 1 ≠ w.heap.size; omega))
  have e1 : Box (W4.setCell ⟨w.heap.size + 1 + 1, 0, none⟩ (.bool false)) (w.heap.size + 1) zc := b1'.same (heap_set _ _ _ _ (by simp))
  have e2 : (W4.setCell ⟨w.heap.size + 1 + 1, 0, none⟩ (.bool false)).cell? ⟨w.heap.size + 2, 0, none⟩ = some (.bool false) := World.cell?_setCell_same' _ _ _ (by rw [c0]; rfl)
  have e3 : (W4.setCell ⟨w.heap.size + 1 + 1, 0, none⟩ (.bool false)).frozen? ⟨w.heap.size + 2, 0, none⟩ = false := (World.frozen?_setCell ..).trans f0
  have e4 : (W4.setCell ⟨w.heap.size + 1 + 1, 0, none⟩ (.bool false)).cell? ⟨kb, 0, none⟩ = some (.slice (some ⟨b, o, none⟩) (m + 1) cap) := (World.cell?_of_block (heap_set _ _ _ _ (by show w.heap.size + 1 + 1 ≠ kb; have : kb < w.heap.size := hkb; omega))).trans hk4
  have e5 : Below w.heap.size w (W4.setCell ⟨w.heap.size + 1 + 1, 0, none⟩ (.bool false)) := hB4.setCell (p := ⟨w.heap.size + 1 + 1, 0, none⟩) (by show w.heap.size ≤ w.heap.size + 1 + 1; omega) _
  have e6 : (W4.setCell ⟨w.heap.size + 1 + 1, 0, none⟩ (.bool false)).heap.size = w.heap.size + 3 := by simpa using hs4
  generalize W4.setCell ⟨w.heap.size + 1 + 1, 0, none⟩ (.bool false) = W5 at e0 e1 e2 e3 e4 e5 e6 ⊢
  clear b1' b0' hB4 c0 f0 hk4 hs4 t0 hst'
  have t0 := e0.1.1
  haveI : In w.heap.size W5 := ⟨by omega⟩
  haveI : In kb W5 := ⟨Nat.lt_of_lt_of_le hkb e5.size⟩
  have E0 := Lib.hid e0
  have E1 := Lib.hid e1
  clear e0 e1
  go_still_tail 13, (by kernel_rfl)
  change wpList _ _ _ _ _ W5.drew
  have g0 : Hid (Box W5.drew w.heap.size x) := E0
  have g1 : Hid (Box W5.drew (w.heap.size + 1) zc) := E1
  have g2 : W5.drew.cell? ⟨w.heap.size + 2, 0, none⟩ = some (.bool false) := e2
  have g3 : W5.drew.frozen? ⟨w.heap.size + 2, 0, none⟩ = false := e3
  have g5 : Below w.heap.size w W5.drew := e5.drew
  have g6 : W5.drew.heap.size = w.heap.size + 3 := e6
  generalize W5.drew = W6 at g0 g1 g2 g3 g5 g6 ⊢
  clear E0 E1 e2 e3 e4 e5 e6 t0
  go_wp2_with (go_at_call 39; refine (of_any _ _ _ _ _).mono ?_; rintro e w' ⟨rfl, rfl⟩)
  have hO : OwnFrom w.heap.size (AftI w x) := aftI_own w x
  have h0 : AftI w x [] ((W6.alloc (.cells #[.int .i64 x.th] 3)).alloc (.cells #[.slice (some ⟨b, o, none⟩) m cap] 22)) := (aftI_own w x).alloc _ ((aftI_own w x).alloc _ ⟨⟨g1.out, g2, g3, g0.out⟩, g5⟩)
  have hW7 : ((W6.alloc (.cells #[.int .i64 x.th] 3)).alloc (.cells #[.slice (some ⟨b, o, none⟩) m cap] 22)).heap.size = w.heap.size + 3 + 1 + 1 := by simp [g6]
  have hCs := (HL.out.take (show m ≤ m + 1 by omega)).nw (((Nw.of_below g5).alloc (.cells #[.int .i64 x.th] 3)).alloc (.cells #[.slice (some ⟨b, o, none⟩) m cap] 22))
  have c1 : ((W6.alloc (.cells #[.int .i64 x.th] 3)).alloc (.cells #[.slice (some ⟨b, o, none⟩) m cap] 22)).cell? ⟨w.heap.size + 3 + 1, 0, none⟩ = some (.slice (some ⟨b, o, none⟩) m cap) := by rw [← g6]; simp [go_sem]
  have c2 : ((W6.alloc (.cells #[.int .i64 x.th] 3)).alloc (.cells #[.slice (some ⟨b, o, none⟩) m cap] 22)).cell? ⟨w.heap.size + 3, 0, none⟩ = some (.int .i64 x.th) := by rw [← g6]; simp [go_sem]
  generalize ((W6.alloc (.cells #[.int .i64 x.th] 3)).alloc (.cells #[.slice (some ⟨b, o, none⟩) m cap] 22)) = W7 at h0 hW7 hCs c1 c2 ⊢
  clear g0 g1 g2 g3 g5
  refine (wpIn_wide (n := 9)).1 ?_
  refine wpIn_rangeFunc_ownH (F := Fence.wide) (n := 9) rfl (by omega) (gf := 48) (lb := #[.pointer (some ⟨w.heap.size + 3 + 1, 0, none⟩), .pointer (some ⟨w.heap.size + 3, 0, none⟩)]) rfl trivial (enters_of Try.func48 (by kernel_rfl) rfl)
    (of_stops Fence.wide (9 - 1) trivial rfl (by omega) (w.heap.size + 3 + 1) (w.heap.size + 3) w.heap.size x.th (some ⟨b, o, none⟩) m cap (L.take m) (by omega) W7 (by omega) (fun _ b' o' e => by injection e with e; injection e with e1 e2; omega) c1 c2 hCs) KT.trans (KT.put (by omega) (by omega)) (Below.refl _ _) (fun _ => rfl)
    (AftJ w x) (fun _ _ _ => False)
    (fun s A B row hs hg hr => ⟨hO s A B row hs.1 hg (fun r e => ⟨by have := (hr r e).1; omega, (hr r e).2⟩), Nat.le_trans hs.2 hg.size⟩)
    (fun _ _ _ _ _ hs _ _ => hs) ⟨h0, by omega⟩
    (fun z a' W => ∃ Bx, w.heap.size + 3 + 1 < Bx ∧ AtC W Bx 0 z.2 ∧ a' = { tmps := #[.pointer (some ⟨kb, 0, none⟩), cv x, undef, .pointer (some ⟨w.heap.size, 0, none⟩), .bool false, .pointer (some ⟨w.heap.size + 1, 0, none⟩), .pointer (some ⟨w.heap.size + 1 + 1, 0, none⟩), undef, .pointer (some ⟨Bx, 0, none⟩), .agg #[.int .i64 0, .int .i64 0, .int .u8 0, .int .u64 0, .int .u64 0, .int .u64 0, .int .u64 0, .int .u64 0, .int .u64 0, .int .i64 0, .int .i64 0, .int .i64 0, .int .i64 0, .int .i64 0, .bool false, .int .u64 0, .int .u64 0, .int .i64 0], .pointer (some ⟨w.heap.size, 0, none⟩), .int .i64 x.th, .pointer (some ⟨kb, 0, none⟩), .pointer (some ⟨kb, 0, none⟩), .pointer (some ⟨kb, 0, none⟩), .slice (some ⟨b, o, none⟩) (m + 1) cap, .pointer (some ⟨kb, 0, none⟩), .pointer (some ⟨kb, 0, none⟩), .pointer (some ⟨kb, 0, none⟩), .slice (some ⟨b, o, none⟩) (m + 1) cap, .int .i64 ((m : Int) + 1), .int .i64 (m : Int), .slice (some ⟨b, o, none⟩) m cap, .func (.func 48) #[] #[.pointer (some ⟨w.heap.size + 3 + 1, 0, none⟩), .pointer (some ⟨w.heap.size + 3, 0, none⟩)], .int .i64 (z.1 : Int), cv z.2, undef, undef, undef, undef, undef, undef, undef, undef], defers := [] })
    (fun z a' _ X Y row hs hg hr => by obtain ⟨Bx, h1, h2, h3⟩ := hs; exact ⟨Bx, h1, h2.kept hg (fun r e => (hr r e).2), h3⟩)
    ?assign ?body ?done ?stop
  case assign =>
    rintro l pre z W K hi hK
    gi_wp2
    exact hK _ _ ((KeepsOthers.alloc _ _).from _) ((KT.refl _ _ W).alloc (by have := hi.2; omega) (by have := hi.2; omega) _) ⟨hO.alloc _ hi.1, by have := hi.2; simp; omega⟩ ⟨W.heap.size, by have := hi.2; omega, boxed W z.2 _, rfl⟩
  case body =>
    rintro l pre z a' W hl ⟨r, hr⟩ ⟨⟨⟨q1, q2, q3, q4⟩, qB⟩, qs⟩ ⟨Bx, hBx, bX, rfl⟩ hlt
    obtain ⟨v17, hv17⟩ := bX.some 0 (by omega)
    haveI : CallAt W Bx 0 z.2 := ⟨bX, World.block_lt_of_cell? W _ hv17⟩
    obtain ⟨W', hst, p1, pw⟩ := store_box q1 z.2
    have p2 : W'.cell? ⟨w.heap.size + 1 + 1, 0, none⟩ = some (.bool (!pre.isEmpty)) := (pw.cell (by omega)).trans q2
    have p3 : W'.frozen? ⟨w.heap.size + 1 + 1, 0, none⟩ = false := (pw.frozen (by omega)).trans q3
    have P1 := Lib.hid p1; have PW := Lib.hid pw; have Q1 := Lib.hid q1; have Q4 := Lib.hid q4
    clear p1 pw q1 q4 hv17 q2 q3
    gi_wp2
    have hne : (w.heap.size + 1 + 1 : Nat) ≠ w.heap.size + 1 := by omega
    refine ⟨(PW.out.keeps.trans (KeepsOthers.setCell _ _ _)).from _, ⟨(PW.out.below (by omega)).setCell (p := ⟨w.heap.size + 1 + 1, 0, none⟩) (by show w.heap.size ≤ w.heap.size + 1 + 1; omega) _, (heap_set _ _ _ _ (by show w.heap.size + 1 + 1 ≠ w.heap.size + 3; omega)).trans (PW.out.others _ (by omega))⟩,
      ⟨⟨⟨?_, ?_, (World.frozen?_setCell ..).trans p3, ?_⟩, ?_⟩, ?_⟩⟩
    · have : lastC (pre ++ [z]) = z.2 := by simp [lastC]
      rw [this]
      exact P1.out.same (heap_set _ _ _ _ hne)
    · have : (!(pre ++ [z]).isEmpty) = true := by simp
      rw [this]
      exact World.cell?_setCell_same' _ _ _ (by rw [p2]; rfl)
    · exact (Q4.out.same (PW.out.others _ (by omega))).same (heap_set _ _ _ _ (by show w.heap.size + 1 + 1 ≠ w.heap.size; omega))
    · exact (qB.trans (PW.out.below (by omega))).setCell (p := ⟨w.heap.size + 1 + 1, 0, none⟩) (by show w.heap.size ≤ w.heap.size + 1 + 1; omega) _
    · have := PW.out.size; simp; omega
  case done =>
    rintro D ys W hD rfl ⟨⟨⟨q1, q2, q3, q4⟩, qB⟩, qs⟩ hK
    have hend := fun o' => belowK_b (w := w) (Nat.le_refl _) W D _ o' (by omega) hK rfl rfl
    have h2 := ofK_of x.th (L.take m) m (by rw [List.length_take, HL.out.1]; omega)
    rw [List.take_take, Nat.min_self] at h2
    obtain ⟨ys, hys⟩ : ∃ ys, ys = ofK x.th (L.take m) m := ⟨_, rfl⟩
    rw [← hys] at h2 q1 q2
    have H2 := Lib.hid h2
    clear h2 hys
    rcases hl : ys.getLast? with _ | z
    · have hnil : ys = [] := List.getLast?_eq_none_iff.1 hl
      subst hnil
      have q2' : W.cell? ⟨w.heap.size + 1 + 1, 0, none⟩ = some (.bool false) := q2
      clear q1 q4 hl q2
      go_wp2
      refine ⟨by simp, .inl ⟨_, _, rfl, run_takeDeferred hK, ?_⟩⟩
      refine ⟨_, results_tmp rfl _ _ _, ?_, Nw.of_below (qB.trans (hend _))⟩
      have h3 := H2.out
      rw [aftF, ← h3]; rfl
    · have hne : (!ys.isEmpty) = true := by
        cases ys with
        | nil => simp at hl
        | cons => rfl
      have hlast : lastC ys = z.2 := by rw [lastC, hl]
      rw [hne] at q2
      rw [hlast] at q1
      have q2' : W.cell? ⟨w.heap.size + 1 + 1, 0, none⟩ = some (.bool true) := q2
      haveI : CallAt W (w.heap.size + 1) 0 z.2 := ⟨q1.1, by omega⟩
      haveI : CallAt W w.heap.size 0 x := ⟨q4.1, by omega⟩
      have HLz := Lib.hid hl
      clear q1 q4 hne hlast hl q2
      go_wp2_with (go_at_call 30; refine (before_any z.2 x _).mono ?_; rintro e w' ⟨rfl, dW, rfl⟩)
      have hK' : (W.ext none dW).heap[D]? = some (.deferred (some [])) := ((gext W none dW).block D (Array.getElem?_eq_some_iff.1 hK).1 (by simp)).trans hK
      refine ⟨by simp, .inl ⟨_, _, rfl, run_takeDeferred hK', ?_⟩⟩
      refine ⟨_, results_tmp rfl _ _ _, ?_, Nw.of_below ((qB.trans ((Nw.refl W).ext.below.mono (by omega))).trans (belowK_b (w := w) (Nat.le_refl _) _ D _ _ (by omega) hK' rfl rfl))⟩
      have h3 := H2.out
      rw [aftF, ← h3, List.getLast?_map, HLz.out]; rfl
  case stop =>
    rintro D c pre W _ _ h _
    exact h.elim
end Go.Proofs.Ytjpgechcfkhoaaa
