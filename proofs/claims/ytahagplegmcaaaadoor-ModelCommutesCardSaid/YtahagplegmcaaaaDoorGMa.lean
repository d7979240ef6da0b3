import Derived.Test.YtahagplegmcaaaaDoorProg
import Derived.Test.YtahagplegmcaaaaDoorLib2
import Derived.Test.YtahagplegmcaaaaDoorLaw
import Derived.StillTailTactics
import Derived.Deep.DeepCutAuto
import Derived.Deep.RegionHeld3
import Derived.Deep.CutBlock
import Derived.BigRegion
import Derived.Laws.OwnMore
import Derived.Laws.StructEq
import Derived.Laws.Closers25
set_option linter.unusedVariables false
set_option linter.unusedSimpArgs false
set_option linter.unnecessarySimpa false
namespace Go.Proofs.YtahagplegmcaaaaDoor
open Go.RowKit Go.Xt
/-! A configuration with so many threads and slots; its check. -/
/-- A configuration with so many threads and slots. -/
abbrev cfgV (t s : Int) : Value := .agg #[.int .i64 t, .int .i64 s, .int .u8 1, .int .i64 0, .int .u8 1, .int .i64 0, .slice none 0 0, .int .i64 0, .int .i64 0, .int .i64 0, .int .i64 0, .int .i64 0, .int .i64 0, .int .i64 1, .int .i64 1, .int .i64 0]
set_option maxRecDepth 20000 in
set_option maxHeartbeats 4000000 in
theorem fixed_any (t s : Int) (w : World) :
    Calls Tryd.prog 14 #[.int .i64 t, .int .i64 s] w fun e w' => e = .returned (cfgV t s) ∧ Nw w w' := by
  go_enter Tryd.func14, Tryd.ntmps14
  go_wp2
  refine bodyPost_ret (v := cfgV t s) ?_ rfl ⟨rfl, (by repeat (first | exact Xt.Nw.refl _ | refine Xt.Nw.drew ?_ | refine Xt.Nw.drewN ?_ _ | refine Xt.Nw.alloc ?_ _ | refine Xt.Nw.joined ?_ | refine Xt.Nw.drewd ?_ | refine Xt.Nw.drewdN ?_ | refine Xt.Nw.ext ?_ | refine Xt.Nw.ext_some ?_ (by assumption) | refine Xt.Nw.setCell ?_ (by simp [go_sem] <;> omega) _))⟩
  simp [results, Tryd.results14, go_sem, *]
theorem within_tt (n a b : Int) (w : World) (h1 : a ≤ n) (h2 : n ≤ b) :
    Calls Tryd.prog 47 #[.int .i64 n, .int .i64 a, .int .i64 b] w fun e w' => e = .returned (.bool true) ∧ Nw w w' := by
  have d1 : decide (a ≤ n) = true := by simpa using h1
  have d2 : decide (n ≤ b) = true := by simpa using h2
  go_enter Tryd.func47, Tryd.ntmps47
  go_wp2
  go_ret
  exact ⟨rfl, (by repeat (first | exact Xt.Nw.refl _ | refine Xt.Nw.drew ?_ | refine Xt.Nw.drewN ?_ _ | refine Xt.Nw.alloc ?_ _ | refine Xt.Nw.joined ?_ | refine Xt.Nw.drewd ?_ | refine Xt.Nw.drewdN ?_ | refine Xt.Nw.ext ?_ | refine Xt.Nw.ext_some ?_ (by assumption) | refine Xt.Nw.setCell ?_ (by simp [go_sem] <;> omega) _))⟩
set_option maxRecDepth 20000 in
set_option maxHeartbeats 4000000 in
theorem domain_any (w : World) :
    Calls Tryd.prog 48 #[.agg #[.int .u8 1, .int .i64 0, .slice none 0 0]] w fun e w' => e = .returned (.int .i64 0) ∧ Nw w w' := by
  go_enter Tryd.func48, Tryd.ntmps48
  go_wp2
  go_ret
  exact ⟨rfl, (by repeat (first | exact Xt.Nw.refl _ | refine Xt.Nw.drew ?_ | refine Xt.Nw.drewN ?_ _ | refine Xt.Nw.alloc ?_ _ | refine Xt.Nw.joined ?_ | refine Xt.Nw.drewd ?_ | refine Xt.Nw.drewdN ?_ | refine Xt.Nw.ext ?_ | refine Xt.Nw.ext_some ?_ (by assumption) | refine Xt.Nw.setCell ?_ (by simp [go_sem] <;> omega) _))⟩
end Go.Proofs.YtahagplegmcaaaaDoor
namespace Go.Proofs.YtahagplegmcaaaaDoor
open Go.RowKit Go.Xt
/-! layout.Check of such a configuration. -/
set_option maxRecDepth 20000 in
@[go_sem high] theorem idx6_0 (w : World) : Sem.run Tryd.prog (Instr.index 48 (.agg #[.int .i64 0, .int .i64 0, .int .i64 0, .int .i64 0, .int .i64 0, .int .i64 0]) (.int .i64 0)) w = .ok (.int .i64 0) w := by rfl
set_option maxRecDepth 20000 in
@[go_sem high] theorem idx6_1 (w : World) : Sem.run Tryd.prog (Instr.index 48 (.agg #[.int .i64 0, .int .i64 0, .int .i64 0, .int .i64 0, .int .i64 0, .int .i64 0]) (.int .i64 1)) w = .ok (.int .i64 0) w := by rfl
set_option maxRecDepth 20000 in
@[go_sem high] theorem idx6_2 (w : World) : Sem.run Tryd.prog (Instr.index 48 (.agg #[.int .i64 0, .int .i64 0, .int .i64 0, .int .i64 0, .int .i64 0, .int .i64 0]) (.int .i64 2)) w = .ok (.int .i64 0) w := by rfl
set_option maxRecDepth 20000 in
@[go_sem high] theorem idx6_3 (w : World) : Sem.run Tryd.prog (Instr.index 48 (.agg #[.int .i64 0, .int .i64 0, .int .i64 0, .int .i64 0, .int .i64 0, .int .i64 0]) (.int .i64 3)) w = .ok (.int .i64 0) w := by rfl
set_option maxRecDepth 20000 in
@[go_sem high] theorem idx6_4 (w : World) : Sem.run Tryd.prog (Instr.index 48 (.agg #[.int .i64 0, .int .i64 0, .int .i64 0, .int .i64 0, .int .i64 0, .int .i64 0]) (.int .i64 4)) w = .ok (.int .i64 0) w := by rfl
set_option maxRecDepth 20000 in
@[go_sem high] theorem idx6_5 (w : World) : Sem.run Tryd.prog (Instr.index 48 (.agg #[.int .i64 0, .int .i64 0, .int .i64 0, .int .i64 0, .int .i64 0, .int .i64 0]) (.int .i64 5)) w = .ok (.int .i64 0) w := by rfl
set_option maxRecDepth 20000 in
set_option maxHeartbeats 8000000 in
theorem layout_any (t s : Int) (w : World) (ht : 1 ≤ t ∧ t ≤ 64) (hs : 1 ≤ s ∧ s ≤ 64) :
    Calls Tryd.prog 25 #[cfgV t s] w fun e w' => e = .returned (.int .i64 0) ∧ Nw w w' := by
  obtain ⟨W1, hW1⟩ : ∃ W1, W1 = w.alloc (.cells #[.int .i64 t, .int .i64 s, .int .u8 1, .int .i64 0, .int .u8 1, .int .i64 0, .slice none 0 0, .int .i64 0, .int .i64 0, .int .i64 0, .int .i64 0, .int .i64 0, .int .i64 0, .int .i64 1, .int .i64 1, .int .i64 0] 50) := ⟨_, rfl⟩
  have hN1 : Nw w W1 := by rw [hW1]; exact (by repeat (first | exact Xt.Nw.refl _ | refine Xt.Nw.drew ?_ | refine Xt.Nw.drewN ?_ _ | refine Xt.Nw.alloc ?_ _ | refine Xt.Nw.joined ?_ | refine Xt.Nw.drewd ?_ | refine Xt.Nw.drewdN ?_ | refine Xt.Nw.ext ?_ | refine Xt.Nw.ext_some ?_ (by assumption) | refine Xt.Nw.setCell ?_ (by simp [go_sem] <;> omega) _))
  have b0 : W1.cell? ⟨w.heap.size, 0, none⟩ = some (.int .i64 t) := by rw [hW1]; simp [go_sem]
  have b1 : W1.cell? ⟨w.heap.size, 1, none⟩ = some (.int .i64 s) := by rw [hW1]; simp [go_sem]
  have b2 : W1.cell? ⟨w.heap.size, 2, none⟩ = some (.int .u8 1) := by rw [hW1]; simp [go_sem]
  have b3 : W1.cell? ⟨w.heap.size, 3, none⟩ = some (.int .i64 0) := by rw [hW1]; simp [go_sem]
  have b4 : W1.cell? ⟨w.heap.size, 4, none⟩ = some (.int .u8 1) := by rw [hW1]; simp [go_sem]
  have b5 : W1.cell? ⟨w.heap.size, 5, none⟩ = some (.int .i64 0) := by rw [hW1]; simp [go_sem]
  have b6 : W1.cell? ⟨w.heap.size, 6, none⟩ = some (.slice none 0 0) := by rw [hW1]; simp [go_sem]
  have b7 : W1.cell? ⟨w.heap.size, 7, none⟩ = some (.int .i64 0) := by rw [hW1]; simp [go_sem]
  have b8 : W1.cell? ⟨w.heap.size, 8, none⟩ = some (.int .i64 0) := by rw [hW1]; simp [go_sem]
  have b9 : W1.cell? ⟨w.heap.size, 9, none⟩ = some (.int .i64 0) := by rw [hW1]; simp [go_sem]
  have b10 : W1.cell? ⟨w.heap.size, 10, none⟩ = some (.int .i64 0) := by rw [hW1]; simp [go_sem]
  have b11 : W1.cell? ⟨w.heap.size, 11, none⟩ = some (.int .i64 0) := by rw [hW1]; simp [go_sem]
  have b12 : W1.cell? ⟨w.heap.size, 12, none⟩ = some (.int .i64 0) := by rw [hW1]; simp [go_sem]
  have b13 : W1.cell? ⟨w.heap.size, 13, none⟩ = some (.int .i64 1) := by rw [hW1]; simp [go_sem]
  have b14 : W1.cell? ⟨w.heap.size, 14, none⟩ = some (.int .i64 1) := by rw [hW1]; simp [go_sem]
  have b15 : W1.cell? ⟨w.heap.size, 15, none⟩ = some (.int .i64 0) := by rw [hW1]; simp [go_sem]
  have HW1 := Lib.hid hW1
  have HN1 := Lib.hid hN1
  haveI : In w.heap.size W1 := ⟨World.block_lt_of_cell? W1 _ b0⟩
  obtain ⟨t1, t2⟩ := ht
  obtain ⟨s1, s2⟩ := hs
  clear hW1 hN1
  go_enter Tryd.func25, Tryd.ntmps25
  go_upto_region 1 with (fail)
  rw [← HW1.out]
  go_wp2
  go_loopw [4, 18] (fun a b wr => ∃ i : Nat, i ≤ 6 ∧ a = .int .i64 1024 ∧ b = .int .i64 i ∧ Nw W1 wr) (fun _ b _ => 6 - (intOf b).toNat)
  case atStart => exact ⟨0, by omega, rfl, rfl, Nw.refl _⟩
  case round =>
    obtain ⟨i, hi, rfl, rfl, d, rfl⟩ := hrel
    rcases (by omega : i = 0 ∨ i = 1 ∨ i = 2 ∨ i = 3 ∨ i = 4 ∨ i = 5 ∨ i = 6) with hz | rfl | rfl | rfl | rfl | rfl | rfl
    · have hiI : (i : Int) = 0 := by omega
      have hz2 := Lib.hid hz
      clear hz
      go_wp2
      exact ⟨⟨1, by omega, rfl, rfl, ⟨_, rfl⟩⟩, by simp [intOf, hz2.out]⟩
    · go_wp2
      exact ⟨⟨2, by omega, rfl, rfl, ⟨_, rfl⟩⟩, by simp [intOf]⟩
    · go_wp2
      exact ⟨⟨3, by omega, rfl, rfl, ⟨_, rfl⟩⟩, by simp [intOf]⟩
    · go_wp2
      exact ⟨⟨4, by omega, rfl, rfl, ⟨_, rfl⟩⟩, by simp [intOf]⟩
    · go_wp2
      exact ⟨⟨5, by omega, rfl, rfl, ⟨_, rfl⟩⟩, by simp [intOf]⟩
    · go_wp2
      exact ⟨⟨6, by omega, rfl, rfl, ⟨_, rfl⟩⟩, by simp [intOf]⟩
    · go_wp2_with (first
        | (go_at_call 47; refine (within_tt _ _ _ _ (by omega) (by omega)).mono ?_; rintro e w' ⟨rfl, dW, rfl⟩)
        | (go_at_call 48; refine (domain_any _).mono ?_; rintro e w' ⟨rfl, dW, rfl⟩))
      go_ret
      exact ⟨rfl, HN1.out.trans ((by repeat (first | exact Xt.Nw.refl _ | refine Xt.Nw.drew ?_ | refine Xt.Nw.drewN ?_ _ | refine Xt.Nw.alloc ?_ _ | refine Xt.Nw.joined ?_ | refine Xt.Nw.drewd ?_ | refine Xt.Nw.drewdN ?_ | refine Xt.Nw.ext ?_ | refine Xt.Nw.ext_some ?_ (by assumption) | refine Xt.Nw.setCell ?_ (by simp [go_sem] <;> omega) _)))⟩
end Go.Proofs.YtahagplegmcaaaaDoor
namespace Go.Proofs.YtahagplegmcaaaaDoor
open Go.RowKit Go.Xt
/-! A model in memory; New. -/
set_option maxRecDepth 20000 in
set_option maxHeartbeats 4000000 in
theorem omapnew_any (w : World) :
    Calls Tryd.prog 26 #[.slice none 0 0] w fun e w' => e = .returned (.tuple #[.pointer (some ⟨w.heap.size, 0, none⟩), .int .i64 0]) ∧ w' = w.alloc (.cells #[.slice none 0 0] 84) := by
  go_enter Tryd.func26, Tryd.ntmps26
  go_wp2
  go_loopw [13] (fun a wr => a = .int .i64 0 ∧ wr = w.alloc (.cells #[.slice none 0 0] 84)) (fun _ _ => 0)
  case atStart => exact ⟨rfl, rfl⟩
  case round =>
    obtain ⟨rfl, rfl⟩ := hrel
    go_wp2
    exact bodyPost_ret (results_tmp2 rfl _ _ _) rfl ⟨rfl, rfl⟩
theorem cell_nw {w w' : World} {b i : Nat} {v : Value} (h : w.cell? ⟨b, i, none⟩ = some v) (hn : Nw w w') : w'.cell? ⟨b, i, none⟩ = some v :=
  (World.cell?_of_block (hn.grown.block b (World.block_lt_of_cell? w _ h) (by simp))).trans h
theorem frozen_nw {W W' : World} {b o : Nat} (hb : b < W.heap.size) (hn : Nw W W') : W'.frozen? ⟨b, o, none⟩ = W.frozen? ⟨b, o, none⟩ :=
  World.frozen?_of_block (hn.grown.block b hb (by simp))
theorem thInfo : (Tryd.prog.info? 74).map (fun i => (i.zero, i.size, i.bytes)) = some (some (.agg #[.bool false, .bool false, .int .u64 0, .int .u64 0, .bool false]), 5, 32) := by kernel_rfl
/-- The threads' cells: no iterator, a session or none. -/
def thr (b : List Bool) : List Value := b.flatMap fun s => [.bool false, .bool false, .int .u64 0, .int .u64 0, .bool s]
theorem thr_made {n : Nat} (h : 1 ≤ n ∧ n ≤ 8) : (madeCells (Value.agg #[.bool false, .bool false, .int .u64 0, .int .u64 0, .bool false]).cells (n * 5)).toList = thr (List.replicate n false) := by
  rcases (by omega : n = 1 ∨ n = 2 ∨ n = 3 ∨ n = 4 ∨ n = 5 ∨ n = 6 ∨ n = 7 ∨ n = 8) with rfl | rfl | rfl | rfl | rfl | rfl | rfl | rfl <;> kernel_rfl
/-- A model: its slots, its map (whose slice is L), its threads (none iterates). -/
structure Mdl (base : Nat) (W : World) (gm gt gp : Nat) (slots : Int) (b : List Bool) (L : Value) : Prop where
  bm : base ≤ gm
  bt : base ≤ gt
  bp : base ≤ gp
  im : gm < W.heap.size
  it : gt < W.heap.size
  ip : gp < W.heap.size
  m0 : W.cell? ⟨gm, 0, none⟩ = some (.int .i64 slots)
  m1 : W.cell? ⟨gm, 1, none⟩ = some (.pointer (some ⟨gp, 0, none⟩))
  m2 : W.cell? ⟨gm, 2, none⟩ = some (.slice (some ⟨gt, 0, none⟩) b.length b.length)
  p0 : W.cell? ⟨gp, 0, none⟩ = some L
  pz : W.frozen? ⟨gp, 0, none⟩ = false
  th : W.ownsRow base 74 5 (.slice (some ⟨gt, 0, none⟩) b.length b.length) b.length (thr b)
  nmt : gm ≠ gt
  nmp : gm ≠ gp
  ntp : gt ≠ gp
set_option maxRecDepth 20000 in
set_option maxHeartbeats 8000000 in
theorem new_any (n : Nat) (s : Int) (w : World) (hn : 1 ≤ n ∧ n ≤ 8) (hs : 1 ≤ s ∧ s ≤ 64) :
    Calls Tryd.prog 13 #[cfgV n s] w fun e w' => (∃ gm gt gp, e = .returned (.tuple #[.pointer (some ⟨gm, 0, none⟩), .int .i64 0]) ∧ Mdl w.heap.size w' gm gt gp s (List.replicate n false) (.slice none 0 0)) ∧ Nw w w' := by
  have hl := Lib.hid (fun W => layout_any n s W (by omega) hs)
  have HNn := Lib.hid hn
  obtain ⟨s1, s2⟩ := hs
  go_enter Tryd.func13, Tryd.ntmps13
  go_wp2_with fail
  refine (hl.out _).mono ?_
  rintro e w' ⟨rfl, dW, rfl⟩
  go_wp2_with fail
  refine (omapnew_any _).mono ?_
  rintro e w' ⟨rfl, rfl⟩
  go_upto_region 7 with (fail)
  obtain ⟨gp, hgp⟩ : ∃ g, g = ((w.alloc (.cells #[.int .i64 n, .int .i64 s, .int .u8 1, .int .i64 0, .int .u8 1, .int .i64 0, .slice none 0 0, .int .i64 0, .int .i64 0, .int .i64 0, .int .i64 0, .int .i64 0, .int .i64 0, .int .i64 1, .int .i64 1, .int .i64 0] 50)).ext none dW).heap.size := ⟨_, rfl⟩
  obtain ⟨W2, hW2⟩ : ∃ W2, W2 = ((w.alloc (.cells #[.int .i64 n, .int .i64 s, .int .u8 1, .int .i64 0, .int .u8 1, .int .i64 0, .slice none 0 0, .int .i64 0, .int .i64 0, .int .i64 0, .int .i64 0, .int .i64 0, .int .i64 0, .int .i64 1, .int .i64 1, .int .i64 0] 50)).ext none dW).alloc (.cells #[.slice none 0 0] 84) := ⟨_, rfl⟩
  rw [← hgp, ← hW2]
  have hn2 : Nw w W2 := by rw [hW2]; exact (by repeat (first | exact Xt.Nw.refl _ | refine Xt.Nw.drew ?_ | refine Xt.Nw.drewN ?_ _ | refine Xt.Nw.alloc ?_ _ | refine Xt.Nw.joined ?_ | refine Xt.Nw.drewd ?_ | refine Xt.Nw.drewdN ?_ | refine Xt.Nw.ext ?_ | refine Xt.Nw.ext_some ?_ (by assumption) | refine Xt.Nw.setCell ?_ (by simp [go_sem] <;> omega) _))
  have c0 : W2.cell? ⟨w.heap.size, 0, none⟩ = some (.int .i64 n) := by rw [hW2]; simp [go_sem]
  have c1 : W2.cell? ⟨w.heap.size, 1, none⟩ = some (.int .i64 s) := by rw [hW2]; simp [go_sem]
  have cp : W2.cell? ⟨gp, 0, none⟩ = some (.slice none 0 0) := by rw [hW2, hgp]; simp [go_sem]
  have cz : W2.frozen? ⟨gp, 0, none⟩ = false := by rw [hW2, hgp]; simp [go_sem]
  have hb1 : w.heap.size < gp := by
    have h := le_size (w.alloc (.cells #[.int .i64 n, .int .i64 s, .int .u8 1, .int .i64 0, .int .u8 1, .int .i64 0, .slice none 0 0, .int .i64 0, .int .i64 0, .int .i64 0, .int .i64 0, .int .i64 0, .int .i64 0, .int .i64 1, .int .i64 1, .int .i64 0] 50)) none dW
    rw [← hgp] at h
    simp at h; omega
  have hb2 : W2.heap.size = gp + 1 := by rw [hW2, hgp]; simp
  have HN2 := Lib.hid hn2
  have HCP := Lib.hid cp
  have HCZ := Lib.hid cz
  have HB1 := Lib.hid hb1
  have HB2 := Lib.hid hb2
  obtain ⟨i, hi1, hz0, hz1, hz2⟩ := info_parts thInfo
  obtain ⟨W3, hmk, hown, hgr⟩ := run_make_full W2.drew W2.heap.size 53 74 i (.agg #[.bool false, .bool false, .int .u64 0, .int .u64 0, .bool false]) 5 Tryd.underlying53 hi1 hz0 hz1 .i64 .i64 n (by rw [hz2]; omega) (by unfold maxLen; omega) (Nat.le_refl _)
  rw [thr_made hn] at hown
  have hd0 : W2.drew.heap.size = W2.heap.size := rfl
  rw [hd0] at hmk hown
  have hn3 : Nw W2 W3 := Nw.trans (Nw.drew (Nw.refl _)) (.of hgr)
  have e0 : W3.cell? ⟨w.heap.size, 0, none⟩ = some (.int .i64 n) := (World.cell?_of_block (hn3.grown.block _ (World.block_lt_of_cell? _ _ c0) (by simp))).trans c0
  have e1 : W3.cell? ⟨w.heap.size, 1, none⟩ = some (.int .i64 s) := (World.cell?_of_block (hn3.grown.block _ (World.block_lt_of_cell? _ _ c1) (by simp))).trans c1
  obtain ⟨gt, hgt⟩ : ∃ g, g = W2.heap.size := ⟨_, rfl⟩
  rw [← hgt] at hmk hown
  have HOW := Lib.hid hown
  have HN3 := Lib.hid hn3
  have HGT := Lib.hid hgt
  clear hW2 hgp hn2 cp cz hb1 hb2 hi1 hz0 hz1 hz2 hgr hown hn3 hgt hd0 hn
  go_region
  go_wp2
  have hs2 := HN2.out.grown.size
  have hs3 := HN3.out.grown.size
  have hgt2 : gt < W3.heap.size := by
    rcases own_forms HOW.out with ⟨_, h0⟩ | ⟨g, cap, hv, _, hin, _, _⟩
    · have := HNn.out; omega
    · injection hv with hv; injection hv with hv; injection hv with hv; rw [hv]; exact hin.lt
  have hA : Nw W3 (W3.alloc (.cells #[.int .i64 s, .pointer (some ⟨gp, 0, none⟩), .slice (some ⟨gt, 0, none⟩) n n] 55)) := (Nw.refl _).alloc _
  have hz : (W3.alloc (.cells #[.int .i64 s, .pointer (some ⟨gp, 0, none⟩), .slice (some ⟨gt, 0, none⟩) n n] 55)).heap.size = W3.heap.size + 1 := by simp
  have hgp2 : gp < W2.heap.size := by have := HB2.out; omega
  have h1 := HB1.out
  have h2 := HB2.out
  have h3 := HGT.out
  exact bodyPost_ret (results_tmp2 rfl _ _ _) rfl ⟨⟨W3.heap.size, gt, gp, rfl, { bm := by omega, bt := by omega, bp := by omega, im := by omega, it := by omega, ip := by omega, m0 := by simp [go_sem], m1 := by simp [go_sem], m2 := by simp [go_sem], p0 := cell_nw HCP.out (HN3.out.trans hA), pz := (frozen_nw hgp2 (HN3.out.trans hA)).trans HCZ.out, th := by rw [List.length_replicate]; exact own_le (own_nw HOW.out hA) (by omega), nmt := by omega, nmp := by omega, ntp := by omega }⟩, (HN2.out.trans HN3.out).trans hA⟩
end Go.Proofs.YtahagplegmcaaaaDoor
