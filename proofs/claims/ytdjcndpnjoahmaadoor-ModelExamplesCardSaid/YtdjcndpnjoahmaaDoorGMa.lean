import Derived.Test.YtdjcndpnjoahmaaDoorProg
import Derived.Test.YtdjcndpnjoahmaaDoorLib2
import Derived.Test.YtdjcndpnjoahmaaDoorLaw
import Derived.StillTailTactics
import Derived.Deep.DeepCutAuto
import Derived.Deep.RegionHeld3
import Derived.Deep.CutBlock
import Derived.BigRegion
import Derived.Laws.OwnMore
import Derived.Laws.StructEq
import Derived.Laws.Closers25
set_option linter.unusedVariables false
set_option linter.unusedSimpArgs false
namespace Go.Proofs.YtdjcndpnjoahmaaDoor
open Go.RowKit Go.Xt
/-! A configuration with so many threads and slots; its check. -/
/-- A configuration with so many threads and slots. -/
abbrev cfgV (t s : Int) : Value := .agg #[.int .i64 t, .int .i64 s, .int .u8 1, .int .i64 0, .int .u8 1, .int .i64 0, .slice none 0 0, .int .i64 0, .int .i64 0, .int .i64 0, .int .i64 0, .int .i64 0, .int .i64 0, .int .i64 1, .int .i64 1, .int .i64 0]
set_option maxRecDepth 20000 in
set_option maxHeartbeats 4000000 in
theorem fixed_any (t s : Int) (w : World) :
    Calls Tryd.prog 20 #[.int .i64 t, .int .i64 s] w fun e w' => e = .returned (cfgV t s) ∧ Nw w w' := by
  go_enter Tryd.func20, Tryd.ntmps20
  go_wp2
  refine bodyPost_ret (v := cfgV t s) ?_ rfl ⟨rfl, (by repeat (first | exact Xt.Nw.refl _ | refine Xt.Nw.drew ?_ | refine Xt.Nw.drewN ?_ _ | refine Xt.Nw.alloc ?_ _ | refine Xt.Nw.joined ?_ | refine Xt.Nw.drewd ?_ | refine Xt.Nw.drewdN ?_ | refine Xt.Nw.ext ?_ | refine Xt.Nw.ext_some ?_ (by assumption) | refine Xt.Nw.setCell ?_ (by simp [go_sem] <;> omega) _))⟩
  simp [results, Tryd.results20, go_sem, *]
theorem within_tt (n a b : Int) (w : World) (h1 : a ≤ n) (h2 : n ≤ b) :
    Calls Tryd.prog 61 #[.int .i64 n, .int .i64 a, .int .i64 b] w fun e w' => e = .returned (.bool true) ∧ Nw w w' := by
  have d1 : decide (a ≤ n) = true := by simpa using h1
  have d2 : decide (n ≤ b) = true := by simpa using h2
  go_enter Tryd.func61, Tryd.ntmps61
  go_wp2
  go_ret
  exact ⟨rfl, (by repeat (first | exact Xt.Nw.refl _ | refine Xt.Nw.drew ?_ | refine Xt.Nw.drewN ?_ _ | refine Xt.Nw.alloc ?_ _ | refine Xt.Nw.joined ?_ | refine Xt.Nw.drewd ?_ | refine Xt.Nw.drewdN ?_ | refine Xt.Nw.ext ?_ | refine Xt.Nw.ext_some ?_ (by assumption) | refine Xt.Nw.setCell ?_ (by simp [go_sem] <;> omega) _))⟩
set_option maxRecDepth 20000 in
set_option maxHeartbeats 4000000 in
theorem domain_any (w : World) :
    Calls Tryd.prog 62 #[.agg #[.int .u8 1, .int .i64 0, .slice none 0 0]] w fun e w' => e = .returned (.int .i64 0) ∧ Nw w w' := by
  go_enter Tryd.func62, Tryd.ntmps62
  go_wp2
  go_ret
  exact ⟨rfl, (by repeat (first | exact Xt.Nw.refl _ | refine Xt.Nw.drew ?_ | refine Xt.Nw.drewN ?_ _ | refine Xt.Nw.alloc ?_ _ | refine Xt.Nw.joined ?_ | refine Xt.Nw.drewd ?_ | refine Xt.Nw.drewdN ?_ | refine Xt.Nw.ext ?_ | refine Xt.Nw.ext_some ?_ (by assumption) | refine Xt.Nw.setCell ?_ (by simp [go_sem] <;> omega) _))⟩
end Go.Proofs.YtdjcndpnjoahmaaDoor
namespace Go.Proofs.YtdjcndpnjoahmaaDoor
open Go.RowKit Go.Xt
/-! layout.Check of such a configuration. -/
set_option maxRecDepth 20000 in
@[go_sem high] theorem idx6_0 (w : World) : Sem.run Tryd.prog (Instr.index 49 (.agg #[.int .i64 0, .int .i64 0, .int .i64 0, .int .i64 0, .int .i64 0, .int .i64 0]) (.int .i64 0)) w = .ok (.int .i64 0) w := by rfl
set_option maxRecDepth 20000 in
@[go_sem high] theorem idx6_1 (w : World) : Sem.run Tryd.prog (Instr.index 49 (.agg #[.int .i64 0, .int .i64 0, .int .i64 0, .int .i64 0, .int .i64 0, .int .i64 0]) (.int .i64 1)) w = .ok (.int .i64 0) w := by rfl
set_option maxRecDepth 20000 in
@[go_sem high] theorem idx6_2 (w : World) : Sem.run Tryd.prog (Instr.index 49 (.agg #[.int .i64 0, .int .i64 0, .int .i64 0, .int .i64 0, .int .i64 0, .int .i64 0]) (.int .i64 2)) w = .ok (.int .i64 0) w := by rfl
set_option maxRecDepth 20000 in
@[go_sem high] theorem idx6_3 (w : World) : Sem.run Tryd.prog (Instr.index 49 (.agg #[.int .i64 0, .int .i64 0, .int .i64 0, .int .i64 0, .int .i64 0, .int .i64 0]) (.int .i64 3)) w = .ok (.int .i64 0) w := by rfl
set_option maxRecDepth 20000 in
@[go_sem high] theorem idx6_4 (w : World) : Sem.run Tryd.prog (Instr.index 49 (.agg #[.int .i64 0, .int .i64 0, .int .i64 0, .int .i64 0, .int .i64 0, .int .i64 0]) (.int .i64 4)) w = .ok (.int .i64 0) w := by rfl
set_option maxRecDepth 20000 in
@[go_sem high] theorem idx6_5 (w : World) : Sem.run Tryd.prog (Instr.index 49 (.agg #[.int .i64 0, .int .i64 0, .int .i64 0, .int .i64 0, .int .i64 0, .int .i64 0]) (.int .i64 5)) w = .ok (.int .i64 0) w := by rfl
set_option maxRecDepth 20000 in
set_option maxHeartbeats 8000000 in
theorem layout_any (t s : Int) (w : World) (ht : 1 ≤ t ∧ t ≤ 64) (hs : 1 ≤ s ∧ s ≤ 64) :
    Calls Tryd.prog 36 #[cfgV t s] w fun e w' => e = .returned (.int .i64 0) ∧ Nw w w' := by
  obtain ⟨W1, hW1⟩ : ∃ W1, W1 = w.alloc (.cells #[.int .i64 t, .int .i64 s, .int .u8 1, .int .i64 0, .int .u8 1, .int .i64 0, .slice none 0 0, .int .i64 0, .int .i64 0, .int .i64 0, .int .i64 0, .int .i64 0, .int .i64 0, .int .i64 1, .int .i64 1, .int .i64 0] 51) := ⟨_, rfl⟩
  have hN1 : Nw w W1 := by rw [hW1]; exact (by repeat (first | exact Xt.Nw.refl _ | refine Xt.Nw.drew ?_ | refine Xt.Nw.drewN ?_ _ | refine Xt.Nw.alloc ?_ _ | refine Xt.Nw.joined ?_ | refine Xt.Nw.drewd ?_ | refine Xt.Nw.drewdN ?_ | refine Xt.Nw.ext ?_ | refine Xt.Nw.ext_some ?_ (by assumption) | refine Xt.Nw.setCell ?_ (by simp [go_sem] <;> omega) _))
  have b0 : W1.cell? ⟨w.heap.size, 0, none⟩ = some (.int .i64 t) := by rw [hW1]; simp [go_sem]
  have b1 : W1.cell? ⟨w.heap.size, 1, none⟩ = some (.int .i64 s) := by rw [hW1]; simp [go_sem]
  have b2 : W1.cell? ⟨w.heap.size, 2, none⟩ = some (.int .u8 1) := by rw [hW1]; simp [go_sem]
  have b3 : W1.cell? ⟨w.heap.size, 3, none⟩ = some (.int .i64 0) := by rw [hW1]; simp [go_sem]
  have b4 : W1.cell? ⟨w.heap.size, 4, none⟩ = some (.int .u8 1) := by rw [hW1]; simp [go_sem]
  have b5 : W1.cell? ⟨w.heap.size, 5, none⟩ = some (.int .i64 0) := by rw [hW1]; simp [go_sem]
  have b6 : W1.cell? ⟨w.heap.size, 6, none⟩ = some (.slice none 0 0) := by rw [hW1]; simp [go_sem]
  have b7 : W1.cell? ⟨w.heap.size, 7, none⟩ = some (.int .i64 0) := by rw [hW1]; simp [go_sem]
  have b8 : W1.cell? ⟨w.heap.size, 8, none⟩ = some (.int .i64 0) := by rw [hW1]; simp [go_sem]
  have b9 : W1.cell? ⟨w.heap.size, 9, none⟩ = some (.int .i64 0) := by rw [hW1]; simp [go_sem]
  have b10 : W1.cell? ⟨w.heap.size, 10, none⟩ = some (.int .i64 0) := by rw [hW1]; simp [go_sem]
  have b11 : W1.cell? ⟨w.heap.size, 11, none⟩ = some (.int .i64 0) := by rw [hW1]; simp [go_sem]
  have b12 : W1.cell? ⟨w.heap.size, 12, none⟩ = some (.int .i64 0) := by rw [hW1]; simp [go_sem]
  have b13 : W1.cell? ⟨w.heap.size, 13, none⟩ = some (.int .i64 1) := by rw [hW1]; simp [go_sem]
  have b14 : W1.cell? ⟨w.heap.size, 14, none⟩ = some (.int .i64 1) := by rw [hW1]; simp [go_sem]
  have b15 : W1.cell? ⟨w.heap.size, 15, none⟩ = some (.int .i64 0) := by rw [hW1]; simp [go_sem]
  have HW1 := Lib.hid hW1
  have HN1 := Lib.hid hN1
  haveI : In w.heap.size W1 := ⟨World.block_lt_of_cell? W1 _ b0⟩
  obtain ⟨t1, t2⟩ := ht
  obtain ⟨s1, s2⟩ := hs
  clear hW1 hN1
  go_enter Tryd.func36, Tryd.ntmps36
  go_upto_region 1 with (fail)
  rw [← HW1.out]
  go_wp2
  go_loopw [4, 18] (fun a b wr => ∃ i : Nat, i ≤ 6 ∧ a = .int .i64 1024 ∧ b = .int .i64 i ∧ Nw W1 wr) (fun _ b _ => 6 - (intOf b).toNat)
  case atStart => exact ⟨0, by omega, rfl, rfl, Nw.refl _⟩
  case round =>
    obtain ⟨i, hi, rfl, rfl, d, rfl⟩ := hrel
    rcases (by omega : i = 0 ∨ i = 1 ∨ i = 2 ∨ i = 3 ∨ i = 4 ∨ i = 5 ∨ i = 6) with hz | rfl | rfl | rfl | rfl | rfl | rfl
    · have hiI : (i : Int) = 0 := by omega
      have hz2 := Lib.hid hz
      clear hz
      go_wp2
      exact ⟨⟨1, by omega, rfl, rfl, ⟨_, rfl⟩⟩, by simp [intOf, hz2.out]⟩
    · go_wp2
      exact ⟨⟨2, by omega, rfl, rfl, ⟨_, rfl⟩⟩, by simp [intOf]⟩
    · go_wp2
      exact ⟨⟨3, by omega, rfl, rfl, ⟨_, rfl⟩⟩, by simp [intOf]⟩
    · go_wp2
      exact ⟨⟨4, by omega, rfl, rfl, ⟨_, rfl⟩⟩, by simp [intOf]⟩
    · go_wp2
      exact ⟨⟨5, by omega, rfl, rfl, ⟨_, rfl⟩⟩, by simp [intOf]⟩
    · go_wp2
      exact ⟨⟨6, by omega, rfl, rfl, ⟨_, rfl⟩⟩, by simp [intOf]⟩
    · go_wp2_with (first
        | (go_at_call 61; refine (within_tt _ _ _ _ (by omega) (by omega)).mono ?_; rintro e w' ⟨rfl, dW, rfl⟩)
        | (go_at_call 62; refine (domain_any _).mono ?_; rintro e w' ⟨rfl, dW, rfl⟩))
      go_ret
      exact ⟨rfl, HN1.out.trans ((by repeat (first | exact Xt.Nw.refl _ | refine Xt.Nw.drew ?_ | refine Xt.Nw.drewN ?_ _ | refine Xt.Nw.alloc ?_ _ | refine Xt.Nw.joined ?_ | refine Xt.Nw.drewd ?_ | refine Xt.Nw.drewdN ?_ | refine Xt.Nw.ext ?_ | refine Xt.Nw.ext_some ?_ (by assumption) | refine Xt.Nw.setCell ?_ (by simp [go_sem] <;> omega) _)))⟩
end Go.Proofs.YtdjcndpnjoahmaaDoor
namespace Go.Proofs.YtdjcndpnjoahmaaDoor
open Go.RowKit Go.Xt
/-! A model in memory; New. -/
set_option maxRecDepth 20000 in
set_option maxHeartbeats 4000000 in
theorem omapnew_any (w : World) :
    Calls Tryd.prog 37 #[.slice none 0 0] w fun e w' => e = .returned (.tuple #[.pointer (some ⟨w.heap.size, 0, none⟩), .int .i64 0]) ∧ w' = w.alloc (.cells #[.slice none 0 0] 95) := by
  go_enter Tryd.func37, Tryd.ntmps37
  go_wp2
  go_loopw [13] (fun a wr => a = .int .i64 0 ∧ wr = w.alloc (.cells #[.slice none 0 0] 95)) (fun _ _ => 0)
  case atStart => exact ⟨rfl, rfl⟩
  case round =>
    obtain ⟨rfl, rfl⟩ := hrel
    go_wp2
    exact bodyPost_ret (results_tmp2 rfl _ _ _) rfl ⟨rfl, rfl⟩
theorem cell_nw {w w' : World} {b i : Nat} {v : Value} (h : w.cell? ⟨b, i, none⟩ = some v) (hn : Nw w w') : w'.cell? ⟨b, i, none⟩ = some v :=
  (World.cell?_of_block (hn.grown.block b (World.block_lt_of_cell? w _ h) (by simp))).trans h
theorem frozen_nw {W W' : World} {b o : Nat} (hb : b < W.heap.size) (hn : Nw W W') : W'.frozen? ⟨b, o, none⟩ = W.frozen? ⟨b, o, none⟩ :=
  World.frozen?_of_block (hn.grown.block b hb (by simp))
theorem thInfo : (Tryd.prog.info? 81).map (fun i => (i.zero, i.size, i.bytes)) = some (some (.agg #[.bool false, .bool false, .int .u64 0, .int .u64 0, .bool false]), 5, 32) := by kernel_rfl
/-- The threads' cells: no iterator, a session or none. -/
def thr (b : List Bool) : List Value := b.flatMap fun s => [.bool false, .bool false, .int .u64 0, .int .u64 0, .bool s]
theorem thr_made {n : Nat} (h : 1 ≤ n ∧ n ≤ 8) : (madeCells (Value.agg #[.bool false, .bool false, .int .u64 0, .int .u64 0, .bool false]).cells (n * 5)).toList = thr (List.replicate n false) := by
  rcases (by omega : n = 1 ∨ n = 2 ∨ n = 3 ∨ n = 4 ∨ n = 5 ∨ n = 6 ∨ n = 7 ∨ n = 8) with rfl | rfl | rfl | rfl | rfl | rfl | rfl | rfl <;> kernel_rfl
/-- A model: its slots, its map (whose slice is L), its threads (none iterates). -/
structure Mdl (base : Nat) (W : World) (gm gt gp : Nat) (slots : Int) (b : List Bool) (L : Value) : Prop where
  bm : base ≤ gm
  bt : base ≤ gt
  bp : base ≤ gp
  im : gm < W.heap.size
  it : gt < W.heap.size
  ip : gp < W.heap.size
  m0 : W.cell? ⟨gm, 0, none⟩ = some (.int .i64 slots)
  m1 : W.cell? ⟨gm, 1, none⟩ = some (.pointer (some ⟨gp, 0, none⟩))
  m2 : W.cell? ⟨gm, 2, none⟩ = some (.slice (some ⟨gt, 0, none⟩) b.length b.length)
  p0 : W.cell? ⟨gp, 0, none⟩ = some L
  pz : W.frozen? ⟨gp, 0, none⟩ = false
  th : W.ownsRow base 81 5 (.slice (some ⟨gt, 0, none⟩) b.length b.length) b.length (thr b)
  nmt : gm ≠ gt
  nmp : gm ≠ gp
  ntp : gt ≠ gp
set_option maxRecDepth 20000 in
set_option maxHeartbeats 8000000 in
theorem new_any (n : Nat) (s : Int) (w : World) (hn : 1 ≤ n ∧ n ≤ 8) (hs : 1 ≤ s ∧ s ≤ 64) :
    Calls Tryd.prog 18 #[cfgV n s] w fun e w' => (∃ gm gt gp, e = .returned (.tuple #[.pointer (some ⟨gm, 0, none⟩), .int .i64 0]) ∧ Mdl w.heap.size w' gm gt gp s (List.replicate n false) (.slice none 0 0)) ∧ Nw w w' := by
  have hl := Lib.hid (fun W => layout_any n s W (by omega) hs)
  have HNn := Lib.hid hn
  obtain ⟨s1, s2⟩ := hs
  go_enter Tryd.func18, Tryd.ntmps18
  go_wp2_with fail
  refine (hl.out _).mono ?_
  rintro e w' ⟨rfl, dW, rfl⟩
  go_wp2_with fail
  refine (omapnew_any _).mono ?_
  rintro e w' ⟨rfl, rfl⟩
  go_upto_region 7 with (fail)
  obtain ⟨gp, hgp⟩ : ∃ g, g = ((w.alloc (.cells #[.int .i64 n, .int .i64 s, .int .u8 1, .int .i64 0, .int .u8 1, .int .i64 0, .slice none 0 0, .int .i64 0, .int .i64 0, .int .i64 0, .int .i64 0, .int .i64 0, .int .i64 0, .int .i64 1, .int .i64 1, .int .i64 0] 51)).ext none dW).heap.size := ⟨_, rfl⟩
  obtain ⟨W2, hW2⟩ : ∃ W2, W2 = ((w.alloc (.cells #[.int .i64 n, .int .i64 s, .int .u8 1, .int .i64 0, .int .u8 1, .int .i64 0, .slice none 0 0, .int .i64 0, .int .i64 0, .int .i64 0, .int .i64 0, .int .i64 0, .int .i64 0, .int .i64 1, .int .i64 1, .int .i64 0] 51)).ext none dW).alloc (.cells #[.slice none 0 0] 95) := ⟨_, rfl⟩
  rw [← hgp, ← hW2]
  have hn2 : Nw w W2 := by rw [hW2]; exact (by repeat (first | exact Xt.Nw.refl _ | refine Xt.Nw.drew ?_ | refine Xt.Nw.drewN ?_ _ | refine Xt.Nw.alloc ?_ _ | refine Xt.Nw.joined ?_ | refine Xt.Nw.drewd ?_ | refine Xt.Nw.drewdN ?_ | refine Xt.Nw.ext ?_ | refine Xt.Nw.ext_some ?_ (by assumption) | refine Xt.Nw.setCell ?_ (by simp [go_sem] <;> omega) _))
  have c0 : W2.cell? ⟨w.heap.size, 0, none⟩ = some (.int .i64 n) := by rw [hW2]; simp [go_sem]
  have c1 : W2.cell? ⟨w.heap.size, 1, none⟩ = some (.int .i64 s) := by rw [hW2]; simp [go_sem]
  have cp : W2.cell? ⟨gp, 0, none⟩ = some (.slice none 0 0) := by rw [hW2, hgp]; simp [go_sem]
  have cz : W2.frozen? ⟨gp, 0, none⟩ = false := by rw [hW2, hgp]; simp [go_sem]
  have hb1 : w.heap.size < gp := by
    have h := le_size (w.alloc (.cells #[.int .i64 n, .int .i64 s, .int .u8 1, .int .i64 0, .int .u8 1, .int .i64 0, .slice none 0 0, .int .i64 0, .int .i64 0, .int .i64 0, .int .i64 0, .int .i64 0, .int .i64 0, .int .i64 1, .int .i64 1, .int .i64 0] 51)) none dW
    rw [← hgp] at h
    simp at h; omega
  have hb2 : W2.heap.size = gp + 1 := by rw [hW2, hgp]; simp
  have HN2 := Lib.hid hn2
  have HCP := Lib.hid cp
  have HCZ := Lib.hid cz
  have HB1 := Lib.hid hb1
  have HB2 := Lib.hid hb2
  obtain ⟨i, hi1, hz0, hz1, hz2⟩ := info_parts thInfo
  obtain ⟨W3, hmk, hown, hgr⟩ := run_make_full W2.drew W2.heap.size 62 81 i (.agg #[.bool false, .bool false, .int .u64 0, .int .u64 0, .bool false]) 5 Tryd.underlying62 hi1 hz0 hz1 .i64 .i64 n (by rw [hz2]; omega) (by unfold maxLen; omega) (Nat.le_refl _)
  rw [thr_made hn] at hown
  have hd0 : W2.drew.heap.size = W2.heap.size := rfl
  rw [hd0] at hmk hown
  have hn3 : Nw W2 W3 := Nw.trans (Nw.drew (Nw.refl _)) (.of hgr)
  have e0 : W3.cell? ⟨w.heap.size, 0, none⟩ = some (.int .i64 n) := (World.cell?_of_block (hn3.grown.block _ (World.block_lt_of_cell? _ _ c0) (by simp))).trans c0
  have e1 : W3.cell? ⟨w.heap.size, 1, none⟩ = some (.int .i64 s) := (World.cell?_of_block (hn3.grown.block _ (World.block_lt_of_cell? _ _ c1) (by simp))).trans c1
  obtain ⟨gt, hgt⟩ : ∃ g, g = W2.heap.size := ⟨_, rfl⟩
  rw [← hgt] at hmk hown
  have HOW := Lib.hid hown
  have HN3 := Lib.hid hn3
  have HGT := Lib.hid hgt
  clear hW2 hgp hn2 cp cz hb1 hb2 hi1 hz0 hz1 hz2 hgr hown hn3 hgt hd0 hn
  go_region
  go_wp2
  have hs2 := HN2.out.grown.size
  have hs3 := HN3.out.grown.size
  have hgt2 : gt < W3.heap.size := by
    rcases own_forms HOW.out with ⟨_, h0⟩ | ⟨g, cap, hv, _, hin, _, _⟩
    · have := HNn.out; omega
    · injection hv with hv; injection hv with hv; injection hv with hv; rw [hv]; exact hin.lt
  have hA : Nw W3 (W3.alloc (.cells #[.int .i64 s, .pointer (some ⟨gp, 0, none⟩), .slice (some ⟨gt, 0, none⟩) n n] 64)) := (Nw.refl _).alloc _
  have hz : (W3.alloc (.cells #[.int .i64 s, .pointer (some ⟨gp, 0, none⟩), .slice (some ⟨gt, 0, none⟩) n n] 64)).heap.size = W3.heap.size + 1 := by simp
  have hgp2 : gp < W2.heap.size := by have := HB2.out; omega
  have h1 := HB1.out
  have h2 := HB2.out
  have h3 := HGT.out
  exact bodyPost_ret (results_tmp2 rfl _ _ _) rfl ⟨⟨W3.heap.size, gt, gp, rfl, { bm := by omega, bt := by omega, bp := by omega, im := by omega, it := by omega, ip := by omega, m0 := by simp [go_sem], m1 := by simp [go_sem], m2 := by simp [go_sem], p0 := cell_nw HCP.out (HN3.out.trans hA), pz := (frozen_nw hgp2 (HN3.out.trans hA)).trans HCZ.out, th := by rw [List.length_replicate]; exact own_le (own_nw HOW.out hA) (by omega), nmt := by omega, nmp := by omega, ntp := by omega }⟩, (HN2.out.trans HN3.out).trans hA⟩
end Go.Proofs.YtdjcndpnjoahmaaDoor
namespace Go.Proofs.YtdjcndpnjoahmaaDoor
open Go.RowKit Go.Xt
/-! Equality of operations and of results; client.Check at five operations. -/
abbrev op7 (k a b c d e f : Int) : Value := .agg #[.int .u8 k, .int .u64 a, .int .u64 b, .int .u64 c, .int .u64 d, .int .u64 e, .int .u64 f]
abbrev res5 (e : Int) (f : Bool) (k v c : Int) : Value := .agg #[.int .i64 e, .bool f, .int .u64 k, .int .u64 v, .int .i64 c]
theorem ite_ok0 (p : Prop) [Decidable p] (w : World) : (if p then Result.ok true w else Result.ok false w) = Result.ok (decide p) w := by split <;> simp_all
theorem ite_ok (p q : Prop) [Decidable p] [Decidable q] (w : World) : (if p then Result.ok (decide q) w else Result.ok false w) = Result.ok (decide (p ∧ q)) w := by split <;> simp_all
@[go_sem high] theorem eqOp (k a b c d e f k' a' b' c' d' e' f' : Int) (w : World) : (Op.equalIn 10000 25 (op7 k a b c d e f) (op7 k' a' b' c' d' e' f')).run Tryd.prog w = .ok (decide (k = k') && (decide (a = a') && (decide (b = b') && (decide (c = c') && (decide (d = d') && (decide (e = e') && decide (f = f'))))))) w := by
  have hS : Tryd.prog.underlying 25 = some (.struct (Tryd.prog.fieldsOf 25)) := by kernel_rfl
  have hp : Tryd.prog.stoodInHeld 25 = false := by kernel_rfl
  rw [show (10000 : Nat) = 9999 + 1 from rfl, run_equalIn_agg w 9999 25 _ _ hS hp]
  simp only [Program.fieldsOf, Tryd.underlying25]
  go_simp
  simp only [ite_ok0, ite_ok]
  simp only [Bool.decide_and]
@[go_sem high] theorem eqRes (e : Int) (f : Bool) (k v c e' : Int) (f' : Bool) (k' v' c' : Int) (w : World) : (Op.equalIn 10000 28 (res5 e f k v c) (res5 e' f' k' v' c')).run Tryd.prog w = .ok (decide (e = e') && (decide (f = f') && (decide (k = k') && (decide (v = v') && decide (c = c'))))) w := by
  have hS : Tryd.prog.underlying 28 = some (.struct (Tryd.prog.fieldsOf 28)) := by kernel_rfl
  have hp : Tryd.prog.stoodInHeld 28 = false := by kernel_rfl
  rw [show (10000 : Nat) = 9999 + 1 from rfl, run_equalIn_agg w 9999 28 _ _ hS hp]
  simp only [Program.fieldsOf, Tryd.underlying28]
  go_simp
  simp only [ite_ok0, ite_ok]
  simp only [Bool.decide_and]
set_option maxRecDepth 20000 in
set_option maxHeartbeats 4000000 in
theorem check_1 (w : World) : Calls Tryd.prog 39 #[op7 1 0 0 0 0 0 0] w fun e w' => e = .returned (.int .i64 0) ∧ Nw w w' := by
  go_enter Tryd.func39, Tryd.ntmps39
  go_wp2
  go_ret
  exact ⟨rfl, (by repeat (first | exact Xt.Nw.refl _ | refine Xt.Nw.drew ?_ | refine Xt.Nw.drewN ?_ _ | refine Xt.Nw.alloc ?_ _ | refine Xt.Nw.joined ?_ | refine Xt.Nw.drewd ?_ | refine Xt.Nw.drewdN ?_ | refine Xt.Nw.ext ?_ | refine Xt.Nw.ext_some ?_ (by assumption) | refine Xt.Nw.setCell ?_ (by simp [go_sem] <;> omega) _))⟩
set_option maxRecDepth 20000 in
set_option maxHeartbeats 4000000 in
theorem check_6 (w : World) : Calls Tryd.prog 39 #[op7 6 4 0 0 0 0 0] w fun e w' => e = .returned (.int .i64 0) ∧ Nw w w' := by
  go_enter Tryd.func39, Tryd.ntmps39
  go_wp2
  go_ret
  exact ⟨rfl, (by repeat (first | exact Xt.Nw.refl _ | refine Xt.Nw.drew ?_ | refine Xt.Nw.drewN ?_ _ | refine Xt.Nw.alloc ?_ _ | refine Xt.Nw.joined ?_ | refine Xt.Nw.drewd ?_ | refine Xt.Nw.drewdN ?_ | refine Xt.Nw.ext ?_ | refine Xt.Nw.ext_some ?_ (by assumption) | refine Xt.Nw.setCell ?_ (by simp [go_sem] <;> omega) _))⟩
set_option maxRecDepth 20000 in
set_option maxHeartbeats 4000000 in
theorem check_4 (w : World) : Calls Tryd.prog 39 #[op7 4 4 0 2 0 0 0] w fun e w' => e = .returned (.int .i64 0) ∧ Nw w w' := by
  go_enter Tryd.func39, Tryd.ntmps39
  go_upto_region 9 with (fail)
  go_region
  go_wp2
  go_ret
  exact ⟨rfl, (by repeat (first | exact Xt.Nw.refl _ | refine Xt.Nw.drew ?_ | refine Xt.Nw.drewN ?_ _ | refine Xt.Nw.alloc ?_ _ | refine Xt.Nw.joined ?_ | refine Xt.Nw.drewd ?_ | refine Xt.Nw.drewdN ?_ | refine Xt.Nw.ext ?_ | refine Xt.Nw.ext_some ?_ (by assumption) | refine Xt.Nw.setCell ?_ (by simp [go_sem] <;> omega) _))⟩
set_option maxRecDepth 20000 in
set_option maxHeartbeats 4000000 in
theorem check_2 (w : World) : Calls Tryd.prog 39 #[op7 2 0 0 0 0 0 0] w fun e w' => e = .returned (.int .i64 0) ∧ Nw w w' := by
  go_enter Tryd.func39, Tryd.ntmps39
  go_wp2
  go_ret
  exact ⟨rfl, (by repeat (first | exact Xt.Nw.refl _ | refine Xt.Nw.drew ?_ | refine Xt.Nw.drewN ?_ _ | refine Xt.Nw.alloc ?_ _ | refine Xt.Nw.joined ?_ | refine Xt.Nw.drewd ?_ | refine Xt.Nw.drewdN ?_ | refine Xt.Nw.ext ?_ | refine Xt.Nw.ext_some ?_ (by assumption) | refine Xt.Nw.setCell ?_ (by simp [go_sem] <;> omega) _))⟩
set_option maxRecDepth 20000 in
set_option maxHeartbeats 4000000 in
theorem check_10 (w : World) : Calls Tryd.prog 39 #[op7 10 0 0 0 0 0 0] w fun e w' => e = .returned (.int .i64 0) ∧ Nw w w' := by
  go_enter Tryd.func39, Tryd.ntmps39
  go_wp2
  go_ret
  exact ⟨rfl, (by repeat (first | exact Xt.Nw.refl _ | refine Xt.Nw.drew ?_ | refine Xt.Nw.drewN ?_ _ | refine Xt.Nw.alloc ?_ _ | refine Xt.Nw.joined ?_ | refine Xt.Nw.drewd ?_ | refine Xt.Nw.drewdN ?_ | refine Xt.Nw.ext ?_ | refine Xt.Nw.ext_some ?_ (by assumption) | refine Xt.Nw.setCell ?_ (by simp [go_sem] <;> omega) _))⟩
end Go.Proofs.YtdjcndpnjoahmaaDoor
namespace Go.Proofs.YtdjcndpnjoahmaaDoor
open Go.RowKit Go.Xt
/-! Refusals. -/
theorem thr_len (b : List Bool) : (thr b).length = b.length * 5 := by
  induction b with
  | nil => rfl
  | cons x b ih => rw [thr, List.flatMap_cons, List.length_append, ← thr, ih, List.length_cons]; simp; omega
theorem thr_get : ∀ (b : List Bool) (k : Nat) (s : Bool), b[k]? = some s → (thr b)[k * 5]? = some (.bool false) ∧ (thr b)[k * 5 + 1]? = some (.bool false) ∧ (thr b)[k * 5 + 2]? = some (.int .u64 0) ∧ (thr b)[k * 5 + 3]? = some (.int .u64 0) ∧ (thr b)[k * 5 + 4]? = some (.bool s)
  | [], k, s, h => by simp at h
  | x :: b, 0, s, h => by simp at h; subst h; exact ⟨rfl, rfl, rfl, rfl, rfl⟩
  | x :: b, k + 1, s, h => by
    have h2 := thr_get b k s (by simpa using h)
    have e : ∀ j, (thr (x :: b))[(k + 1) * 5 + j]? = (thr b)[k * 5 + j]? := fun j => by
      rw [show (k + 1) * 5 + j = (k * 5 + j) + 5 by omega]; rfl
    exact ⟨(e 0).trans h2.1, (e 1).trans h2.2.1, (e 2).trans h2.2.2.1, (e 3).trans h2.2.2.2.1, (e 4).trans h2.2.2.2.2⟩
theorem thr_set : ∀ (b : List Bool) (k : Nat) (v : Bool), k < b.length → thr (b.set k v) = (thr b).set (k * 5 + 4) (.bool v)
  | [], k, v, h => by simp at h
  | x :: b, 0, v, h => rfl
  | x :: b, k + 1, v, h => by
    have h2 := thr_set b k v (by simpa using h)
    rw [List.set_cons_succ, thr, List.flatMap_cons, ← thr, h2, show (k + 1) * 5 + 4 = (k * 5 + 4) + 1 + 1 + 1 + 1 + 1 by omega]; rfl
theorem Mdl.cells {base : Nat} {W : World} {gm gt gp : Nat} {slots : Int} {b : List Bool} {L : Value} (h : Mdl base W gm gt gp slots b L) {k : Nat} {s : Bool} (hk : b[k]? = some s) :
    W.cell? ⟨gt, k * 5, none⟩ = some (.bool false) ∧ W.cell? ⟨gt, k * 5 + 1, none⟩ = some (.bool false) ∧ W.cell? ⟨gt, k * 5 + 2, none⟩ = some (.int .u64 0) ∧ W.cell? ⟨gt, k * 5 + 3, none⟩ = some (.int .u64 0) ∧ W.cell? ⟨gt, k * 5 + 4, none⟩ = some (.bool s) := by
  obtain ⟨p, _⟩ := List.getElem?_eq_some_iff.1 hk
  obtain ⟨g0, g1, g2, g3, g4⟩ := thr_get b k s hk
  exact ⟨(h.th.cellAt _ (by omega)).trans g0, (h.th.cellAt _ (by omega)).trans g1, (h.th.cellAt _ (by omega)).trans g2, (h.th.cellAt _ (by omega)).trans g3, (h.th.cellAt _ (by omega)).trans g4⟩
set_option maxRecDepth 20000 in
set_option maxHeartbeats 4000000 in
theorem refuse_1_ff (base : Nat) (w : World) (gm gt gp : Nat) (slots : Int) (b : List Bool) (L : Value) (h : Mdl base w gm gt gp slots b L) (t : Nat) (ht : b[t]? = some false) :
    Calls Tryd.prog 22 #[.pointer (some ⟨gm, 0, none⟩), .int .i64 t, op7 1 0 0 0 0 0 0] w fun e w' => e = .returned (.int .i64 0) ∧ Nw w w' := by
  obtain ⟨p, _⟩ := List.getElem?_eq_some_iff.1 ht
  obtain ⟨c0, c1, c2, c3, c4⟩ := h.cells ht
  have m2 := h.m2
  haveI : In gm w := ⟨h.im⟩
  haveI : In gt w := ⟨h.it⟩
  obtain ⟨n, hn⟩ : ∃ n, n = b.length := ⟨_, rfl⟩
  rw [← hn] at m2 p
  have t0 : (0 : Int) ≤ (t : Int) := by omega
  have t1 : (t : Int) < (n : Int) := by omega
  have d0 : decide ((t : Int) < 0) = false := by rw [decide_eq_false_iff_not]; omega
  have d1 : decide ((n : Int) ≤ (t : Int)) = false := by rw [decide_eq_false_iff_not]; omega
  clear h ht hn
  go_enter Tryd.func22, Tryd.ntmps22
  go_wp2_with (go_at_call 39; refine (check_1 _).mono ?_; rintro e w' ⟨rfl, dW, rfl⟩)
  (refine wp_region_nw (by kernel_rfl) (by kernel_rfl) ?_; (repeat (go_big_quiet_step (fail))); refine wpQuiet_nil ?_; intro _ hreg; obtain ⟨dW, rfl⟩ : Nw _ _ := hreg)
  go_wp2
  go_ret
  exact ⟨rfl, (by repeat (first | exact Xt.Nw.refl _ | refine Xt.Nw.drew ?_ | refine Xt.Nw.drewN ?_ _ | refine Xt.Nw.alloc ?_ _ | refine Xt.Nw.joined ?_ | refine Xt.Nw.drewd ?_ | refine Xt.Nw.drewdN ?_ | refine Xt.Nw.ext ?_ | refine Xt.Nw.ext_some ?_ (by assumption) | refine Xt.Nw.setCell ?_ (by simp [go_sem] <;> omega) _))⟩
set_option maxRecDepth 20000 in
set_option maxHeartbeats 4000000 in
theorem refuse_1_tt (base : Nat) (w : World) (gm gt gp : Nat) (slots : Int) (b : List Bool) (L : Value) (h : Mdl base w gm gt gp slots b L) (t : Nat) (ht : b[t]? = some true) :
    Calls Tryd.prog 22 #[.pointer (some ⟨gm, 0, none⟩), .int .i64 t, op7 1 0 0 0 0 0 0] w fun e w' => e = .returned (.int .i64 8) ∧ Nw w w' := by
  obtain ⟨p, _⟩ := List.getElem?_eq_some_iff.1 ht
  obtain ⟨c0, c1, c2, c3, c4⟩ := h.cells ht
  have m2 := h.m2
  haveI : In gm w := ⟨h.im⟩
  haveI : In gt w := ⟨h.it⟩
  obtain ⟨n, hn⟩ : ∃ n, n = b.length := ⟨_, rfl⟩
  rw [← hn] at m2 p
  have t0 : (0 : Int) ≤ (t : Int) := by omega
  have t1 : (t : Int) < (n : Int) := by omega
  have d0 : decide ((t : Int) < 0) = false := by rw [decide_eq_false_iff_not]; omega
  have d1 : decide ((n : Int) ≤ (t : Int)) = false := by rw [decide_eq_false_iff_not]; omega
  clear h ht hn
  go_enter Tryd.func22, Tryd.ntmps22
  go_wp2_with (go_at_call 39; refine (check_1 _).mono ?_; rintro e w' ⟨rfl, dW, rfl⟩)
  go_ret
  exact ⟨rfl, (by repeat (first | exact Xt.Nw.refl _ | refine Xt.Nw.drew ?_ | refine Xt.Nw.drewN ?_ _ | refine Xt.Nw.alloc ?_ _ | refine Xt.Nw.joined ?_ | refine Xt.Nw.drewd ?_ | refine Xt.Nw.drewdN ?_ | refine Xt.Nw.ext ?_ | refine Xt.Nw.ext_some ?_ (by assumption) | refine Xt.Nw.setCell ?_ (by simp [go_sem] <;> omega) _))⟩
set_option maxRecDepth 20000 in
set_option maxHeartbeats 4000000 in
theorem refuse_2_tt (base : Nat) (w : World) (gm gt gp : Nat) (slots : Int) (b : List Bool) (L : Value) (h : Mdl base w gm gt gp slots b L) (t : Nat) (ht : b[t]? = some true) :
    Calls Tryd.prog 22 #[.pointer (some ⟨gm, 0, none⟩), .int .i64 t, op7 2 0 0 0 0 0 0] w fun e w' => e = .returned (.int .i64 0) ∧ Nw w w' := by
  obtain ⟨p, _⟩ := List.getElem?_eq_some_iff.1 ht
  obtain ⟨c0, c1, c2, c3, c4⟩ := h.cells ht
  have m2 := h.m2
  haveI : In gm w := ⟨h.im⟩
  haveI : In gt w := ⟨h.it⟩
  obtain ⟨n, hn⟩ : ∃ n, n = b.length := ⟨_, rfl⟩
  rw [← hn] at m2 p
  have t0 : (0 : Int) ≤ (t : Int) := by omega
  have t1 : (t : Int) < (n : Int) := by omega
  have d0 : decide ((t : Int) < 0) = false := by rw [decide_eq_false_iff_not]; omega
  have d1 : decide ((n : Int) ≤ (t : Int)) = false := by rw [decide_eq_false_iff_not]; omega
  clear h ht hn
  go_enter Tryd.func22, Tryd.ntmps22
  go_wp2_with (go_at_call 39; refine (check_2 _).mono ?_; rintro e w' ⟨rfl, dW, rfl⟩)
  (refine wp_region_nw (by kernel_rfl) (by kernel_rfl) ?_; (repeat (go_big_quiet_step (fail))); refine wpQuiet_nil ?_; intro _ hreg; obtain ⟨dW, rfl⟩ : Nw _ _ := hreg)
  go_wp2
  go_ret
  exact ⟨rfl, (by repeat (first | exact Xt.Nw.refl _ | refine Xt.Nw.drew ?_ | refine Xt.Nw.drewN ?_ _ | refine Xt.Nw.alloc ?_ _ | refine Xt.Nw.joined ?_ | refine Xt.Nw.drewd ?_ | refine Xt.Nw.drewdN ?_ | refine Xt.Nw.ext ?_ | refine Xt.Nw.ext_some ?_ (by assumption) | refine Xt.Nw.setCell ?_ (by simp [go_sem] <;> omega) _))⟩
set_option maxRecDepth 20000 in
set_option maxHeartbeats 4000000 in
theorem refuse_2_ff (base : Nat) (w : World) (gm gt gp : Nat) (slots : Int) (b : List Bool) (L : Value) (h : Mdl base w gm gt gp slots b L) (t : Nat) (ht : b[t]? = some false) :
    Calls Tryd.prog 22 #[.pointer (some ⟨gm, 0, none⟩), .int .i64 t, op7 2 0 0 0 0 0 0] w fun e w' => e = .returned (.int .i64 10) ∧ Nw w w' := by
  obtain ⟨p, _⟩ := List.getElem?_eq_some_iff.1 ht
  obtain ⟨c0, c1, c2, c3, c4⟩ := h.cells ht
  have m2 := h.m2
  haveI : In gm w := ⟨h.im⟩
  haveI : In gt w := ⟨h.it⟩
  obtain ⟨n, hn⟩ : ∃ n, n = b.length := ⟨_, rfl⟩
  rw [← hn] at m2 p
  have t0 : (0 : Int) ≤ (t : Int) := by omega
  have t1 : (t : Int) < (n : Int) := by omega
  have d0 : decide ((t : Int) < 0) = false := by rw [decide_eq_false_iff_not]; omega
  have d1 : decide ((n : Int) ≤ (t : Int)) = false := by rw [decide_eq_false_iff_not]; omega
  clear h ht hn
  go_enter Tryd.func22, Tryd.ntmps22
  go_wp2_with (go_at_call 39; refine (check_2 _).mono ?_; rintro e w' ⟨rfl, dW, rfl⟩)
  go_ret
  exact ⟨rfl, (by repeat (first | exact Xt.Nw.refl _ | refine Xt.Nw.drew ?_ | refine Xt.Nw.drewN ?_ _ | refine Xt.Nw.alloc ?_ _ | refine Xt.Nw.joined ?_ | refine Xt.Nw.drewd ?_ | refine Xt.Nw.drewdN ?_ | refine Xt.Nw.ext ?_ | refine Xt.Nw.ext_some ?_ (by assumption) | refine Xt.Nw.setCell ?_ (by simp [go_sem] <;> omega) _))⟩
set_option maxRecDepth 20000 in
set_option maxHeartbeats 4000000 in
theorem refuse_4_tt (base : Nat) (w : World) (gm gt gp : Nat) (slots : Int) (b : List Bool) (L : Value) (h : Mdl base w gm gt gp slots b L) (t : Nat) (ht : b[t]? = some true) :
    Calls Tryd.prog 22 #[.pointer (some ⟨gm, 0, none⟩), .int .i64 t, op7 4 4 0 2 0 0 0] w fun e w' => e = .returned (.int .i64 0) ∧ Nw w w' := by
  obtain ⟨p, _⟩ := List.getElem?_eq_some_iff.1 ht
  obtain ⟨c0, c1, c2, c3, c4⟩ := h.cells ht
  have m2 := h.m2
  haveI : In gm w := ⟨h.im⟩
  haveI : In gt w := ⟨h.it⟩
  obtain ⟨n, hn⟩ : ∃ n, n = b.length := ⟨_, rfl⟩
  rw [← hn] at m2 p
  have t0 : (0 : Int) ≤ (t : Int) := by omega
  have t1 : (t : Int) < (n : Int) := by omega
  have d0 : decide ((t : Int) < 0) = false := by rw [decide_eq_false_iff_not]; omega
  have d1 : decide ((n : Int) ≤ (t : Int)) = false := by rw [decide_eq_false_iff_not]; omega
  clear h ht hn
  go_enter Tryd.func22, Tryd.ntmps22
  go_wp2_with (go_at_call 39; refine (check_4 _).mono ?_; rintro e w' ⟨rfl, dW, rfl⟩)
  (refine wp_region_nw (by kernel_rfl) (by kernel_rfl) ?_; (repeat (go_big_quiet_step (fail))); refine wpQuiet_nil ?_; intro _ hreg; obtain ⟨dW, rfl⟩ : Nw _ _ := hreg)
  go_wp2
  go_ret
  exact ⟨rfl, (by repeat (first | exact Xt.Nw.refl _ | refine Xt.Nw.drew ?_ | refine Xt.Nw.drewN ?_ _ | refine Xt.Nw.alloc ?_ _ | refine Xt.Nw.joined ?_ | refine Xt.Nw.drewd ?_ | refine Xt.Nw.drewdN ?_ | refine Xt.Nw.ext ?_ | refine Xt.Nw.ext_some ?_ (by assumption) | refine Xt.Nw.setCell ?_ (by simp [go_sem] <;> omega) _))⟩
set_option maxRecDepth 20000 in
set_option maxHeartbeats 4000000 in
theorem refuse_6_tt (base : Nat) (w : World) (gm gt gp : Nat) (slots : Int) (b : List Bool) (L : Value) (h : Mdl base w gm gt gp slots b L) (t : Nat) (ht : b[t]? = some true) :
    Calls Tryd.prog 22 #[.pointer (some ⟨gm, 0, none⟩), .int .i64 t, op7 6 4 0 0 0 0 0] w fun e w' => e = .returned (.int .i64 0) ∧ Nw w w' := by
  obtain ⟨p, _⟩ := List.getElem?_eq_some_iff.1 ht
  obtain ⟨c0, c1, c2, c3, c4⟩ := h.cells ht
  have m2 := h.m2
  haveI : In gm w := ⟨h.im⟩
  haveI : In gt w := ⟨h.it⟩
  obtain ⟨n, hn⟩ : ∃ n, n = b.length := ⟨_, rfl⟩
  rw [← hn] at m2 p
  have t0 : (0 : Int) ≤ (t : Int) := by omega
  have t1 : (t : Int) < (n : Int) := by omega
  have d0 : decide ((t : Int) < 0) = false := by rw [decide_eq_false_iff_not]; omega
  have d1 : decide ((n : Int) ≤ (t : Int)) = false := by rw [decide_eq_false_iff_not]; omega
  clear h ht hn
  go_enter Tryd.func22, Tryd.ntmps22
  go_wp2_with (go_at_call 39; refine (check_6 _).mono ?_; rintro e w' ⟨rfl, dW, rfl⟩)
  (refine wp_region_nw (by kernel_rfl) (by kernel_rfl) ?_; (repeat (go_big_quiet_step (fail))); refine wpQuiet_nil ?_; intro _ hreg; obtain ⟨dW, rfl⟩ : Nw _ _ := hreg)
  go_wp2
  go_ret
  exact ⟨rfl, (by repeat (first | exact Xt.Nw.refl _ | refine Xt.Nw.drew ?_ | refine Xt.Nw.drewN ?_ _ | refine Xt.Nw.alloc ?_ _ | refine Xt.Nw.joined ?_ | refine Xt.Nw.drewd ?_ | refine Xt.Nw.drewdN ?_ | refine Xt.Nw.ext ?_ | refine Xt.Nw.ext_some ?_ (by assumption) | refine Xt.Nw.setCell ?_ (by simp [go_sem] <;> omega) _))⟩
set_option maxRecDepth 20000 in
set_option maxHeartbeats 4000000 in
theorem refuse_10_tt (base : Nat) (w : World) (gm gt gp : Nat) (slots : Int) (b : List Bool) (L : Value) (h : Mdl base w gm gt gp slots b L) (t : Nat) (ht : b[t]? = some true) :
    Calls Tryd.prog 22 #[.pointer (some ⟨gm, 0, none⟩), .int .i64 t, op7 10 0 0 0 0 0 0] w fun e w' => e = .returned (.int .i64 0) ∧ Nw w w' := by
  obtain ⟨p, _⟩ := List.getElem?_eq_some_iff.1 ht
  obtain ⟨c0, c1, c2, c3, c4⟩ := h.cells ht
  have m2 := h.m2
  haveI : In gm w := ⟨h.im⟩
  haveI : In gt w := ⟨h.it⟩
  obtain ⟨n, hn⟩ : ∃ n, n = b.length := ⟨_, rfl⟩
  rw [← hn] at m2 p
  have t0 : (0 : Int) ≤ (t : Int) := by omega
  have t1 : (t : Int) < (n : Int) := by omega
  have d0 : decide ((t : Int) < 0) = false := by rw [decide_eq_false_iff_not]; omega
  have d1 : decide ((n : Int) ≤ (t : Int)) = false := by rw [decide_eq_false_iff_not]; omega
  clear h ht hn
  go_enter Tryd.func22, Tryd.ntmps22
  go_wp2_with (go_at_call 39; refine (check_10 _).mono ?_; rintro e w' ⟨rfl, dW, rfl⟩)
  (refine wp_region_nw (by kernel_rfl) (by kernel_rfl) ?_; (repeat (go_big_quiet_step (fail))); refine wpQuiet_nil ?_; intro _ hreg; obtain ⟨dW, rfl⟩ : Nw _ _ := hreg)
  go_wp2
  go_ret
  exact ⟨rfl, (by repeat (first | exact Xt.Nw.refl _ | refine Xt.Nw.drew ?_ | refine Xt.Nw.drewN ?_ _ | refine Xt.Nw.alloc ?_ _ | refine Xt.Nw.joined ?_ | refine Xt.Nw.drewd ?_ | refine Xt.Nw.drewdN ?_ | refine Xt.Nw.ext ?_ | refine Xt.Nw.ext_some ?_ (by assumption) | refine Xt.Nw.setCell ?_ (by simp [go_sem] <;> omega) _))⟩
def cnt (b : List Bool) : Nat := b.count true
theorem cnt_snoc (b : List Bool) (x : Bool) : cnt (b ++ [x]) = cnt b + if x then 1 else 0 := by
  cases x <;> simp [cnt]
set_option maxRecDepth 20000 in
set_option maxHeartbeats 4000000 in
theorem sessions_any (base : Nat) (w : World) (gm gt gp : Nat) (slots : Int) (b : List Bool) (L : Value) (h : Mdl base w gm gt gp slots b L) (hb : b.length ≤ 1000) :
    Calls Tryd.prog 66 #[.pointer (some ⟨gm, 0, none⟩)] w fun e w' => e = .returned (.int .i64 (cnt b : Nat)) ∧ Nw w w' := by
  have H := Lib.hid h
  have m2 := h.m2
  haveI : In gm w := ⟨h.im⟩
  haveI : In gt w := ⟨h.it⟩
  obtain ⟨n, hn⟩ : ∃ n, n = b.length := ⟨_, rfl⟩
  rw [← hn] at m2 hb
  have HNL := Lib.hid hn
  have hcb : ∀ k, cnt (b.take k) ≤ k := fun k => Nat.le_trans List.count_le_length (by simp; omega)
  have HCB := Lib.hid hcb
  clear h hn hcb
  go_enter Tryd.func66, Tryd.ntmps66
  go_wp2
  go_loopw [3, 4, 10] (fun s _ i wr => ∃ (k m : Nat), k ≤ n ∧ s = .int .i64 (m : Int) ∧ i = .int .i64 k ∧ Hid (m = cnt (b.take k)) ∧ Nw w wr) (fun _ _ i _ => n - (intOf i).toNat)
  case atStart => exact ⟨0, 0, by omega, rfl, rfl, rfl, Nw.refl _⟩
  case round =>
    obtain ⟨k, m, hk, rfl, rfl, hm, d, rfl⟩ := hrel
    have hmk : m ≤ k := by rw [hm.out]; exact HCB.out k
    by_cases hlt : k < n
    · obtain ⟨x, hx⟩ : ∃ x, b[k]? = some x := ⟨_, List.getElem?_eq_getElem (by have := HNL.out; omega)⟩
      obtain ⟨c0, c1, c2, c3, c4⟩ := H.out.cells hx
      have hnx : cnt (b.take (k + 1)) = m + if x then 1 else 0 := by
        obtain ⟨p1, q1⟩ := List.getElem?_eq_some_iff.1 hx
        rw [List.take_succ_eq_append_getElem p1, q1, cnt_snoc, hm.out]
      have HX := Lib.hid hnx
      clear hx hnx hm c0 c1 c2 c3
      have k1 : (k : Int) < (n : Int) := by omega
      cases x with
      | true =>
        go_wp2
        exact ⟨⟨k + 1, m + 1, by omega, by go_num, by go_num, HX.out.symm, (by repeat (first | exact Xt.Nw.refl _ | refine Xt.Nw.drew ?_ | refine Xt.Nw.drewN ?_ _ | refine Xt.Nw.alloc ?_ _ | refine Xt.Nw.joined ?_ | refine Xt.Nw.drewd ?_ | refine Xt.Nw.drewdN ?_ | refine Xt.Nw.ext ?_ | refine Xt.Nw.ext_some ?_ (by assumption) | refine Xt.Nw.setCell ?_ (by simp [go_sem] <;> omega) _))⟩, by simp [intOf]; omega⟩
      | false =>
        go_wp2
        exact ⟨⟨k + 1, m, by omega, by go_num, by go_num, HX.out.symm, (by repeat (first | exact Xt.Nw.refl _ | refine Xt.Nw.drew ?_ | refine Xt.Nw.drewN ?_ _ | refine Xt.Nw.alloc ?_ _ | refine Xt.Nw.joined ?_ | refine Xt.Nw.drewd ?_ | refine Xt.Nw.drewdN ?_ | refine Xt.Nw.ext ?_ | refine Xt.Nw.ext_some ?_ (by assumption) | refine Xt.Nw.setCell ?_ (by simp [go_sem] <;> omega) _))⟩, by simp [intOf]; omega⟩
    · have k1 : ¬ (k : Int) < (n : Int) := by omega
      go_wp2
      go_ret
      exact ⟨by rw [hm.out, List.take_of_length_le (by have := HNL.out; omega)]; rfl, (by repeat (first | exact Xt.Nw.refl _ | refine Xt.Nw.drew ?_ | refine Xt.Nw.drewN ?_ _ | refine Xt.Nw.alloc ?_ _ | refine Xt.Nw.joined ?_ | refine Xt.Nw.drewd ?_ | refine Xt.Nw.drewdN ?_ | refine Xt.Nw.ext ?_ | refine Xt.Nw.ext_some ?_ (by assumption) | refine Xt.Nw.setCell ?_ (by simp [go_sem] <;> omega) _))⟩
end Go.Proofs.YtdjcndpnjoahmaaDoor
namespace Go.Proofs.YtdjcndpnjoahmaaDoor
open Go.RowKit Go.Xt
/-! Opening and shutting. -/
/-- The row of the threads. -/
def ThRow (base : Nat) (W : World) (gt : Nat) (b : List Bool) : Prop := W.ownsRow base 81 5 (.slice (some ⟨gt, 0, none⟩) b.length b.length) b.length (thr b)
theorem th_set {base : Nat} {W : World} {gt : Nat} {b : List Bool} (h : ThRow base W gt b) {k : Nat} (hk : k < b.length) (v : Bool) : ThRow base (W.setCell ⟨gt, k * 5 + 4, none⟩ (.bool v)) gt (b.set k v) := by
  have h2 := (h.stored (k * 5 + 4) (.bool v)).1
  rw [← thr_set b k v hk] at h2
  unfold ThRow
  rw [List.length_set]; exact h2
set_option maxRecDepth 20000 in
set_option maxHeartbeats 4000000 in
theorem shut_any (base : Nat) (w : World) (gm gt gp : Nat) (slots : Int) (b : List Bool) (L : Value) (h : Mdl base w gm gt gp slots b L) (t : Nat) (sf : Bool) (ht : b[t]? = some sf) :
    Calls Tryd.prog 41 #[.pointer (some ⟨gm, 0, none⟩), .int .i64 t, op7 2 0 0 0 0 0 0] w fun e w' => e = .returned (res5 0 false 0 0 0) ∧ w.grownBy w' (some gt) ∧ ThRow base w' gt (b.set t false) := by
  obtain ⟨p, _⟩ := List.getElem?_eq_some_iff.1 ht
  obtain ⟨c0, c1, c2, c3, c4⟩ := h.cells ht
  have m2 := h.m2
  have hz : w.frozen? ⟨gt, t * 5 + 4, none⟩ = false := h.th.frozenAt _
  haveI : In gm w := ⟨h.im⟩
  haveI : In gt w := ⟨h.it⟩
  have HTH := Lib.hid (show ThRow base w gt b from h.th)
  have HP := Lib.hid p
  obtain ⟨n, hn⟩ : ∃ n, n = b.length := ⟨_, rfl⟩
  rw [← hn] at m2 p
  have t0 : (0 : Int) ≤ (t : Int) := by omega
  have t1 : (t : Int) < (n : Int) := by omega
  clear h ht hn
  go_enter Tryd.func41, Tryd.ntmps41
  go_wp2
  have hg := grownBy_trans (grownBy_trans (HTH.out.stored (t * 5 + 4) (.bool false)).2 (World.grownBy_alloc _ (.cells #[.int .u8 2, .int .u64 0, .int .u64 0, .int .u64 0, .int .u64 0, .int .u64 0, .int .u64 0] 25) _)) (World.grownBy_alloc _ (.cells #[.int .i64 0, .bool false, .int .u64 0, .int .u64 0, .int .i64 0] 28) _)
  refine bodyPost_ret (v := res5 0 false 0 0 0) ?_ rfl ⟨rfl, hg, own_nw (th_set HTH.out HP.out false) (Nw.alloc (Nw.alloc (Nw.refl _) _) _)⟩
  simp [results, Tryd.results41, go_sem, *]
theorem grown_weak {w w' : World} (h : w.grownBy w' none) (r : Option Nat) : w.grownBy w' r := ⟨h.os, h.tape, h.output, h.size, fun k hk _ => h.block k hk (by simp)⟩
theorem Mdl.nw {base : Nat} {W W' : World} {gm gt gp : Nat} {slots : Int} {b : List Bool} {L : Value} (h : Mdl base W gm gt gp slots b L) (hn : Nw W W') : Mdl base W' gm gt gp slots b L :=
  { h with im := Nat.lt_of_lt_of_le h.im hn.grown.size, it := Nat.lt_of_lt_of_le h.it hn.grown.size, ip := Nat.lt_of_lt_of_le h.ip hn.grown.size, m0 := cell_nw h.m0 hn, m1 := cell_nw h.m1 hn, m2 := cell_nw h.m2 hn, p0 := cell_nw h.p0 hn, pz := (frozen_nw h.ip hn).trans h.pz, th := own_nw h.th hn }
/-- What OpOpen returns of a thread that has no session, and the threads then. -/
def opE (slots : Int) (b : List Bool) : Int := if slots ≤ (cnt b : Nat) then 10 else 0
def opB (slots : Int) (b : List Bool) (t : Nat) : List Bool := if slots ≤ (cnt b : Nat) then b else b.set t true
set_option maxRecDepth 20000 in
set_option maxHeartbeats 4000000 in
theorem open_any (base : Nat) (w : World) (gm gt gp : Nat) (slots : Int) (b : List Bool) (L : Value) (h : Mdl base w gm gt gp slots b L) (hb : b.length ≤ 1000) (t : Nat) (sf : Bool) (ht : b[t]? = some sf) :
    Calls Tryd.prog 40 #[.pointer (some ⟨gm, 0, none⟩), .int .i64 t, op7 1 0 0 0 0 0 0] w fun e w' => e = .returned (res5 (opE slots b) false 0 0 0) ∧ w.grownBy w' (some gt) ∧ ThRow base w' gt (opB slots b t) := by
  obtain ⟨p, _⟩ := List.getElem?_eq_some_iff.1 ht
  obtain ⟨c0, c1, c2, c3, c4⟩ := h.cells ht
  have m2 := h.m2
  have m0 := h.m0
  have hz : w.frozen? ⟨gt, t * 5 + 4, none⟩ = false := h.th.frozenAt _
  haveI : In gm w := ⟨h.im⟩
  haveI : In gt w := ⟨h.it⟩
  have HTH := Lib.hid (show ThRow base w gt b from h.th)
  have HP := Lib.hid p
  have HS := Lib.hid (fun W (hw : Nw w W) => sessions_any base W gm gt gp slots b L (h.nw hw) hb)
  obtain ⟨c, hc⟩ : ∃ c : Int, c = ((cnt b : Nat) : Int) := ⟨_, rfl⟩
  rw [← hc] at HS
  have HC := Lib.hid hc
  obtain ⟨n, hn⟩ : ∃ n, n = b.length := ⟨_, rfl⟩
  rw [← hn] at m2 p
  have t0 : (0 : Int) ≤ (t : Int) := by omega
  have t1 : (t : Int) < (n : Int) := by omega
  clear h ht hn hb hc
  by_cases hs : slots ≤ c
  · have d1 : decide (slots ≤ c) = true := by simpa using hs
    have HE := Lib.hid (show opE slots b = 10 ∧ opB slots b t = b by rw [opE, opB, ← HC.out, if_pos hs, if_pos hs]; exact ⟨rfl, rfl⟩)
    go_enter Tryd.func40, Tryd.ntmps40
    go_upto_region 1 with (fail)
    (refine wp_region_nw (by kernel_rfl) (by kernel_rfl) ?_; (repeat (go_big_quiet_step ((go_at_call 66; exact quiet_of (HS.out _ ((by repeat (first | exact Xt.Nw.refl _ | refine Xt.Nw.drew ?_ | refine Xt.Nw.drewN ?_ _ | refine Xt.Nw.alloc ?_ _ | refine Xt.Nw.joined ?_ | refine Xt.Nw.drewd ?_ | refine Xt.Nw.drewdN ?_ | refine Xt.Nw.ext ?_ | refine Xt.Nw.ext_some ?_ (by assumption) | refine Xt.Nw.setCell ?_ (by simp [go_sem] <;> omega) _)))))))); refine wpQuiet_nil ?_; intro _ hreg; obtain ⟨dW, rfl⟩ : Nw _ _ := hreg)
    go_wp2
    refine bodyPost_ret (v := res5 10 false 0 0 0) ?_ rfl ⟨by rw [HE.out.1], grown_weak (Nw.grown (by repeat (first | exact Xt.Nw.refl _ | refine Xt.Nw.drew ?_ | refine Xt.Nw.drewN ?_ _ | refine Xt.Nw.alloc ?_ _ | refine Xt.Nw.joined ?_ | refine Xt.Nw.drewd ?_ | refine Xt.Nw.drewdN ?_ | refine Xt.Nw.ext ?_ | refine Xt.Nw.ext_some ?_ (by assumption) | refine Xt.Nw.setCell ?_ (by simp [go_sem] <;> omega) _))) _, by rw [HE.out.2]; exact own_nw HTH.out (by repeat (first | exact Xt.Nw.refl _ | refine Xt.Nw.drew ?_ | refine Xt.Nw.drewN ?_ _ | refine Xt.Nw.alloc ?_ _ | refine Xt.Nw.joined ?_ | refine Xt.Nw.drewd ?_ | refine Xt.Nw.drewdN ?_ | refine Xt.Nw.ext ?_ | refine Xt.Nw.ext_some ?_ (by assumption) | refine Xt.Nw.setCell ?_ (by simp [go_sem] <;> omega) _))⟩
    simp [results, Tryd.results40, go_sem, *]
  · have d1 : decide (slots ≤ c) = false := by simpa using hs
    have HE := Lib.hid (show opE slots b = 0 ∧ opB slots b t = b.set t true by rw [opE, opB, ← HC.out, if_neg hs, if_neg hs]; exact ⟨rfl, rfl⟩)
    go_enter Tryd.func40, Tryd.ntmps40
    go_upto_region 1 with (fail)
    (refine wp_region_nw (by kernel_rfl) (by kernel_rfl) ?_; (repeat (go_big_quiet_step ((go_at_call 66; exact quiet_of (HS.out _ ((by repeat (first | exact Xt.Nw.refl _ | refine Xt.Nw.drew ?_ | refine Xt.Nw.drewN ?_ _ | refine Xt.Nw.alloc ?_ _ | refine Xt.Nw.joined ?_ | refine Xt.Nw.drewd ?_ | refine Xt.Nw.drewdN ?_ | refine Xt.Nw.ext ?_ | refine Xt.Nw.ext_some ?_ (by assumption) | refine Xt.Nw.setCell ?_ (by simp [go_sem] <;> omega) _)))))))); refine wpQuiet_nil ?_; intro _ hreg; obtain ⟨dW, rfl⟩ : Nw _ _ := hreg)
    go_wp2
    have hst := HTH.out.stored (t * 5 + 4) (.bool true)
    refine bodyPost_ret (v := res5 0 false 0 0 0) ?_ rfl ⟨by rw [HE.out.1], grownBy_trans hst.2 (grown_weak (Nw.grown (by repeat (first | exact Xt.Nw.refl _ | refine Xt.Nw.drew ?_ | refine Xt.Nw.drewN ?_ _ | refine Xt.Nw.alloc ?_ _ | refine Xt.Nw.joined ?_ | refine Xt.Nw.drewd ?_ | refine Xt.Nw.drewdN ?_ | refine Xt.Nw.ext ?_ | refine Xt.Nw.ext_some ?_ (by assumption) | refine Xt.Nw.setCell ?_ (by simp [go_sem] <;> omega) _))) _), by rw [HE.out.2]; exact own_nw (th_set HTH.out HP.out true) (by repeat (first | exact Xt.Nw.refl _ | refine Xt.Nw.drew ?_ | refine Xt.Nw.drewN ?_ _ | refine Xt.Nw.alloc ?_ _ | refine Xt.Nw.joined ?_ | refine Xt.Nw.drewd ?_ | refine Xt.Nw.drewdN ?_ | refine Xt.Nw.ext ?_ | refine Xt.Nw.ext_some ?_ (by assumption) | refine Xt.Nw.setCell ?_ (by simp [go_sem] <;> omega) _))⟩
    simp [results, Tryd.results40, go_sem, *]
end Go.Proofs.YtdjcndpnjoahmaaDoor
