/- More plain lemmas on worlds that grow. -/
import Derived.Test.YtfnapkfdocabcaaGreatGLib
import Derived.Test.YtfnapkfdocabcaaGreatProg
import Derived.StillTailTactics
import Derived.Deep.DeepCutAuto
import Derived.Deep.RegionHeld3
import Derived.Deep.CutBlock
import Derived.BigRegion
import Derived.Laws.OwnMore
import Derived.Laws.StructEq
import Derived.Laws.Closers25
set_option linter.unusedVariables false
set_option linter.unusedSimpArgs false
set_option linter.unnecessarySimpa false
namespace Go.Xt
open Go.RowKit
theorem Nw.drewd {w b d : World} (h : Nw w (b.ext none d)) : Nw w (b.ext none (ddrew b none d)) := by rw [← drew_ext]; exact h.drew
theorem Nw.drewdN {w b d : World} {n : Nat} (h : Nw w (b.ext none d)) : Nw w (b.ext none (ddrewN b none d n)) := by rw [← drewN_ext]; exact h.drewN n
end Go.Xt
namespace Go.Proofs.YtfnapkfdocabcaaGreat
open Go.RowKit Go.Xt
/-! A configuration with so many threads and slots; its check. -/
/-- A configuration with so many threads and slots. -/
abbrev cfgV (t s : Int) : Value := .agg #[.int .i64 t, .int .i64 s, .int .u8 1, .int .i64 0, .int .u8 1, .int .i64 0, .slice none 0 0, .int .i64 0, .int .i64 0, .int .i64 0, .int .i64 0, .int .i64 0, .int .i64 0, .int .i64 1, .int .i64 1, .int .i64 0]
theorem within_tt (n a b : Int) (w : World) (h1 : a ≤ n) (h2 : n ≤ b) :
    Calls Tryz.prog 50 #[.int .i64 n, .int .i64 a, .int .i64 b] w fun e w' => e = .returned (.bool true) ∧ Nw w w' := by
  have d1 : decide (a ≤ n) = true := by simpa using h1
  have d2 : decide (n ≤ b) = true := by simpa using h2
  go_enter Tryz.func50, Tryz.ntmps50
  go_wp2
  go_ret
  exact ⟨rfl, (by repeat (first | exact Xt.Nw.refl _ | refine Xt.Nw.drew ?_ | refine Xt.Nw.drewN ?_ _ | refine Xt.Nw.alloc ?_ _ | refine Xt.Nw.joined ?_ | refine Xt.Nw.drewd ?_ | refine Xt.Nw.drewdN ?_ | refine Xt.Nw.ext ?_ | refine Xt.Nw.ext_some ?_ (by assumption) | refine Xt.Nw.setCell ?_ (by simp [go_sem] <;> omega) _))⟩
set_option maxRecDepth 20000 in
set_option maxHeartbeats 4000000 in
theorem domain_any (w : World) :
    Calls Tryz.prog 51 #[.agg #[.int .u8 1, .int .i64 0, .slice none 0 0]] w fun e w' => e = .returned (.int .i64 0) ∧ Nw w w' := by
  go_enter Tryz.func51, Tryz.ntmps51
  go_wp2
  go_ret
  exact ⟨rfl, (by repeat (first | exact Xt.Nw.refl _ | refine Xt.Nw.drew ?_ | refine Xt.Nw.drewN ?_ _ | refine Xt.Nw.alloc ?_ _ | refine Xt.Nw.joined ?_ | refine Xt.Nw.drewd ?_ | refine Xt.Nw.drewdN ?_ | refine Xt.Nw.ext ?_ | refine Xt.Nw.ext_some ?_ (by assumption) | refine Xt.Nw.setCell ?_ (by simp [go_sem] <;> omega) _))⟩
end Go.Proofs.YtfnapkfdocabcaaGreat
namespace Go.Proofs.YtfnapkfdocabcaaGreat
open Go.RowKit Go.Xt
/-! layout.Check of such a configuration. -/
set_option maxRecDepth 20000 in
@[go_sem high] theorem idx6_0 (w : World) : Sem.run Tryz.prog (Instr.index 25 (.agg #[.int .i64 0, .int .i64 0, .int .i64 0, .int .i64 0, .int .i64 0, .int .i64 0]) (.int .i64 0)) w = .ok (.int .i64 0) w := by rfl
set_option maxRecDepth 20000 in
@[go_sem high] theorem idx6_1 (w : World) : Sem.run Tryz.prog (Instr.index 25 (.agg #[.int .i64 0, .int .i64 0, .int .i64 0, .int .i64 0, .int .i64 0, .int .i64 0]) (.int .i64 1)) w = .ok (.int .i64 0) w := by rfl
set_option maxRecDepth 20000 in
@[go_sem high] theorem idx6_2 (w : World) : Sem.run Tryz.prog (Instr.index 25 (.agg #[.int .i64 0, .int .i64 0, .int .i64 0, .int .i64 0, .int .i64 0, .int .i64 0]) (.int .i64 2)) w = .ok (.int .i64 0) w := by rfl
set_option maxRecDepth 20000 in
@[go_sem high] theorem idx6_3 (w : World) : Sem.run Tryz.prog (Instr.index 25 (.agg #[.int .i64 0, .int .i64 0, .int .i64 0, .int .i64 0, .int .i64 0, .int .i64 0]) (.int .i64 3)) w = .ok (.int .i64 0) w := by rfl
set_option maxRecDepth 20000 in
@[go_sem high] theorem idx6_4 (w : World) : Sem.run Tryz.prog (Instr.index 25 (.agg #[.int .i64 0, .int .i64 0, .int .i64 0, .int .i64 0, .int .i64 0, .int .i64 0]) (.int .i64 4)) w = .ok (.int .i64 0) w := by rfl
set_option maxRecDepth 20000 in
@[go_sem high] theorem idx6_5 (w : World) : Sem.run Tryz.prog (Instr.index 25 (.agg #[.int .i64 0, .int .i64 0, .int .i64 0, .int .i64 0, .int .i64 0, .int .i64 0]) (.int .i64 5)) w = .ok (.int .i64 0) w := by rfl
set_option maxRecDepth 20000 in
set_option maxHeartbeats 8000000 in
theorem layout_any (t s : Int) (w : World) (ht : 1 ≤ t ∧ t ≤ 64) (hs : 1 ≤ s ∧ s ≤ 64) :
    Calls Tryz.prog 24 #[cfgV t s] w fun e w' => e = .returned (.int .i64 0) ∧ Nw w w' := by
  obtain ⟨W1, hW1⟩ : ∃ W1, W1 = w.alloc (.cells #[.int .i64 t, .int .i64 s, .int .u8 1, .int .i64 0, .int .u8 1, .int .i64 0, .slice none 0 0, .int .i64 0, .int .i64 0, .int .i64 0, .int .i64 0, .int .i64 0, .int .i64 0, .int .i64 1, .int .i64 1, .int .i64 0] 27) := ⟨_, rfl⟩
  have hN1 : Nw w W1 := by rw [hW1]; exact (by repeat (first | exact Xt.Nw.refl _ | refine Xt.Nw.drew ?_ | refine Xt.Nw.drewN ?_ _ | refine Xt.Nw.alloc ?_ _ | refine Xt.Nw.joined ?_ | refine Xt.Nw.drewd ?_ | refine Xt.Nw.drewdN ?_ | refine Xt.Nw.ext ?_ | refine Xt.Nw.ext_some ?_ (by assumption) | refine Xt.Nw.setCell ?_ (by simp [go_sem] <;> omega) _))
  have b0 : W1.cell? ⟨w.heap.size, 0, none⟩ = some (.int .i64 t) := by rw [hW1]; simp [go_sem]
  have b1 : W1.cell? ⟨w.heap.size, 1, none⟩ = some (.int .i64 s) := by rw [hW1]; simp [go_sem]
  have b2 : W1.cell? ⟨w.heap.size, 2, none⟩ = some (.int .u8 1) := by rw [hW1]; simp [go_sem]
  have b3 : W1.cell? ⟨w.heap.size, 3, none⟩ = some (.int .i64 0) := by rw [hW1]; simp [go_sem]
  have b4 : W1.cell? ⟨w.heap.size, 4, none⟩ = some (.int .u8 1) := by rw [hW1]; simp [go_sem]
  have b5 : W1.cell? ⟨w.heap.size, 5, none⟩ = some (.int .i64 0) := by rw [hW1]; simp [go_sem]
  have b6 : W1.cell? ⟨w.heap.size, 6, none⟩ = some (.slice none 0 0) := by rw [hW1]; simp [go_sem]
  have b7 : W1.cell? ⟨w.heap.size, 7, none⟩ = some (.int .i64 0) := by rw [hW1]; simp [go_sem]
  have b8 : W1.cell? ⟨w.heap.size, 8, none⟩ = some (.int .i64 0) := by rw [hW1]; simp [go_sem]
  have b9 : W1.cell? ⟨w.heap.size, 9, none⟩ = some (.int .i64 0) := by rw [hW1]; simp [go_sem]
  have b10 : W1.cell? ⟨w.heap.size, 10, none⟩ = some (.int .i64 0) := by rw [hW1]; simp [go_sem]
  have b11 : W1.cell? ⟨w.heap.size, 11, none⟩ = some (.int .i64 0) := by rw [hW1]; simp [go_sem]
  have b12 : W1.cell? ⟨w.heap.size, 12, none⟩ = some (.int .i64 0) := by rw [hW1]; simp [go_sem]
  have b13 : W1.cell? ⟨w.heap.size, 13, none⟩ = some (.int .i64 1) := by rw [hW1]; simp [go_sem]
  have b14 : W1.cell? ⟨w.heap.size, 14, none⟩ = some (.int .i64 1) := by rw [hW1]; simp [go_sem]
  have b15 : W1.cell? ⟨w.heap.size, 15, none⟩ = some (.int .i64 0) := by rw [hW1]; simp [go_sem]
  have HW1 := Lib.hid hW1
  have HN1 := Lib.hid hN1
  haveI : In w.heap.size W1 := ⟨World.block_lt_of_cell? W1 _ b0⟩
  obtain ⟨t1, t2⟩ := ht
  obtain ⟨s1, s2⟩ := hs
  clear hW1 hN1
  go_enter Tryz.func24, Tryz.ntmps24
  go_upto_region 1 with (fail)
  rw [← HW1.out]
  go_wp2
  go_loopw [4, 18] (fun a b wr => ∃ i : Nat, i ≤ 6 ∧ a = .int .i64 1024 ∧ b = .int .i64 i ∧ Nw W1 wr) (fun _ b _ => 6 - (intOf b).toNat)
  case atStart => exact ⟨0, by omega, rfl, rfl, Nw.refl _⟩
  case round =>
    obtain ⟨i, hi, rfl, rfl, d, rfl⟩ := hrel
    rcases (by omega : i = 0 ∨ i = 1 ∨ i = 2 ∨ i = 3 ∨ i = 4 ∨ i = 5 ∨ i = 6) with hz | rfl | rfl | rfl | rfl | rfl | rfl
    · have hiI : (i : Int) = 0 := by omega
      have hz2 := Lib.hid hz
      clear hz
      go_wp2
      exact ⟨⟨1, by omega, rfl, rfl, ⟨_, rfl⟩⟩, by simp [intOf, hz2.out]⟩
    · go_wp2
      exact ⟨⟨2, by omega, rfl, rfl, ⟨_, rfl⟩⟩, by simp [intOf]⟩
    · go_wp2
      exact ⟨⟨3, by omega, rfl, rfl, ⟨_, rfl⟩⟩, by simp [intOf]⟩
    · go_wp2
      exact ⟨⟨4, by omega, rfl, rfl, ⟨_, rfl⟩⟩, by simp [intOf]⟩
    · go_wp2
      exact ⟨⟨5, by omega, rfl, rfl, ⟨_, rfl⟩⟩, by simp [intOf]⟩
    · go_wp2
      exact ⟨⟨6, by omega, rfl, rfl, ⟨_, rfl⟩⟩, by simp [intOf]⟩
    · go_wp2_with (first
        | (go_at_call 50; refine (within_tt _ _ _ _ (by omega) (by omega)).mono ?_; rintro e w' ⟨rfl, dW, rfl⟩)
        | (go_at_call 51; refine (domain_any _).mono ?_; rintro e w' ⟨rfl, dW, rfl⟩))
      go_ret
      exact ⟨rfl, HN1.out.trans ((by repeat (first | exact Xt.Nw.refl _ | refine Xt.Nw.drew ?_ | refine Xt.Nw.drewN ?_ _ | refine Xt.Nw.alloc ?_ _ | refine Xt.Nw.joined ?_ | refine Xt.Nw.drewd ?_ | refine Xt.Nw.drewdN ?_ | refine Xt.Nw.ext ?_ | refine Xt.Nw.ext_some ?_ (by assumption) | refine Xt.Nw.setCell ?_ (by simp [go_sem] <;> omega) _)))⟩
end Go.Proofs.YtfnapkfdocabcaaGreat
namespace Go.Proofs.YtfnapkfdocabcaaGreat
open Go.RowKit Go.Xt
/-! A model in memory; New. -/
set_option maxRecDepth 20000 in
set_option maxHeartbeats 4000000 in
theorem omapnew_any (w : World) :
    Calls Tryz.prog 25 #[.slice none 0 0] w fun e w' => e = .returned (.tuple #[.pointer (some ⟨w.heap.size, 0, none⟩), .int .i64 0]) ∧ w' = w.alloc (.cells #[.slice none 0 0] 112) := by
  go_enter Tryz.func25, Tryz.ntmps25
  go_wp2
  go_loopw [13] (fun a wr => a = .int .i64 0 ∧ wr = w.alloc (.cells #[.slice none 0 0] 112)) (fun _ _ => 0)
  case atStart => exact ⟨rfl, rfl⟩
  case round =>
    obtain ⟨rfl, rfl⟩ := hrel
    go_wp2
    exact bodyPost_ret (results_tmp2 rfl _ _ _) rfl ⟨rfl, rfl⟩
theorem cell_nw {w w' : World} {b i : Nat} {v : Value} (h : w.cell? ⟨b, i, none⟩ = some v) (hn : Nw w w') : w'.cell? ⟨b, i, none⟩ = some v :=
  (World.cell?_of_block (hn.grown.block b (World.block_lt_of_cell? w _ h) (by simp))).trans h
theorem frozen_nw {W W' : World} {b o : Nat} (hb : b < W.heap.size) (hn : Nw W W') : W'.frozen? ⟨b, o, none⟩ = W.frozen? ⟨b, o, none⟩ :=
  World.frozen?_of_block (hn.grown.block b hb (by simp))
theorem thInfo : (Tryz.prog.info? 98).map (fun i => (i.zero, i.size, i.bytes)) = some (some (.agg #[.bool false, .bool false, .int .u64 0, .int .u64 0, .bool false]), 5, 32) := by kernel_rfl
/-- The threads' cells: no iterator, a session or none. -/
def thr (b : List Bool) : List Value := b.flatMap fun s => [.bool false, .bool false, .int .u64 0, .int .u64 0, .bool s]
theorem thr_made {n : Nat} (h : 1 ≤ n ∧ n ≤ 8) : (madeCells (Value.agg #[.bool false, .bool false, .int .u64 0, .int .u64 0, .bool false]).cells (n * 5)).toList = thr (List.replicate n false) := by
  rcases (by omega : n = 1 ∨ n = 2 ∨ n = 3 ∨ n = 4 ∨ n = 5 ∨ n = 6 ∨ n = 7 ∨ n = 8) with rfl | rfl | rfl | rfl | rfl | rfl | rfl | rfl <;> kernel_rfl
/-- A model: its slots, its map (whose slice is L), its threads (none iterates). -/
structure Mdl (base : Nat) (W : World) (gm gt gp : Nat) (slots : Int) (b : List Bool) (L : Value) : Prop where
  bm : base ≤ gm
  bt : base ≤ gt
  bp : base ≤ gp
  im : gm < W.heap.size
  it : gt < W.heap.size
  ip : gp < W.heap.size
  m0 : W.cell? ⟨gm, 0, none⟩ = some (.int .i64 slots)
  m1 : W.cell? ⟨gm, 1, none⟩ = some (.pointer (some ⟨gp, 0, none⟩))
  m2 : W.cell? ⟨gm, 2, none⟩ = some (.slice (some ⟨gt, 0, none⟩) b.length b.length)
  p0 : W.cell? ⟨gp, 0, none⟩ = some L
  pz : W.frozen? ⟨gp, 0, none⟩ = false
  th : W.ownsRow base 98 5 (.slice (some ⟨gt, 0, none⟩) b.length b.length) b.length (thr b)
  nmt : gm ≠ gt
  nmp : gm ≠ gp
  ntp : gt ≠ gp
end Go.Proofs.YtfnapkfdocabcaaGreat
namespace Go.Proofs.YtfnapkfdocabcaaGreat
open Go.RowKit Go.Xt
/-! Equality of operations and of results; client.Check at five operations. -/
abbrev op7 (k a b c d e f : Int) : Value := .agg #[.int .u8 k, .int .u64 a, .int .u64 b, .int .u64 c, .int .u64 d, .int .u64 e, .int .u64 f]
abbrev res5 (e : Int) (f : Bool) (k v c : Int) : Value := .agg #[.int .i64 e, .bool f, .int .u64 k, .int .u64 v, .int .i64 c]
theorem ite_ok0 (p : Prop) [Decidable p] (w : World) : (if p then Result.ok true w else Result.ok false w) = Result.ok (decide p) w := by split <;> simp_all
theorem ite_ok (p q : Prop) [Decidable p] [Decidable q] (w : World) : (if p then Result.ok (decide q) w else Result.ok false w) = Result.ok (decide (p ∧ q)) w := by split <;> simp_all
@[go_sem high] theorem eqOp (k a b c d e f k' a' b' c' d' e' f' : Int) (w : World) : (Op.equalIn 10000 43 (op7 k a b c d e f) (op7 k' a' b' c' d' e' f')).run Tryz.prog w = .ok (decide (k = k') && (decide (a = a') && (decide (b = b') && (decide (c = c') && (decide (d = d') && (decide (e = e') && decide (f = f'))))))) w := by
  have hS : Tryz.prog.underlying 43 = some (.struct (Tryz.prog.fieldsOf 43)) := by kernel_rfl
  have hp : Tryz.prog.stoodInHeld 43 = false := by kernel_rfl
  rw [show (10000 : Nat) = 9999 + 1 from rfl, run_equalIn_agg w 9999 43 _ _ hS hp]
  simp only [Program.fieldsOf, Tryz.underlying43]
  go_simp
  simp only [ite_ok0, ite_ok]
  simp only [Bool.decide_and]
@[go_sem high] theorem eqRes (e : Int) (f : Bool) (k v c e' : Int) (f' : Bool) (k' v' c' : Int) (w : World) : (Op.equalIn 10000 33 (res5 e f k v c) (res5 e' f' k' v' c')).run Tryz.prog w = .ok (decide (e = e') && (decide (f = f') && (decide (k = k') && (decide (v = v') && decide (c = c'))))) w := by
  have hS : Tryz.prog.underlying 33 = some (.struct (Tryz.prog.fieldsOf 33)) := by kernel_rfl
  have hp : Tryz.prog.stoodInHeld 33 = false := by kernel_rfl
  rw [show (10000 : Nat) = 9999 + 1 from rfl, run_equalIn_agg w 9999 33 _ _ hS hp]
  simp only [Program.fieldsOf, Tryz.underlying33]
  go_simp
  simp only [ite_ok0, ite_ok]
  simp only [Bool.decide_and]
end Go.Proofs.YtfnapkfdocabcaaGreat
