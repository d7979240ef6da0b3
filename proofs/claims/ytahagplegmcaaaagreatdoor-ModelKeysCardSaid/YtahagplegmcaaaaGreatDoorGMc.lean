import Derived.Test.YtahagplegmcaaaaGreatDoorGLaw
set_option linter.unusedVariables false
set_option linter.unusedSimpArgs false
set_option linter.unnecessarySimpa false
namespace Go.Proofs.YtahagplegmcaaaaGreatDoor
open Go.RowKit Go.Xt
/-! A model in memory; New. -/
set_option maxRecDepth 20000 in
set_option maxHeartbeats 4000000 in
theorem omapnew_any (w : World) :
    Calls Tryz.prog 16 #[.slice none 0 0] w fun e w' => e = .returned (.tuple #[.pointer (some ⟨w.heap.size, 0, none⟩), .int .i64 0]) ∧ w' = w.alloc (.cells #[.slice none 0 0] 114) := by
  go_enter Tryz.func16, Tryz.ntmps16
  go_wp2
  go_loopw [13] (fun a wr => a = .int .i64 0 ∧ wr = w.alloc (.cells #[.slice none 0 0] 114)) (fun _ _ => 0)
  case atStart => exact ⟨rfl, rfl⟩
  case round =>
    obtain ⟨rfl, rfl⟩ := hrel
    go_wp2
    exact bodyPost_ret (results_tmp2 rfl _ _ _) rfl ⟨rfl, rfl⟩
theorem cell_nw {w w' : World} {b i : Nat} {v : Value} (h : w.cell? ⟨b, i, none⟩ = some v) (hn : Nw w w') : w'.cell? ⟨b, i, none⟩ = some v :=
  (World.cell?_of_block (hn.grown.block b (World.block_lt_of_cell? w _ h) (by simp))).trans h
theorem frozen_nw {W W' : World} {b o : Nat} (hb : b < W.heap.size) (hn : Nw W W') : W'.frozen? ⟨b, o, none⟩ = W.frozen? ⟨b, o, none⟩ :=
  World.frozen?_of_block (hn.grown.block b hb (by simp))
theorem thInfo : (Tryz.prog.info? 101).map (fun i => (i.zero, i.size, i.bytes)) = some (some (.agg #[.bool false, .bool false, .int .u64 0, .int .u64 0, .bool false]), 5, 32) := by kernel_rfl
/-- The threads' cells: no iterator, a session or none. -/
def thr (b : List Bool) : List Value := b.flatMap fun s => [.bool false, .bool false, .int .u64 0, .int .u64 0, .bool s]
theorem thr_made {n : Nat} (h : 1 ≤ n ∧ n ≤ 8) : (madeCells (Value.agg #[.bool false, .bool false, .int .u64 0, .int .u64 0, .bool false]).cells (n * 5)).toList = thr (List.replicate n false) := by
  rcases (by omega : n = 1 ∨ n = 2 ∨ n = 3 ∨ n = 4 ∨ n = 5 ∨ n = 6 ∨ n = 7 ∨ n = 8) with rfl | rfl | rfl | rfl | rfl | rfl | rfl | rfl <;> kernel_rfl
/-- A model: its slots, its map (whose slice is L), its threads (none iterates). -/
structure Mdl (base : Nat) (W : World) (gm gt gp : Nat) (slots : Int) (b : List Bool) (L : Value) : Prop where
  bm : base ≤ gm
  bt : base ≤ gt
  bp : base ≤ gp
  im : gm < W.heap.size
  it : gt < W.heap.size
  ip : gp < W.heap.size
  m0 : W.cell? ⟨gm, 0, none⟩ = some (.int .i64 slots)
  m1 : W.cell? ⟨gm, 1, none⟩ = some (.pointer (some ⟨gp, 0, none⟩))
  m2 : W.cell? ⟨gm, 2, none⟩ = some (.slice (some ⟨gt, 0, none⟩) b.length b.length)
  p0 : W.cell? ⟨gp, 0, none⟩ = some L
  pz : W.frozen? ⟨gp, 0, none⟩ = false
  th : W.ownsRow base 101 5 (.slice (some ⟨gt, 0, none⟩) b.length b.length) b.length (thr b)
  nmt : gm ≠ gt
  nmp : gm ≠ gp
  ntp : gt ≠ gp
end Go.Proofs.YtahagplegmcaaaaGreatDoor
namespace Go.Proofs.YtahagplegmcaaaaGreatDoor
open Go.RowKit Go.Xt
/-! Equality of operations and of results; client.Check at five operations. -/
abbrev op7 (k a b c d e f : Int) : Value := .agg #[.int .u8 k, .int .u64 a, .int .u64 b, .int .u64 c, .int .u64 d, .int .u64 e, .int .u64 f]
abbrev res5 (e : Int) (f : Bool) (k v c : Int) : Value := .agg #[.int .i64 e, .bool f, .int .u64 k, .int .u64 v, .int .i64 c]
theorem ite_ok0 (p : Prop) [Decidable p] (w : World) : (if p then Result.ok true w else Result.ok false w) = Result.ok (decide p) w := by split <;> simp_all
theorem ite_ok (p q : Prop) [Decidable p] [Decidable q] (w : World) : (if p then Result.ok (decide q) w else Result.ok false w) = Result.ok (decide (p ∧ q)) w := by split <;> simp_all
@[go_sem high] theorem eqOp (k a b c d e f k' a' b' c' d' e' f' : Int) (w : World) : (Op.equalIn 10000 45 (op7 k a b c d e f) (op7 k' a' b' c' d' e' f')).run Tryz.prog w = .ok (decide (k = k') && (decide (a = a') && (decide (b = b') && (decide (c = c') && (decide (d = d') && (decide (e = e') && decide (f = f'))))))) w := by
  have hS : Tryz.prog.underlying 45 = some (.struct (Tryz.prog.fieldsOf 45)) := by kernel_rfl
  have hp : Tryz.prog.stoodInHeld 45 = false := by kernel_rfl
  rw [show (10000 : Nat) = 9999 + 1 from rfl, run_equalIn_agg w 9999 45 _ _ hS hp]
  simp only [Program.fieldsOf, Tryz.underlying45]
  go_simp
  simp only [ite_ok0, ite_ok]
  simp only [Bool.decide_and]
@[go_sem high] theorem eqRes (e : Int) (f : Bool) (k v c e' : Int) (f' : Bool) (k' v' c' : Int) (w : World) : (Op.equalIn 10000 42 (res5 e f k v c) (res5 e' f' k' v' c')).run Tryz.prog w = .ok (decide (e = e') && (decide (f = f') && (decide (k = k') && (decide (v = v') && decide (c = c'))))) w := by
  have hS : Tryz.prog.underlying 42 = some (.struct (Tryz.prog.fieldsOf 42)) := by kernel_rfl
  have hp : Tryz.prog.stoodInHeld 42 = false := by kernel_rfl
  rw [show (10000 : Nat) = 9999 + 1 from rfl, run_equalIn_agg w 9999 42 _ _ hS hp]
  simp only [Program.fieldsOf, Tryz.underlying42]
  go_simp
  simp only [ite_ok0, ite_ok]
  simp only [Bool.decide_and]
end Go.Proofs.YtahagplegmcaaaaGreatDoor
namespace Go.Proofs.YtahagplegmcaaaaGreatDoor
open Go.RowKit Go.Xt
/-! Refusals. -/
theorem thr_get : ∀ (b : List Bool) (k : Nat) (s : Bool), b[k]? = some s → (thr b)[k * 5]? = some (.bool false) ∧ (thr b)[k * 5 + 1]? = some (.bool false) ∧ (thr b)[k * 5 + 2]? = some (.int .u64 0) ∧ (thr b)[k * 5 + 3]? = some (.int .u64 0) ∧ (thr b)[k * 5 + 4]? = some (.bool s)
  | [], k, s, h => by simp at h
  | x :: b, 0, s, h => by simp at h; subst h; exact ⟨rfl, rfl, rfl, rfl, rfl⟩
  | x :: b, k + 1, s, h => by
    have h2 := thr_get b k s (by simpa using h)
    have e : ∀ j, (thr (x :: b))[(k + 1) * 5 + j]? = (thr b)[k * 5 + j]? := fun j => by
      rw [show (k + 1) * 5 + j = (k * 5 + j) + 5 by omega]; rfl
    exact ⟨(e 0).trans h2.1, (e 1).trans h2.2.1, (e 2).trans h2.2.2.1, (e 3).trans h2.2.2.2.1, (e 4).trans h2.2.2.2.2⟩
theorem Mdl.cells {base : Nat} {W : World} {gm gt gp : Nat} {slots : Int} {b : List Bool} {L : Value} (h : Mdl base W gm gt gp slots b L) {k : Nat} {s : Bool} (hk : b[k]? = some s) :
    W.cell? ⟨gt, k * 5, none⟩ = some (.bool false) ∧ W.cell? ⟨gt, k * 5 + 1, none⟩ = some (.bool false) ∧ W.cell? ⟨gt, k * 5 + 2, none⟩ = some (.int .u64 0) ∧ W.cell? ⟨gt, k * 5 + 3, none⟩ = some (.int .u64 0) ∧ W.cell? ⟨gt, k * 5 + 4, none⟩ = some (.bool s) := by
  obtain ⟨p, _⟩ := List.getElem?_eq_some_iff.1 hk
  obtain ⟨g0, g1, g2, g3, g4⟩ := thr_get b k s hk
  exact ⟨(h.th.cellAt _ (by omega)).trans g0, (h.th.cellAt _ (by omega)).trans g1, (h.th.cellAt _ (by omega)).trans g2, (h.th.cellAt _ (by omega)).trans g3, (h.th.cellAt _ (by omega)).trans g4⟩
def cnt (b : List Bool) : Nat := b.count true
end Go.Proofs.YtahagplegmcaaaaGreatDoor
