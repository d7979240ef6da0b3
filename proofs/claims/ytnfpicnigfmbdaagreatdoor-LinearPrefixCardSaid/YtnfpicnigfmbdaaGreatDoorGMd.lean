import Derived.Test.YtnfpicnigfmbdaaGreatDoorGLaw
import Derived.Laws.EntriesVeiled
set_option linter.unusedVariables false
set_option linter.unusedSimpArgs false
set_option linter.unnecessarySimpa false
namespace Go.Proofs.YtnfpicnigfmbdaaGreatDoor
open Go.RowKit Go.Xt
/-! Equality of operations and of results; client.Check at five operations. -/
abbrev op7 (k a b c d e f : Int) : Value := .agg #[.int .u8 k, .int .u64 a, .int .u64 b, .int .u64 c, .int .u64 d, .int .u64 e, .int .u64 f]
abbrev res5 (e : Int) (f : Bool) (k v c : Int) : Value := .agg #[.int .i64 e, .bool f, .int .u64 k, .int .u64 v, .int .i64 c]
theorem ite_ok0 (p : Prop) [Decidable p] (w : World) : (if p then Result.ok true w else Result.ok false w) = Result.ok (decide p) w := by split <;> simp_all
theorem ite_ok (p q : Prop) [Decidable p] [Decidable q] (w : World) : (if p then Result.ok (decide q) w else Result.ok false w) = Result.ok (decide (p ∧ q)) w := by split <;> simp_all
@[go_sem high] theorem eqOp (k a b c d e f k' a' b' c' d' e' f' : Int) (w : World) : (Op.equalIn 10000 45 (op7 k a b c d e f) (op7 k' a' b' c' d' e' f')).run Tryz.prog w = .ok (decide (k = k') && (decide (a = a') && (decide (b = b') && (decide (c = c') && (decide (d = d') && (decide (e = e') && decide (f = f'))))))) w := by
  have hS : Tryz.prog.underlying 45 = some (.struct (Tryz.prog.fieldsOf 45)) := by kernel_rfl
  have hp : Tryz.prog.stoodInHeld 45 = false := by kernel_rfl
  rw [show (10000 : Nat) = 9999 + 1 from rfl, run_equalIn_agg w 9999 45 _ _ hS hp]
  simp only [Program.fieldsOf, Tryz.underlying45]
  go_simp
  simp only [ite_ok0, ite_ok]
  simp only [Bool.decide_and]
@[go_sem high] theorem eqRes (e : Int) (f : Bool) (k v c e' : Int) (f' : Bool) (k' v' c' : Int) (w : World) : (Op.equalIn 10000 47 (res5 e f k v c) (res5 e' f' k' v' c')).run Tryz.prog w = .ok (decide (e = e') && (decide (f = f') && (decide (k = k') && (decide (v = v') && decide (c = c'))))) w := by
  have hS : Tryz.prog.underlying 47 = some (.struct (Tryz.prog.fieldsOf 47)) := by kernel_rfl
  have hp : Tryz.prog.stoodInHeld 47 = false := by kernel_rfl
  rw [show (10000 : Nat) = 9999 + 1 from rfl, run_equalIn_agg w 9999 47 _ _ hS hp]
  simp only [Program.fieldsOf, Tryz.underlying47]
  go_simp
  simp only [ite_ok0, ite_ok]
  simp only [Bool.decide_and]
end Go.Proofs.YtnfpicnigfmbdaaGreatDoor
namespace Go.Proofs.YtnfpicnigfmbdaaGreatDoor
open Go.RowKit Go.Xt
/-! Refusals. -/
theorem thr_get : ∀ (b : List Bool) (k : Nat) (s : Bool), b[k]? = some s → (thr b)[k * 5]? = some (.bool false) ∧ (thr b)[k * 5 + 1]? = some (.bool false) ∧ (thr b)[k * 5 + 2]? = some (.int .u64 0) ∧ (thr b)[k * 5 + 3]? = some (.int .u64 0) ∧ (thr b)[k * 5 + 4]? = some (.bool s)
  | [], k, s, h => by simp at h
  | x :: b, 0, s, h => by simp at h; subst h; exact ⟨rfl, rfl, rfl, rfl, rfl⟩
  | x :: b, k + 1, s, h => by
    have h2 := thr_get b k s (by simpa using h)
    have e : ∀ j, (thr (x :: b))[(k + 1) * 5 + j]? = (thr b)[k * 5 + j]? := fun j => by
      rw [show (k + 1) * 5 + j = (k * 5 + j) + 5 by omega]; rfl
    exact ⟨(e 0).trans h2.1, (e 1).trans h2.2.1, (e 2).trans h2.2.2.1, (e 3).trans h2.2.2.2.1, (e 4).trans h2.2.2.2.2⟩
theorem Mdl.cells {base : Nat} {W : World} {gm gt gp : Nat} {slots : Int} {b : List Bool} {L : Value} (h : Mdl base W gm gt gp slots b L) {k : Nat} {s : Bool} (hk : b[k]? = some s) :
    W.cell? ⟨gt, k * 5, none⟩ = some (.bool false) ∧ W.cell? ⟨gt, k * 5 + 1, none⟩ = some (.bool false) ∧ W.cell? ⟨gt, k * 5 + 2, none⟩ = some (.int .u64 0) ∧ W.cell? ⟨gt, k * 5 + 3, none⟩ = some (.int .u64 0) ∧ W.cell? ⟨gt, k * 5 + 4, none⟩ = some (.bool s) := by
  obtain ⟨p, _⟩ := List.getElem?_eq_some_iff.1 hk
  obtain ⟨g0, g1, g2, g3, g4⟩ := thr_get b k s hk
  exact ⟨(h.th.cellAt _ (by omega)).trans g0, (h.th.cellAt _ (by omega)).trans g1, (h.th.cellAt _ (by omega)).trans g2, (h.th.cellAt _ (by omega)).trans g3, (h.th.cellAt _ (by omega)).trans g4⟩
def cnt (b : List Bool) : Nat := b.count true
end Go.Proofs.YtnfpicnigfmbdaaGreatDoor
namespace Go.Proofs.YtnfpicnigfmbdaaGreatDoor
open Go.RowKit Go.Xt
/-! Opening and shutting. -/
/-- The row of the threads. -/
def ThRow (base : Nat) (W : World) (gt : Nat) (b : List Bool) : Prop := W.ownsRow base 130 5 (.slice (some ⟨gt, 0, none⟩) b.length b.length) b.length (thr b)
theorem grown_weak {w w' : World} (h : w.grownBy w' none) (r : Option Nat) : w.grownBy w' r := ⟨h.os, h.tape, h.output, h.size, fun k hk _ => h.block k hk (by simp)⟩
theorem Mdl.nw {base : Nat} {W W' : World} {gm gt gp : Nat} {slots : Int} {b : List Bool} {L : Value} (h : Mdl base W gm gt gp slots b L) (hn : Nw W W') : Mdl base W' gm gt gp slots b L :=
  { h with im := Nat.lt_of_lt_of_le h.im hn.grown.size, it := Nat.lt_of_lt_of_le h.it hn.grown.size, ip := Nat.lt_of_lt_of_le h.ip hn.grown.size, m0 := cell_nw h.m0 hn, m1 := cell_nw h.m1 hn, m2 := cell_nw h.m2 hn, p0 := cell_nw h.p0 hn, pz := (frozen_nw h.ip hn).trans h.pz, th := own_nw h.th hn }
/-- What OpOpen returns of a thread that has no session, and the threads then. -/
def opE (slots : Int) (b : List Bool) : Int := if slots ≤ (cnt b : Nat) then 10 else 0
def opB (slots : Int) (b : List Bool) (t : Nat) : List Bool := if slots ≤ (cnt b : Nat) then b else b.set t true
end Go.Proofs.YtnfpicnigfmbdaaGreatDoor
namespace Go.Proofs.YtnfpicnigfmbdaaGreatDoor
open Go.RowKit Go.Xt
/-! perform. -/
/-- Nothing that was there has changed but in these blocks. -/
structure Chg (X : List Nat) (w w' : World) : Prop where
  os : w'.os = w.os
  tape : w'.tape = w.tape
  output : w'.output = w.output
  size : w.heap.size ≤ w'.heap.size
  block : ∀ k, k < w.heap.size → k ∉ X → w'.heap[k]? = w.heap[k]?
theorem Chg.cell {X : List Nat} {w w' : World} (h : Chg X w w') {b i : Nat} {v : Value} (hc : w.cell? ⟨b, i, none⟩ = some v) (hb : b ∉ X) : w'.cell? ⟨b, i, none⟩ = some v :=
  (World.cell?_of_block (h.block b (World.block_lt_of_cell? w _ hc) hb)).trans hc
theorem Chg.frozen {X : List Nat} {w w' : World} (h : Chg X w w') {b i : Nat} (hl : b < w.heap.size) (hb : b ∉ X) : w'.frozen? ⟨b, i, none⟩ = w.frozen? ⟨b, i, none⟩ :=
  World.frozen?_of_block (h.block b hl hb)
theorem Chg.of_grown {g : Nat} {w w' : World} (h : w.grownBy w' (some g)) : Chg [g] w w' := ⟨h.os, h.tape, h.output, h.size, fun k hk hx => h.block k hk (by simpa using hx)⟩
theorem Chg.grown {g : Nat} {w w' : World} (h : Chg [g] w w') : w.grownBy w' (some g) := ⟨h.os, h.tape, h.output, h.size, fun k hk hx => h.block k hk (by simpa using hx)⟩
theorem Chg.of_nw {X : List Nat} {w w' : World} (h : Nw w w') : Chg X w w' := ⟨h.grown.os, h.grown.tape, h.grown.output, h.grown.size, fun k hk _ => h.grown.block k hk (by simp)⟩
theorem Chg.trans {X : List Nat} {a b c : World} (h : Chg X a b) (k : Chg X b c) : Chg X a c := ⟨k.os.trans h.os, k.tape.trans h.tape, k.output.trans h.output, Nat.le_trans h.size k.size, fun j hj hx => (k.block j (Nat.lt_of_lt_of_le hj h.size) hx).trans (h.block j hj hx)⟩
theorem Chg.set1 (w : World) (g o : Nat) (v : Value) : Chg [g] w (w.setCell ⟨g, o, none⟩ v) :=
  ⟨rfl, rfl, rfl, by simp, fun k _ hx => RowKit.Below.heap_setCell _ _ _ _ (by simp at hx; simpa using hx)⟩
theorem Chg.set2 {a b : World} {g : Nat} (h : Chg [g] a b) (o : Nat) (v : Value) : Chg [g] a (b.setCell ⟨g, o, none⟩ v) := h.trans (Chg.set1 b g o v)
end Go.Proofs.YtnfpicnigfmbdaaGreatDoor
namespace Go.Proofs.YtnfpicnigfmbdaaGreatDoor
open Go.RowKit Go.Xt
/-! Do at opening and shutting. -/
end Go.Proofs.YtnfpicnigfmbdaaGreatDoor
namespace Go.Proofs.YtnfpicnigfmbdaaGreatDoor
open Go.RowKit Go.Xt
/-! Session. -/
set_option maxRecDepth 20000 in
@[go_sem high] theorem fld_sess (x y z : Bool) (l h : Int) (w : World) : Sem.run Tryz.prog (Instr.field 130 (.agg #[.bool x, .bool y, .int .u64 l, .int .u64 h, .bool z]) 1) w = .ok (.bool z) w := by rfl
end Go.Proofs.YtnfpicnigfmbdaaGreatDoor
namespace Go.Proofs.YtnfpicnigfmbdaaGreatDoor
open Go.RowKit Go.Xt
/-! The ordered map: empty, and with one pair. -/
set_option maxRecDepth 20000 in
set_option maxHeartbeats 4000000 in
theorem search_0 (f : Value) (w : World) :
    Calls Tryz.prog 105 #[.int .i64 0, f] w fun e w' => e = .returned (.int .i64 0) ∧ Nw w w' := by
  go_enter Tryz.func105, Tryz.ntmps105
  go_wp2
  go_loopw [5, 6] (fun a b wr => a = .int .i64 0 ∧ b = .int .i64 0 ∧ wr = w) (fun _ _ _ => 0)
  case atStart => exact ⟨rfl, rfl, rfl⟩
  case round =>
    obtain ⟨rfl, rfl, rfl⟩ := hrel
    go_wp2
    go_ret
    exact ⟨rfl, Nw.refl _⟩
theorem pairInfo : (Tryz.prog.info? 99).map (fun i => (i.zero, i.size, i.bytes)) = some (some (.agg #[.int .u64 0, .int .u64 0]), 2, 16) := by kernel_rfl
/-- The map's one pair. -/
def One (W : World) (gp gl c : Nat) : Prop := W.cell? ⟨gp, 0, none⟩ = some (.slice (some ⟨gl, 0, none⟩) 1 c) ∧ W.cell? ⟨gl, 0, none⟩ = some (.int .u64 4) ∧ W.cell? ⟨gl, 1, none⟩ = some (.int .u64 2) ∧ (∀ o, W.frozen? ⟨gl, o, none⟩ = false) ∧ 1 ≤ c ∧ c ≤ maxLen ∧ W.frozen? ⟨gp, 0, none⟩ = false
end Go.Proofs.YtnfpicnigfmbdaaGreatDoor
