/- A library of plain lemmas: the world behind a call as 'w.ext r d' (only new blocks, and block r, may differ), with the rules that the walk needs. -/
import Derived.WalkKit
import Derived.WalkLawsBesides
import Derived.WalkSpells
import Derived.Deep.QuietTactic
import Derived.BigQuiet
import Derived.Laws.AppendOwn
import Derived.Lib.Hide
import Derived.IntWalk
namespace Go
open Classical in
/-- The world d, if it grows out of w (all blocks of w but r are as they were), else w. -/
noncomputable def World.ext (w : World) (r : Option Nat) (d : World) : World := if w.grownBy d r then d else w
namespace Xt
theorem gref (w : World) (r : Option Nat) : w.grownBy w r := ⟨rfl, rfl, rfl, Nat.le_refl _, fun _ _ _ => rfl⟩
theorem ext_of {w d : World} {r : Option Nat} (h : w.grownBy d r) : w.ext r d = d := if_pos h
theorem grow (w : World) (r : Option Nat) (d : World) : w.grownBy (w.ext r d) r := by
  unfold World.ext; split
  · assumption
  · exact gref w r
theorem le_size (w : World) (r : Option Nat) (d : World) : w.heap.size ≤ (w.ext r d).heap.size := (grow w r d).size
/-- Block n lies in w. -/
class In (n : Nat) (w : World) : Prop where
  lt : n < w.heap.size
/-- w' has at least k blocks more than w. -/
class Up (w : World) (k : Nat) (w' : World) : Prop where
  le : w.heap.size + k ≤ w'.heap.size
/-- Block n is not the row r. -/
class Off (n : Nat) (r : Option Nat) : Prop where
  ne : some n ≠ r
section
variable {w w' a : World} {r : Option Nat} {d : World} {n k : Nat}
instance (w : World) : Up w 0 w := ⟨Nat.le_refl _⟩
instance [h : Up w 0 w'] (o : Obj) : Up w 0 (w'.alloc o) := ⟨by have := h.le; simp; omega⟩
instance [h : Up w k w'] (b : Addr) (v : Value) : Up w k (w'.setCell b v) := ⟨by have := h.le; simpa using this⟩
instance [h : Up w k w'] : Up w k w'.drew := ⟨h.le⟩
instance [h : Up w k w'] (m : Nat) : Up w k (w'.drewN m) := ⟨h.le⟩
instance [h : Up w k w'] : Up w k (w'.ext r d) := ⟨Nat.le_trans h.le (le_size _ _ _)⟩
instance [h : In n w] (o : Obj) : In n (w.alloc o) := ⟨by have := h.lt; simp; omega⟩
instance [h : In n w] (o : Obj) : In (n + 1) (w.alloc o) := ⟨by have := h.lt; simp; omega⟩
instance [h : Up w 0 w'] (o : Obj) : In w.heap.size (w'.alloc o) := ⟨by have := h.le; simp; omega⟩
instance [h : In n w] (b : Addr) (v : Value) : In n (w.setCell b v) := ⟨by have := h.lt; simpa using this⟩
instance [h : In n w] : In n w.drew := ⟨h.lt⟩
instance [h : In n w] (m : Nat) : In n (w.drewN m) := ⟨h.lt⟩
instance [h : In n w] : In n (w.ext r d) := ⟨Nat.lt_of_lt_of_le h.lt (le_size _ _ _)⟩
instance : Off n none := ⟨by simp⟩
@[go_sem] theorem cell_ext {i : Nat} [h : In n w] [hr : Off n r] : (w.ext r d).cell? ⟨n, i, none⟩ = w.cell? ⟨n, i, none⟩ := World.cell?_of_block ((grow w r d).block n h.lt hr.ne)
@[go_sem] theorem frozen_ext {i : Nat} [h : In n w] [hr : Off n r] : (w.ext r d).frozen? ⟨n, i, none⟩ = w.frozen? ⟨n, i, none⟩ := World.frozen?_of_block ((grow w r d).block n h.lt hr.ne)
theorem grownBy_setCell (h : w.grownBy w' r) (a : Addr) (v : Value) : (w.setCell a v).grownBy (w'.setCell a v) r :=
  ⟨h.os, h.tape, h.output, by simpa using h.size, fun k hk hkr => by
    have hb := h.block k (by simpa using hk) hkr
    simp only [World.setCell, Array.getElem?_modify, hb]⟩
noncomputable def dset (w : World) (r : Option Nat) (d : World) (a : Addr) (v : Value) : World := (w.ext r d).setCell a v
noncomputable def ddrew (w : World) (r : Option Nat) (d : World) : World := (w.ext r d).drew
noncomputable def ddrewN (w : World) (r : Option Nat) (d : World) (n : Nat) : World := (w.ext r d).drewN n
noncomputable def djoin (w : World) (r : Option Nat) (d d' : World) : World := (w.ext r d).ext r d'
noncomputable def dpre (w : World) (r : Option Nat) (d : World) : World := w.ext r d
theorem grownBy_trans {a b c : World} (h : a.grownBy b r) (k : b.grownBy c r) : a.grownBy c r :=
  ⟨k.os.trans h.os, k.tape.trans h.tape, k.output.trans h.output, Nat.le_trans h.size k.size, fun i hi hr => (k.block i (Nat.lt_of_lt_of_le hi h.size) hr).trans (h.block i hi hr)⟩
@[go_sem] theorem setCell_ext {i : Nat} (v : Value) [_h : In n w] [_hr : Off n r] : (w.ext r d).setCell ⟨n, i, none⟩ v = (w.setCell ⟨n, i, none⟩ v).ext r (dset w r d ⟨n, i, none⟩ v) :=
  (ext_of (grownBy_setCell (grow w r d) _ _)).symm
@[go_sem] theorem drew_ext : (w.ext r d).drew = w.ext r (ddrew w r d) :=
  (ext_of (d := ddrew w r d) (by have h := grow w r d; exact ⟨h.os, h.tape, h.output, h.size, h.block⟩)).symm
@[go_sem] theorem drewN_ext : (w.ext r d).drewN n = w.ext r (ddrewN w r d n) :=
  (ext_of (d := ddrewN w r d n) (by have h := grow w r d; exact ⟨h.os, h.tape, h.output, h.size, h.block⟩)).symm
@[go_sem] theorem ext_drew : w.drew.ext r d = w.ext r (dpre w.drew r d) :=
  (ext_of (d := dpre w.drew r d) (by have h := grow w.drew r d; exact ⟨h.os, h.tape, h.output, h.size, h.block⟩)).symm
@[go_sem] theorem ext_drewN : (w.drewN n).ext r d = w.ext r (dpre (w.drewN n) r d) :=
  (ext_of (d := dpre (w.drewN n) r d) (by have h := grow (w.drewN n) r d; exact ⟨h.os, h.tape, h.output, h.size, h.block⟩)).symm
@[go_sem] theorem ext_ext {d' : World} : (w.ext r d).ext r d' = w.ext r (djoin w r d d') :=
  (ext_of (d := djoin w r d d') (grownBy_trans (grow w r d) (grow _ r d'))).symm
-- comparisons of block numbers
/-- n is less than m. -/
class Lt (n m : Nat) : Prop where
  lt : n < m
instance [h : In n w] : Lt n w.heap.size := ⟨h.lt⟩
instance {m : Nat} [h : Lt n m] : Lt n (m + 1) := ⟨by have := h.lt; omega⟩
instance {m : Nat} [h : Lt n m] : Lt (n + 1) (m + 1) := ⟨by have := h.lt; omega⟩
instance : Lt n (n + 1) := ⟨by omega⟩
@[go_sem] theorem lt_in0 [h : Lt n (w.heap.size)] : (n < w.heap.size) = True := eq_true h.lt
@[go_sem] theorem eq_in0 [h : Lt n (w.heap.size)] : (n = w.heap.size) = False := eq_false (by have := h.lt; omega)
@[go_sem] theorem in_eq0 [h : Lt n (w.heap.size)] : (w.heap.size = n) = False := eq_false (by have := h.lt; omega)
@[go_sem] theorem lt_in1 [h : Lt n (w.heap.size + 1)] : (n < w.heap.size + 1) = True := eq_true h.lt
@[go_sem] theorem eq_in1 [h : Lt n (w.heap.size + 1)] : (n = w.heap.size + 1) = False := eq_false (by have := h.lt; omega)
@[go_sem] theorem in_eq1 [h : Lt n (w.heap.size + 1)] : (w.heap.size + 1 = n) = False := eq_false (by have := h.lt; omega)
@[go_sem] theorem lt_in2 [h : Lt n (w.heap.size + 1 + 1)] : (n < w.heap.size + 1 + 1) = True := eq_true h.lt
@[go_sem] theorem eq_in2 [h : Lt n (w.heap.size + 1 + 1)] : (n = w.heap.size + 1 + 1) = False := eq_false (by have := h.lt; omega)
@[go_sem] theorem in_eq2 [h : Lt n (w.heap.size + 1 + 1)] : (w.heap.size + 1 + 1 = n) = False := eq_false (by have := h.lt; omega)
@[go_sem] theorem lt_in3 [h : Lt n (w.heap.size + 1 + 1 + 1)] : (n < w.heap.size + 1 + 1 + 1) = True := eq_true h.lt
@[go_sem] theorem eq_in3 [h : Lt n (w.heap.size + 1 + 1 + 1)] : (n = w.heap.size + 1 + 1 + 1) = False := eq_false (by have := h.lt; omega)
@[go_sem] theorem in_eq3 [h : Lt n (w.heap.size + 1 + 1 + 1)] : (w.heap.size + 1 + 1 + 1 = n) = False := eq_false (by have := h.lt; omega)
@[go_sem] theorem lt_in4 [h : Lt n (w.heap.size + 1 + 1 + 1 + 1)] : (n < w.heap.size + 1 + 1 + 1 + 1) = True := eq_true h.lt
@[go_sem] theorem eq_in4 [h : Lt n (w.heap.size + 1 + 1 + 1 + 1)] : (n = w.heap.size + 1 + 1 + 1 + 1) = False := eq_false (by have := h.lt; omega)
@[go_sem] theorem in_eq4 [h : Lt n (w.heap.size + 1 + 1 + 1 + 1)] : (w.heap.size + 1 + 1 + 1 + 1 = n) = False := eq_false (by have := h.lt; omega)
@[go_sem] theorem lt_in5 [h : Lt n (w.heap.size + 1 + 1 + 1 + 1 + 1)] : (n < w.heap.size + 1 + 1 + 1 + 1 + 1) = True := eq_true h.lt
@[go_sem] theorem eq_in5 [h : Lt n (w.heap.size + 1 + 1 + 1 + 1 + 1)] : (n = w.heap.size + 1 + 1 + 1 + 1 + 1) = False := eq_false (by have := h.lt; omega)
@[go_sem] theorem in_eq5 [h : Lt n (w.heap.size + 1 + 1 + 1 + 1 + 1)] : (w.heap.size + 1 + 1 + 1 + 1 + 1 = n) = False := eq_false (by have := h.lt; omega)
@[go_sem] theorem lt_in6 [h : Lt n (w.heap.size + 1 + 1 + 1 + 1 + 1 + 1)] : (n < w.heap.size + 1 + 1 + 1 + 1 + 1 + 1) = True := eq_true h.lt
@[go_sem] theorem eq_in6 [h : Lt n (w.heap.size + 1 + 1 + 1 + 1 + 1 + 1)] : (n = w.heap.size + 1 + 1 + 1 + 1 + 1 + 1) = False := eq_false (by have := h.lt; omega)
@[go_sem] theorem in_eq6 [h : Lt n (w.heap.size + 1 + 1 + 1 + 1 + 1 + 1)] : (w.heap.size + 1 + 1 + 1 + 1 + 1 + 1 = n) = False := eq_false (by have := h.lt; omega)
@[go_sem] theorem lt_in7 [h : Lt n (w.heap.size + 1 + 1 + 1 + 1 + 1 + 1 + 1)] : (n < w.heap.size + 1 + 1 + 1 + 1 + 1 + 1 + 1) = True := eq_true h.lt
@[go_sem] theorem eq_in7 [h : Lt n (w.heap.size + 1 + 1 + 1 + 1 + 1 + 1 + 1)] : (n = w.heap.size + 1 + 1 + 1 + 1 + 1 + 1 + 1) = False := eq_false (by have := h.lt; omega)
@[go_sem] theorem in_eq7 [h : Lt n (w.heap.size + 1 + 1 + 1 + 1 + 1 + 1 + 1)] : (w.heap.size + 1 + 1 + 1 + 1 + 1 + 1 + 1 = n) = False := eq_false (by have := h.lt; omega)
@[go_sem] theorem lt_in8 [h : Lt n (w.heap.size + 1 + 1 + 1 + 1 + 1 + 1 + 1 + 1)] : (n < w.heap.size + 1 + 1 + 1 + 1 + 1 + 1 + 1 + 1) = True := eq_true h.lt
@[go_sem] theorem eq_in8 [h : Lt n (w.heap.size + 1 + 1 + 1 + 1 + 1 + 1 + 1 + 1)] : (n = w.heap.size + 1 + 1 + 1 + 1 + 1 + 1 + 1 + 1) = False := eq_false (by have := h.lt; omega)
@[go_sem] theorem in_eq8 [h : Lt n (w.heap.size + 1 + 1 + 1 + 1 + 1 + 1 + 1 + 1)] : (w.heap.size + 1 + 1 + 1 + 1 + 1 + 1 + 1 + 1 = n) = False := eq_false (by have := h.lt; omega)
@[go_sem] theorem le_up [h : Up w 0 w'] : (w.heap.size ≤ w'.heap.size) = True := eq_true (by have := h.le; omega)
@[go_sem] theorem le_up1 [h : Up w 0 w'] : (w.heap.size ≤ w'.heap.size + 1) = True := eq_true (by have := h.le; omega)
@[go_sem] theorem le_up2 [h : Up w 0 w'] : (w.heap.size ≤ w'.heap.size + 1 + 1) = True := eq_true (by have := h.le; omega)
@[go_sem] theorem le_up3 [h : Up w 0 w'] : (w.heap.size ≤ w'.heap.size + 1 + 1 + 1) = True := eq_true (by have := h.le; omega)
@[go_sem] theorem le_up4 [h : Up w 0 w'] : (w.heap.size ≤ w'.heap.size + 1 + 1 + 1 + 1) = True := eq_true (by have := h.le; omega)
@[go_sem] theorem le_up5 [h : Up w 0 w'] : (w.heap.size ≤ w'.heap.size + 1 + 1 + 1 + 1 + 1) = True := eq_true (by have := h.le; omega)
@[go_sem] theorem le_up6 [h : Up w 0 w'] : (w.heap.size ≤ w'.heap.size + 1 + 1 + 1 + 1 + 1 + 1) = True := eq_true (by have := h.le; omega)
@[go_sem] theorem le_up7 [h : Up w 0 w'] : (w.heap.size ≤ w'.heap.size + 1 + 1 + 1 + 1 + 1 + 1 + 1) = True := eq_true (by have := h.le; omega)
@[go_sem] theorem le_up8 [h : Up w 0 w'] : (w.heap.size ≤ w'.heap.size + 1 + 1 + 1 + 1 + 1 + 1 + 1 + 1) = True := eq_true (by have := h.le; omega)
instance [h : Up w 0 w'] : Lt w.heap.size (w'.heap.size + 1) := ⟨by have := h.le; omega⟩
end
/-- Only new blocks. -/
def Nw (w w' : World) : Prop := ∃ d : World, w' = w.ext none d
section
variable {w a : World}
theorem Nw.of (h : w.grownBy a none) : Nw w a := ⟨a, (ext_of h).symm⟩
theorem Nw.grown (h : Nw w a) : w.grownBy a none := by obtain ⟨d, rfl⟩ := h; exact grow w none d
theorem Nw.refl (w : World) : Nw w w := .of (gref w none)
theorem Nw.drew (h : Nw w a) : Nw w a.drew := .of ⟨h.grown.os, h.grown.tape, h.grown.output, h.grown.size, h.grown.block⟩
theorem Nw.drewN (h : Nw w a) (n : Nat) : Nw w (a.drewN n) := .of ⟨h.grown.os, h.grown.tape, h.grown.output, h.grown.size, h.grown.block⟩
theorem Nw.trans {b : World} (h : Nw w a) (k : Nw a b) : Nw w b := .of (grownBy_trans h.grown k.grown)
theorem Nw.alloc (h : Nw w a) (o : Obj) : Nw w (a.alloc o) := h.trans (.of (World.grownBy_alloc a o none))
theorem Nw.ext (h : Nw w a) {d : World} : Nw w (a.ext none d) := h.trans ⟨d, rfl⟩
theorem Nw.ext_some (h : Nw w a) {g : Nat} {d : World} (hg : w.heap.size ≤ g) : Nw w (a.ext (some g) d) := by
  have hd := grow a (some g) d
  exact .of ⟨hd.os.trans h.grown.os, hd.tape.trans h.grown.tape, hd.output.trans h.grown.output, Nat.le_trans h.grown.size hd.size,
    fun k hk hr => (hd.block k (Nat.lt_of_lt_of_le hk h.grown.size) (fun e => by injection e with e; omega)).trans (h.grown.block k hk hr)⟩
theorem Nw.setCell (h : Nw w a) {p : Addr} (hp : w.heap.size ≤ p.block) (u : Value) : Nw w (a.setCell p u) :=
  .of ⟨h.grown.os, h.grown.tape, h.grown.output, by simpa using h.grown.size, fun k hk hr => (RowKit.Below.heap_setCell _ _ _ _ (by omega)).trans (h.grown.block k hk hr)⟩
theorem Nw.below (h : Nw w a) : RowKit.Below w.heap.size w a := ⟨h.grown.os, h.grown.tape, h.grown.output, h.grown.size, fun k hk => h.grown.block k hk (by simp)⟩
theorem Nw.of_below (h : RowKit.Below w.heap.size w a) : Nw w a := .of ⟨h.os, h.tape, h.output, h.size, fun k hk _ => h.block k hk⟩
end
end Xt
/-- The same, for a region's own walk: it is not joined with what lies below. -/
noncomputable def World.reg (w : World) (d : World) : World := w.ext none d
namespace Xt
section
variable {P : Program} {w d : World} {n : Nat}
instance {k : Nat} {w' : World} [h : Up w k w'] : Up w k (w'.reg d) := ⟨Nat.le_trans h.le (le_size _ _ _)⟩
instance [h : In n w] : In n (w.reg d) := ⟨Nat.lt_of_lt_of_le h.lt (le_size _ _ _)⟩
@[go_sem] theorem cell_reg {i : Nat} [h : In n w] : (w.reg d).cell? ⟨n, i, none⟩ = w.cell? ⟨n, i, none⟩ := cell_ext
@[go_sem] theorem frozen_reg {i : Nat} [h : In n w] : (w.reg d).frozen? ⟨n, i, none⟩ = w.frozen? ⟨n, i, none⟩ := frozen_ext
theorem reg_nw (w d : World) : Nw w (w.reg d) := ⟨d, rfl⟩
/-- One walk of the lexical order, in the class of worlds that have only grown. -/
theorem wp_region_nw {id : Nat} {Q : Exit → Act → World → Prop} {a : Act} {w : World} {l : List Oper} (hm : P.follows .mixedOrders = true) (hB : Region.lexB .any l.toArray = true)
    (h : wpQuiet P l.toArray (fun w' => ∃ d : World, w' = w.reg d) (fun a' => ∀ w', (∃ d : World, w' = w.reg d) → Q .normal a' w') l a) : (Code.region id l.toArray true).wp P Q a w :=
  wp_region_quiet (C := fun w' => ∃ d : World, w' = w.reg d) hm hB (Nw.of ⟨rfl, rfl, rfl, Nat.le_refl _, fun _ _ _ => rfl⟩) (by simpa using h)
theorem quiet_of {f : FuncId} {args : Array Value} {w d : World} {v : Value}
    (h : Calls P f args (w.reg d) fun e w' => e = .returned v ∧ Nw (w.reg d) w') : Calls P f args (w.reg d) fun e w'' => e = .returned v ∧ ∃ d : World, w'' = w.reg d :=
  h.mono fun _ _ ⟨he, hm⟩ => ⟨he, (reg_nw w d).trans hm⟩
end
theorem ret_bool {a b : Bool} (h : a = b) : Ending.returned (.bool a) = .returned (.bool b) := by rw [h]
theorem ret_int {k : IntKind} {a b : Int} (h : a = b) : Ending.returned (.int k a) = .returned (.int k b) := by rw [h]
theorem ret_eq {a b : Value} (h : a = b) : Ending.returned a = .returned b := by rw [h]
end Xt
end Go
