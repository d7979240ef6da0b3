/- A library of plain lemmas: the world behind a call as 'w.ext r d' (only new blocks, and block r, may differ), with the rules that the walk needs. -/
import Derived.WalkKit
import Derived.WalkLawsBesides
import Derived.WalkSpells
import Derived.Deep.QuietTactic
import Derived.BigQuiet
import Derived.Laws.AppendOwn
import Derived.Lib.Hide
import Derived.IntWalk
import Derived.ProofKit
import Derived.Below
import Derived.ChangeSame
import Derived.Lib.SmallJoins
import Derived.Deep.Slices
set_option linter.unusedVariables false
set_option linter.unusedSimpArgs false
set_option linter.unnecessarySimpa false
namespace Go
open Classical in
noncomputable def World.ext (w : World) (r : Option Nat) (d : World) : World := if w.grownBy d r then d else w
namespace Xt
theorem gref (w : World) (r : Option Nat) : w.grownBy w r := ⟨rfl, rfl, rfl, Nat.le_refl _, fun _ _ _ => rfl⟩
theorem ext_of {w d : World} {r : Option Nat} (h : w.grownBy d r) : w.ext r d = d := if_pos h
theorem gext (w : World) (r : Option Nat) (d : World) : w.grownBy (w.ext r d) r := by
  unfold World.ext; split
  · assumption
  · exact gref w r
theorem le_size (w : World) (r : Option Nat) (d : World) : w.heap.size ≤ (w.ext r d).heap.size := (gext w r d).size
class In (n : Nat) (w : World) : Prop where
  lt : n < w.heap.size
class Up (w : World) (k : Nat) (w' : World) : Prop where
  le : w.heap.size + k ≤ w'.heap.size
class Off (n : Nat) (r : Option Nat) : Prop where
  ne : some n ≠ r
section
variable {w w' a : World} {r : Option Nat} {d : World} {n k : Nat}
instance (w : World) : Up w 0 w := ⟨Nat.le_refl _⟩
instance [h : Up w 0 w'] (o : Obj) : Up w 0 (w'.alloc o) := ⟨by have := h.le; simp; omega⟩
instance [h : Up w k w'] (b : Addr) (v : Value) : Up w k (w'.setCell b v) := ⟨by have := h.le; simpa using this⟩
instance [h : Up w k w'] : Up w k w'.drew := ⟨h.le⟩
instance [h : Up w k w'] (m : Nat) : Up w k (w'.drewN m) := ⟨h.le⟩
instance [h : Up w k w'] : Up w k (w'.ext r d) := ⟨Nat.le_trans h.le (le_size _ _ _)⟩
instance [h : In n w] (o : Obj) : In n (w.alloc o) := ⟨by have := h.lt; simp; omega⟩
instance [h : In n w] (o : Obj) : In (n + 1) (w.alloc o) := ⟨by have := h.lt; simp; omega⟩
instance [h : Up w 0 w'] (o : Obj) : In w.heap.size (w'.alloc o) := ⟨by have := h.le; simp; omega⟩
instance [h : In n w] (b : Addr) (v : Value) : In n (w.setCell b v) := ⟨by have := h.lt; simpa using this⟩
instance [h : In n w] : In n w.drew := ⟨h.lt⟩
instance [h : In n w] (m : Nat) : In n (w.drewN m) := ⟨h.lt⟩
instance [h : In n w] : In n (w.ext r d) := ⟨Nat.lt_of_lt_of_le h.lt (le_size _ _ _)⟩
instance : Off n none := ⟨by simp⟩
@[go_sem] theorem cell_ext {i : Nat} [h : In n w] [hr : Off n r] : (w.ext r d).cell? ⟨n, i, none⟩ = w.cell? ⟨n, i, none⟩ := World.cell?_of_block ((gext w r d).block n h.lt hr.ne)
@[go_sem] theorem frozen_ext {i : Nat} [h : In n w] [hr : Off n r] : (w.ext r d).frozen? ⟨n, i, none⟩ = w.frozen? ⟨n, i, none⟩ := World.frozen?_of_block ((gext w r d).block n h.lt hr.ne)
theorem grownBy_setCell (h : w.grownBy w' r) (a : Addr) (v : Value) : (w.setCell a v).grownBy (w'.setCell a v) r :=
  ⟨h.os, h.tape, h.output, by simpa using h.size, fun k hk hkr => by
    have hb := h.block k (by simpa using hk) hkr
    simp only [World.setCell, Array.getElem?_modify, hb]⟩
noncomputable def dset (w : World) (r : Option Nat) (d : World) (a : Addr) (v : Value) : World := (w.ext r d).setCell a v
noncomputable def ddrew (w : World) (r : Option Nat) (d : World) : World := (w.ext r d).drew
noncomputable def ddrewN (w : World) (r : Option Nat) (d : World) (n : Nat) : World := (w.ext r d).drewN n
noncomputable def djoin (w : World) (r : Option Nat) (d d' : World) : World := (w.ext r d).ext r d'
noncomputable def dpre (w : World) (r : Option Nat) (d : World) : World := w.ext r d
theorem grownBy_trans {a b c : World} (h : a.grownBy b r) (k : b.grownBy c r) : a.grownBy c r :=
  ⟨k.os.trans h.os, k.tape.trans h.tape, k.output.trans h.output, Nat.le_trans h.size k.size, fun i hi hr => (k.block i (Nat.lt_of_lt_of_le hi h.size) hr).trans (h.block i hi hr)⟩
@[go_sem] theorem setCell_ext {i : Nat} (v : Value) [_h : In n w] [_hr : Off n r] : (w.ext r d).setCell ⟨n, i, none⟩ v = (w.setCell ⟨n, i, none⟩ v).ext r (dset w r d ⟨n, i, none⟩ v) :=
  (ext_of (grownBy_setCell (gext w r d) _ _)).symm
theorem drew_ext : (w.ext r d).drew = w.ext r (ddrew w r d) :=
  (ext_of (d := ddrew w r d) (by have h := gext w r d; exact ⟨h.os, h.tape, h.output, h.size, h.block⟩)).symm
theorem drewN_ext : (w.ext r d).drewN n = w.ext r (ddrewN w r d n) :=
  (ext_of (d := ddrewN w r d n) (by have h := gext w r d; exact ⟨h.os, h.tape, h.output, h.size, h.block⟩)).symm
@[go_sem] theorem ext_drew : w.drew.ext r d = w.ext r (dpre w.drew r d) :=
  (ext_of (d := dpre w.drew r d) (by have h := gext w.drew r d; exact ⟨h.os, h.tape, h.output, h.size, h.block⟩)).symm
@[go_sem] theorem ext_drewN : (w.drewN n).ext r d = w.ext r (dpre (w.drewN n) r d) :=
  (ext_of (d := dpre (w.drewN n) r d) (by have h := gext (w.drewN n) r d; exact ⟨h.os, h.tape, h.output, h.size, h.block⟩)).symm
theorem ext_ext {d' : World} : (w.ext r d).ext r d' = w.ext r (djoin w r d d') :=
  (ext_of (d := djoin w r d d') (grownBy_trans (gext w r d) (gext _ r d'))).symm
-- comparisons of block numbers
class Lt (n m : Nat) : Prop where
  lt : n < m
instance [h : In n w] : Lt n w.heap.size := ⟨h.lt⟩
instance {m : Nat} [h : Lt n m] : Lt n (m + 1) := ⟨by have := h.lt; omega⟩
instance {m : Nat} [h : Lt n m] : Lt (n + 1) (m + 1) := ⟨by have := h.lt; omega⟩
instance : Lt n (n + 1) := ⟨by omega⟩
@[go_sem] theorem lt_in0 [h : Lt n (w.heap.size)] : (n < w.heap.size) = True := eq_true h.lt
@[go_sem] theorem eq_in0 [h : Lt n (w.heap.size)] : (n = w.heap.size) = False := eq_false (by have := h.lt; omega)
@[go_sem] theorem in_eq0 [h : Lt n (w.heap.size)] : (w.heap.size = n) = False := eq_false (by have := h.lt; omega)
@[go_sem] theorem lt_in1 [h : Lt n (w.heap.size + 1)] : (n < w.heap.size + 1) = True := eq_true h.lt
@[go_sem] theorem eq_in1 [h : Lt n (w.heap.size + 1)] : (n = w.heap.size + 1) = False := eq_false (by have := h.lt; omega)
@[go_sem] theorem in_eq1 [h : Lt n (w.heap.size + 1)] : (w.heap.size + 1 = n) = False := eq_false (by have := h.lt; omega)
@[go_sem] theorem lt_in2 [h : Lt n (w.heap.size + 1 + 1)] : (n < w.heap.size + 1 + 1) = True := eq_true h.lt
@[go_sem] theorem eq_in2 [h : Lt n (w.heap.size + 1 + 1)] : (n = w.heap.size + 1 + 1) = False := eq_false (by have := h.lt; omega)
@[go_sem] theorem in_eq2 [h : Lt n (w.heap.size + 1 + 1)] : (w.heap.size + 1 + 1 = n) = False := eq_false (by have := h.lt; omega)
@[go_sem] theorem lt_in3 [h : Lt n (w.heap.size + 1 + 1 + 1)] : (n < w.heap.size + 1 + 1 + 1) = True := eq_true h.lt
@[go_sem] theorem eq_in3 [h : Lt n (w.heap.size + 1 + 1 + 1)] : (n = w.heap.size + 1 + 1 + 1) = False := eq_false (by have := h.lt; omega)
@[go_sem] theorem in_eq3 [h : Lt n (w.heap.size + 1 + 1 + 1)] : (w.heap.size + 1 + 1 + 1 = n) = False := eq_false (by have := h.lt; omega)
@[go_sem] theorem lt_in4 [h : Lt n (w.heap.size + 1 + 1 + 1 + 1)] : (n < w.heap.size + 1 + 1 + 1 + 1) = True := eq_true h.lt
@[go_sem] theorem eq_in4 [h : Lt n (w.heap.size + 1 + 1 + 1 + 1)] : (n = w.heap.size + 1 + 1 + 1 + 1) = False := eq_false (by have := h.lt; omega)
@[go_sem] theorem in_eq4 [h : Lt n (w.heap.size + 1 + 1 + 1 + 1)] : (w.heap.size + 1 + 1 + 1 + 1 = n) = False := eq_false (by have := h.lt; omega)
@[go_sem] theorem lt_in5 [h : Lt n (w.heap.size + 1 + 1 + 1 + 1 + 1)] : (n < w.heap.size + 1 + 1 + 1 + 1 + 1) = True := eq_true h.lt
@[go_sem] theorem eq_in5 [h : Lt n (w.heap.size + 1 + 1 + 1 + 1 + 1)] : (n = w.heap.size + 1 + 1 + 1 + 1 + 1) = False := eq_false (by have := h.lt; omega)
@[go_sem] theorem in_eq5 [h : Lt n (w.heap.size + 1 + 1 + 1 + 1 + 1)] : (w.heap.size + 1 + 1 + 1 + 1 + 1 = n) = False := eq_false (by have := h.lt; omega)
@[go_sem] theorem lt_in6 [h : Lt n (w.heap.size + 1 + 1 + 1 + 1 + 1 + 1)] : (n < w.heap.size + 1 + 1 + 1 + 1 + 1 + 1) = True := eq_true h.lt
@[go_sem] theorem eq_in6 [h : Lt n (w.heap.size + 1 + 1 + 1 + 1 + 1 + 1)] : (n = w.heap.size + 1 + 1 + 1 + 1 + 1 + 1) = False := eq_false (by have := h.lt; omega)
@[go_sem] theorem in_eq6 [h : Lt n (w.heap.size + 1 + 1 + 1 + 1 + 1 + 1)] : (w.heap.size + 1 + 1 + 1 + 1 + 1 + 1 = n) = False := eq_false (by have := h.lt; omega)
@[go_sem] theorem lt_in7 [h : Lt n (w.heap.size + 1 + 1 + 1 + 1 + 1 + 1 + 1)] : (n < w.heap.size + 1 + 1 + 1 + 1 + 1 + 1 + 1) = True := eq_true h.lt
@[go_sem] theorem eq_in7 [h : Lt n (w.heap.size + 1 + 1 + 1 + 1 + 1 + 1 + 1)] : (n = w.heap.size + 1 + 1 + 1 + 1 + 1 + 1 + 1) = False := eq_false (by have := h.lt; omega)
@[go_sem] theorem in_eq7 [h : Lt n (w.heap.size + 1 + 1 + 1 + 1 + 1 + 1 + 1)] : (w.heap.size + 1 + 1 + 1 + 1 + 1 + 1 + 1 = n) = False := eq_false (by have := h.lt; omega)
@[go_sem] theorem lt_in8 [h : Lt n (w.heap.size + 1 + 1 + 1 + 1 + 1 + 1 + 1 + 1)] : (n < w.heap.size + 1 + 1 + 1 + 1 + 1 + 1 + 1 + 1) = True := eq_true h.lt
@[go_sem] theorem eq_in8 [h : Lt n (w.heap.size + 1 + 1 + 1 + 1 + 1 + 1 + 1 + 1)] : (n = w.heap.size + 1 + 1 + 1 + 1 + 1 + 1 + 1 + 1) = False := eq_false (by have := h.lt; omega)
@[go_sem] theorem in_eq8 [h : Lt n (w.heap.size + 1 + 1 + 1 + 1 + 1 + 1 + 1 + 1)] : (w.heap.size + 1 + 1 + 1 + 1 + 1 + 1 + 1 + 1 = n) = False := eq_false (by have := h.lt; omega)
@[go_sem] theorem le_up [h : Up w 0 w'] : (w.heap.size ≤ w'.heap.size) = True := eq_true (by have := h.le; omega)
@[go_sem] theorem le_up1 [h : Up w 0 w'] : (w.heap.size ≤ w'.heap.size + 1) = True := eq_true (by have := h.le; omega)
@[go_sem] theorem le_up2 [h : Up w 0 w'] : (w.heap.size ≤ w'.heap.size + 1 + 1) = True := eq_true (by have := h.le; omega)
@[go_sem] theorem le_up3 [h : Up w 0 w'] : (w.heap.size ≤ w'.heap.size + 1 + 1 + 1) = True := eq_true (by have := h.le; omega)
@[go_sem] theorem le_up4 [h : Up w 0 w'] : (w.heap.size ≤ w'.heap.size + 1 + 1 + 1 + 1) = True := eq_true (by have := h.le; omega)
@[go_sem] theorem le_up5 [h : Up w 0 w'] : (w.heap.size ≤ w'.heap.size + 1 + 1 + 1 + 1 + 1) = True := eq_true (by have := h.le; omega)
@[go_sem] theorem le_up6 [h : Up w 0 w'] : (w.heap.size ≤ w'.heap.size + 1 + 1 + 1 + 1 + 1 + 1) = True := eq_true (by have := h.le; omega)
@[go_sem] theorem le_up7 [h : Up w 0 w'] : (w.heap.size ≤ w'.heap.size + 1 + 1 + 1 + 1 + 1 + 1 + 1) = True := eq_true (by have := h.le; omega)
@[go_sem] theorem le_up8 [h : Up w 0 w'] : (w.heap.size ≤ w'.heap.size + 1 + 1 + 1 + 1 + 1 + 1 + 1 + 1) = True := eq_true (by have := h.le; omega)
instance [h : Up w 0 w'] : Lt w.heap.size (w'.heap.size + 1) := ⟨by have := h.le; omega⟩
end
def Nw (w w' : World) : Prop := ∃ d : World, w' = w.ext none d
section
variable {w a : World}
theorem Nw.of (h : w.grownBy a none) : Nw w a := ⟨a, (ext_of h).symm⟩
theorem Nw.grown (h : Nw w a) : w.grownBy a none := by obtain ⟨d, rfl⟩ := h; exact gext w none d
theorem Nw.refl (w : World) : Nw w w := .of (gref w none)
theorem Nw.drew (h : Nw w a) : Nw w a.drew := .of ⟨h.grown.os, h.grown.tape, h.grown.output, h.grown.size, h.grown.block⟩
theorem Nw.drewN (h : Nw w a) (n : Nat) : Nw w (a.drewN n) := .of ⟨h.grown.os, h.grown.tape, h.grown.output, h.grown.size, h.grown.block⟩
theorem Nw.trans {b : World} (h : Nw w a) (k : Nw a b) : Nw w b := .of (grownBy_trans h.grown k.grown)
theorem Nw.alloc (h : Nw w a) (o : Obj) : Nw w (a.alloc o) := h.trans (.of (World.grownBy_alloc a o none))
theorem Nw.ext (h : Nw w a) {d : World} : Nw w (a.ext none d) := h.trans ⟨d, rfl⟩
theorem Nw.joined {b d d' : World} (h : Nw w (b.ext none d)) : Nw w (b.ext none (djoin b none d d')) := by rw [← ext_ext]; exact h.ext
theorem Nw.ext_some (h : Nw w a) {g : Nat} {d : World} (hg : w.heap.size ≤ g) : Nw w (a.ext (some g) d) := by
  have hd := gext a (some g) d
  exact .of ⟨hd.os.trans h.grown.os, hd.tape.trans h.grown.tape, hd.output.trans h.grown.output, Nat.le_trans h.grown.size hd.size,
    fun k hk hr => (hd.block k (Nat.lt_of_lt_of_le hk h.grown.size) (fun e => by injection e with e; omega)).trans (h.grown.block k hk hr)⟩
theorem Nw.setCell (h : Nw w a) {p : Addr} (hp : w.heap.size ≤ p.block) (u : Value) : Nw w (a.setCell p u) :=
  .of ⟨h.grown.os, h.grown.tape, h.grown.output, by simpa using h.grown.size, fun k hk hr => (RowKit.Below.heap_setCell _ _ _ _ (by omega)).trans (h.grown.block k hk hr)⟩
theorem nwa {w w' : World} (h : Nw w w' := by repeat (first | exact Xt.Nw.refl _ | refine Xt.Nw.drew ?_ | refine Xt.Nw.drewN ?_ _ | refine Xt.Nw.alloc ?_ _ | refine Xt.Nw.joined ?_ | refine Xt.Nw.drewd ?_ | refine Xt.Nw.drewdN ?_ | refine Xt.Nw.ext ?_ | refine Xt.Nw.ext_some ?_ (by assumption) | refine Xt.Nw.setCell ?_ (by simp [go_sem] <;> omega) _)) : Nw w w' := h
theorem Nw.below (h : Nw w a) : RowKit.Below w.heap.size w a := ⟨h.grown.os, h.grown.tape, h.grown.output, h.grown.size, fun k hk => h.grown.block k hk (by simp)⟩
theorem Nw.of_below (h : RowKit.Below w.heap.size w a) : Nw w a := .of ⟨h.os, h.tape, h.output, h.size, fun k hk _ => h.block k hk⟩
end
end Xt
noncomputable def World.reg (w : World) (d : World) : World := w.ext none d
namespace Xt
section
variable {P : Program} {w d : World} {n : Nat}
instance {k : Nat} {w' : World} [h : Up w k w'] : Up w k (w'.reg d) := ⟨Nat.le_trans h.le (le_size _ _ _)⟩
instance [h : In n w] : In n (w.reg d) := ⟨Nat.lt_of_lt_of_le h.lt (le_size _ _ _)⟩
@[go_sem] theorem cell_reg {i : Nat} [h : In n w] : (w.reg d).cell? ⟨n, i, none⟩ = w.cell? ⟨n, i, none⟩ := cell_ext
@[go_sem] theorem frozen_reg {i : Nat} [h : In n w] : (w.reg d).frozen? ⟨n, i, none⟩ = w.frozen? ⟨n, i, none⟩ := frozen_ext
theorem reg_nw (w d : World) : Nw w (w.reg d) := ⟨d, rfl⟩
theorem wp_region_nw {id : Nat} {Q : Exit → Act → World → Prop} {a : Act} {w : World} {l : List Oper} (hm : P.follows .mixedOrders = true) (hB : Region.lexB .any l.toArray = true)
    (h : wpQuiet P l.toArray (fun w' => ∃ d : World, w' = w.reg d) (fun a' => ∀ w', (∃ d : World, w' = w.reg d) → Q .normal a' w') l a) : (Code.region id l.toArray true).wp P Q a w :=
  wp_region_quiet (C := fun w' => ∃ d : World, w' = w.reg d) hm hB (Nw.of ⟨rfl, rfl, rfl, Nat.le_refl _, fun _ _ _ => rfl⟩) (by simpa using h)
theorem quiet_of {f : FuncId} {args : Array Value} {w d : World} {v : Value}
    (h : Calls P f args (w.reg d) fun e w' => e = .returned v ∧ Nw (w.reg d) w') : Calls P f args (w.reg d) fun e w'' => e = .returned v ∧ ∃ d : World, w'' = w.reg d :=
  h.mono fun _ _ ⟨he, hm⟩ => ⟨he, (reg_nw w d).trans hm⟩
end
/-! ### a row of the call's own, appended to -/
theorem Nw.row {a w w' : World} {row : Option Nat} (h : Nw a w) (hg : w.grownBy w' row) (hr : ∀ k, row = some k → a.heap.size ≤ k) : Nw a w' :=
  .of ⟨hg.os.trans h.grown.os, hg.tape.trans h.grown.tape, hg.output.trans h.grown.output, Nat.le_trans h.grown.size hg.size, fun k hk _ =>
    (hg.block k (Nat.lt_of_lt_of_le hk h.grown.size) (fun e => by have := hr k e.symm; omega)).trans (h.grown.block k hk (by simp))⟩
theorem new_cells {w : World} {g : Nat} {t : TypeId} (hg : g = w.heap.size) (cs : List Value) : ∀ j u, cs[j]? = some u → (w.alloc (.cells cs.toArray t)).cell? ((⟨g, 0, none⟩ : Addr).add j) = some u := by
  subst hg
  intro j u hu
  have hadd : (⟨w.heap.size, 0, none⟩ : Addr).add j = ⟨w.heap.size, j, none⟩ := by unfold Addr.add; split <;> simp_all
  rw [hadd, World.cell?_alloc_new]
  simpa using hu
theorem wpList_app1 {P : Program} {ops : Array Oper} {rest : List Oper} {o : Oper} {a : Act} {Q : Exit → Act → World → Prop} (hgd : o.guard = none) (s x : Operand) (t : TypeId)
    (ho : o.op = .call { callee := .builtin .append, args := #[s, x], argTypes := #[t, t] })
    (e : TypeId) (z : Value) (size bytes : Nat) (ht : P.underlying t = some (.slice e)) (hi : (P.info? e).map (fun i => (i.zero, i.size, i.bytes)) = some (some z, size, bytes)) (hzs : z.cells.size = size) (hsz : 0 < size)
    (W0 w' : World) (hW : Nw W0 w') (v : Value) (n : Nat) (xs : List Value) (hs : a.eval s = v) (hown : w'.ownsRow W0.heap.size e size v n xs)
    (g m c : Nat) (te : TypeId) (news : List Value) (hx : a.eval x = .slice (some ⟨g, 0, none⟩) m c) (hg : g = w'.heap.size) (hl : news.length = m * size) (h1 : ∀ u ∈ news, u.oneCell' = true)
    (h63 : n + m ≤ maxLen) (hbytes : (n + m) * bytes ≤ 140737488355328)
    (h : ∀ v' d', (W0.ext none d').ownsRow W0.heap.size e size v' (n + m) (xs ++ news) → wpList P ops Q rest (a.put o.dst v') (W0.ext none d')) :
    wpList P ops Q (o :: rest) a (w'.alloc (.cells news.toArray te)) := by
  obtain ⟨i, hi1, hz0, hz1, hz2⟩ := info_parts hi
  have hsz' := hW.grown.size
  refine wpList_append_own _ hgd s x t ho W0.heap.size e i z size bytes ht hi1 hz0 hz1 hz2 hzs hsz v n xs hs (hown.alloc _) ⟨g, 0, none⟩ m c news hx hl (new_cells hg news) h1 h63 hbytes (by simp; omega) ?_
  intro v' w1 hown' hgrow _
  obtain ⟨d', rfl⟩ : Nw W0 w1 := (hW.alloc _).row hgrow fun k hk => (hown.lt k hk).1
  exact h v' d' hown'
def Rd (w : World) (size : Nat) (A : Option Addr) (n : Nat) (xs : List Value) : Prop :=
  xs.length = n * size ∧ (0 < n → ∃ b o, A = some ⟨b, o, none⟩ ∧ b < w.heap.size ∧ ∀ j u, xs[j]? = some u → w.cell? ⟨b, o + j, none⟩ = some u)
theorem Rd.ext {w : World} {size n : Nat} {A : Option Addr} {xs : List Value} (h : Rd w size A n xs) (d : World) : Rd (w.ext none d) size A n xs :=
  ⟨h.1, fun hn => by
    obtain ⟨b, o, rfl, hb, hc⟩ := h.2 hn
    haveI : In b w := ⟨hb⟩
    exact ⟨b, o, rfl, In.lt, fun j u hu => by rw [cell_ext]; exact hc j u hu⟩⟩
theorem Rd.nw {w w' : World} {size n : Nat} {A : Option Addr} {xs : List Value} (h : Rd w size A n xs) (hw : Nw w w') : Rd w' size A n xs := by
  obtain ⟨d, rfl⟩ := hw; exact h.ext d
theorem add_at (b o j : Nat) : (⟨b, o, none⟩ : Addr).add j = ⟨b, o + j, none⟩ := by unfold Addr.add; split <;> simp_all
theorem run_append_nil {P : Program} (w : World) (base : Nat) (t ty e : TypeId) (i : TypeInfo) (size : Nat) (ht : P.underlying t = some (.slice e)) (hi : P.info? e = some i)
    (v : Value) (n : Nat) (xs : List Value) (hown : w.ownsRow base e size v n xs) (c : Nat) : (Builtin.append_ #[t, t] ty #[v, .slice none 0 c]).run P w = .ok v w := by
  rcases hown.2 with ⟨rfl, rfl⟩ | ⟨g, cap, cur, rfl, _, _, hnc, _⟩
  · simp [Builtin.append_, run_underlying ht, sizeOf, typeInfo, hi, Builtin.lenOf, Builtin.firstCells]
  · simp [Builtin.append_, run_underlying ht, sizeOf, typeInfo, hi, Builtin.lenOf, Builtin.firstCells, hnc, storeCells]
theorem wpList_appS {P : Program} {ops : Array Oper} {rest : List Oper} {o : Oper} {a : Act} {Q : Exit → Act → World → Prop} (hgd : o.guard = none) (s x : Operand) (t : TypeId)
    (ho : o.op = .call { callee := .builtin .append, args := #[s, x], argTypes := #[t, t] })
    (e : TypeId) (z : Value) (size bytes : Nat) (ht : P.underlying t = some (.slice e)) (hi : (P.info? e).map (fun i => (i.zero, i.size, i.bytes)) = some (some z, size, bytes)) (hzs : z.cells.size = size) (hsz : 0 < size)
    (W0 w' : World) (hW : Nw W0 w') (v : Value) (n : Nat) (xs : List Value) (hs : a.eval s = v) (hown : w'.ownsRow W0.heap.size e size v n xs)
    (A : Option Addr) (m c : Nat) (news : List Value) (hx : a.eval x = .slice A m c) (hr : Rd w' size A m news) (h1 : ∀ u ∈ news, u.oneCell' = true)
    (h63 : n + m ≤ maxLen) (hbytes : (n + m) * bytes ≤ 140737488355328)
    (h : ∀ v' d', (W0.ext none d').ownsRow W0.heap.size e size v' (n + m) (xs ++ news) → (v' = .slice none 0 0 → v = .slice none 0 0) → wpList P ops Q rest (a.put o.dst v') (W0.ext none d')) :
    wpList P ops Q (o :: rest) a w' := by
  obtain ⟨i, hi1, hz0, hz1, hz2⟩ := info_parts hi
  have hsz' := hW.grown.size
  rcases A with _ | ad
  · have hm : m = 0 := by
      rcases Nat.eq_zero_or_pos m with h0 | h0
      · exact h0
      · obtain ⟨b, o, hh, _⟩ := hr.2 h0; cases hh
    subst hm
    have hn : news = [] := List.eq_nil_of_length_eq_zero (by simpa using hr.1)
    subst hn
    refine wpList_plain hgd fun K hK => ?_
    have hrun := run_append_nil (P := P) w' W0.heap.size t o.type e i size ht hi1 v n xs hown c
    unfold Oper.wp execOp
    simp only [ho, resolve, invoke, builtin, Sem.run_bind, Sem.run_pure, Result.andThen_ok, List.map_toArray, List.map_cons, List.map_nil, hs, hx, hrun]
    obtain ⟨d', rfl⟩ := hW
    exact hK _ _ (h v d' (by simpa using hown) id)
  · refine wpList_append_own _ hgd s x t ho W0.heap.size e i z size bytes ht hi1 hz0 hz1 hz2 hzs hsz v n xs hs hown ad m c news hx hr.1 (fun j u hu => ?_) h1 h63 hbytes hsz' ?_
    · rcases Nat.eq_zero_or_pos m with h0 | h0
      · subst h0
        have hn : news = [] := List.eq_nil_of_length_eq_zero (by simpa using hr.1)
        subst hn; simp at hu
      · obtain ⟨b, o, hh, _, hc⟩ := hr.2 h0
        injection hh with hh
        subst hh
        rw [add_at]
        exact hc j u hu
    · intro v' w1 hown' hgrow hnil
      obtain ⟨d', rfl⟩ : Nw W0 w1 := hW.row hgrow fun k hk => (hown.lt k hk).1
      exact h v' d' hown' fun hv => (hnil.1 hv).1
theorem own_le {w : World} {base base' : Nat} {e : TypeId} {size : Nat} {v : Value} {n : Nat} {xs : List Value} (h : w.ownsRow base e size v n xs) (hb : base' ≤ base) : w.ownsRow base' e size v n xs :=
  ⟨h.1, h.2.elim .inl fun ⟨g, cap, cur, h1, h2, h3⟩ => .inr ⟨g, cap, cur, h1, Nat.le_trans hb h2, h3⟩⟩
theorem own_nw {w w' : World} {base : Nat} {e : TypeId} {size : Nat} {v : Value} {n : Nat} {xs : List Value} (h : w.ownsRow base e size v n xs) (hw : Nw w w') : w'.ownsRow base e size v n xs :=
  h.kept hw.grown (by cases hv : v.ownBlock <;> simp)
theorem own_forms {w : World} {base : Nat} {e : TypeId} {size : Nat} {v : Value} {n : Nat} {xs : List Value} (h : w.ownsRow base e size v n xs) :
    (v = .slice none 0 0 ∧ n = 0) ∨ ∃ g cap, v = .slice (some ⟨g, 0, none⟩) n cap ∧ base ≤ g ∧ In g w ∧ n ≤ cap ∧ cap ≤ maxLen := by
  rcases h.2 with h0 | ⟨g, cap, cur, h1, h2, h3, h4, h5, _⟩
  · exact .inl h0
  · exact .inr ⟨g, cap, h1, h2, ⟨(Array.getElem?_eq_some_iff.1 h3).1⟩, h4, h5⟩
theorem ret_bool {a b : Bool} (h : a = b) : Ending.returned (.bool a) = .returned (.bool b) := by rw [h]
theorem ret_int {k : IntKind} {a b : Int} (h : a = b) : Ending.returned (.int k a) = .returned (.int k b) := by rw [h]
end Xt
end Go
namespace Go
namespace Xt
open Go.RowKit Go.WideShapes Go.ChangeShapes
variable {H : Type} {enc : TypeId × Value → H} {P : Program}
theorem trodAll_stays (hl : laidOutB P = true) {W W' : World} {sp : Nat → Bool} : ∀ (ts : List TypeId) (vs : List Value) (ds : List (DataW H)) (ps : List MemPlace),
    (ts.all fun t => P.readableRec t && decide (t < P.types.size)) = true →
    DataW.TrodAll enc P W 0 (fun _ => true) true ts vs ds ps → (∀ x ∈ ps, W.sameAt W' x) → (∀ x ∈ ps, sp x.block = true) → DataW.TrodAll enc P W' 0 sp true ts vs ds ps
  | [], [], [], _, _, h, _, _ => h
  | t :: ts, v :: vs, d :: ds, _, hr, ⟨p, q, h1, h2, e⟩, hs, hsp => by
    subst e
    simp only [List.all_cons, Bool.and_eq_true, decide_eq_true_eq] at hr
    exact ⟨p, q, WideElems.Trod_stays hl hr.1.1 hr.1.2 h1 (fun x hx => hs x (List.mem_append_left _ hx)) (fun x hx => hsp x (List.mem_append_left _ hx)),
      trodAll_stays hl ts vs ds q hr.2 h2 (fun x hx => hs x (List.mem_append_right _ hx)) (fun x hx => hsp x (List.mem_append_right _ hx)), rfl⟩
  | [], [], _ :: _, _, _, h, _, _ => h.elim
  | [], _ :: _, _, _, _, h, _, _ => h.elim
  | _ :: _, [], _, _, _, h, _, _ => h.elim
  | _ :: _, _ :: _, [], _, _, h, _, _ => h.elim
theorem law_post {f : Func} {s : ChangeSpec} {apart fresh handsOn : Bool} {W W' : World} {args : Array Value} {ds : List (DataW H)} {before : List MemPlace} {t : TypeId}
    (hl : laidOutB P = true) (hr : (f.params.toList.all fun t => P.readableRec t && decide (t < P.types.size)) = true) (hrt : f.resultTypes = #[t]) (ht : P.underlying t = some .bool)
    (hvars : s.vars = []) (hW : DataW.Whole enc P f.params.toList s.vars apart W args.toList ds [] before)
    (hres : (s.fn H (ds ++ [])).results = [.lit (.bool true)]) (hargs : (s.fn H (ds ++ [])).args = ds) (hvs : (s.fn H (ds ++ [])).vars = []) (hb : Nw W W') :
    s.post enc P f apart fresh handsOn false W args (.bool true) W' := by
  have hW' := hW
  obtain ⟨p, q, hA, hV, he, hfz, hnd⟩ := hW
  rw [hvars] at hV
  have hq : q = [] := hV
  subst hq
  subst he
  simp only [List.append_nil] at hW'
  have hlt : ∀ x ∈ p, x.block < W.heap.size := fun x hx => hW'.lt x hx
  refine ⟨ds, [], p, [], p, [], hW', ?_, ?_, ?_, ?_, fun h => by cases h⟩
  · rw [hres, hrt]
    exact trodAll_mk1 (shut_bool ht true)
  · rw [hargs]
    exact trodAll_stays hl _ _ _ _ hr hA (fun x hx => hb.below.same (hlt x hx)) (fun x hx => by simpa using hlt x hx)
  · rw [hvs, hvars]; exact rfl
  · refine World.keptBut_mono (fun x hx => ⟨hx, ?_⟩) (hb.below.frame (· ∈ p))
    simpa using hx
theorem WfU64 {x : Int} (h : (Lit.int .u64 x).wf = true) : 0 ≤ x ∧ x < 18446744073709551616 := by
  simp [Lit.wf, IntKind.min, IntKind.max, IntKind.bits, IntKind.signed] at h; omega
inductive Leaf where
  | int (k : IntKind)
  | bool
def Leaf.ok : Leaf → Value → Prop
  | .int k, v => ∃ n, v = .int k n ∧ (Lit.int k n).wf = true
  | .bool, v => ∃ b, v = .bool b
def All2 : List Leaf → List Value → Prop
  | [], [] => True
  | k :: ks, v :: vs => k.ok v ∧ All2 ks vs
  | _, _ => False
theorem All2.nil {vs : List Value} (h : All2 [] vs) : vs = [] := by cases vs with | nil => rfl | cons => exact h.elim
theorem All2.cons {k : Leaf} {ks : List Leaf} {vs : List Value} (h : All2 (k :: ks) vs) : ∃ v vs', vs = v :: vs' ∧ k.ok v ∧ All2 ks vs' := by
  cases vs with
  | nil => exact h.elim
  | cons v vs' => exact ⟨v, vs', rfl, h.1, h.2⟩
theorem All2.append : ∀ {ks : List Leaf} {vs : List Value} {ks' : List Leaf} {vs' : List Value}, All2 ks vs → All2 ks' vs' → All2 (ks ++ ks') (vs ++ vs')
  | [], [], _, _, _, h => h
  | _ :: _, _ :: _, _, _, h, h' => ⟨h.1, h.2.append h'⟩
  | [], _ :: _, _, _, h, _ => h.elim
  | _ :: _, [], _, _, h, _ => h.elim
theorem All2.length : ∀ {ks : List Leaf} {vs : List Value}, All2 ks vs → vs.length = ks.length
  | [], [], _ => rfl
  | _ :: _, _ :: _, h => by simp [h.2.length]
  | [], _ :: _, h => h.elim
  | _ :: _, [], h => h.elim
def fieldLeaves (leaves : TypeId → Option (List Leaf)) : List Field → Nat → Option (List Leaf)
  | [], _ => some []
  | f :: fs, off => if f.offset = off then match leaves f.type with
    | some a => match fieldLeaves leaves fs (off + a.length) with
      | some b => some (a ++ b)
      | none => none
    | none => none else none
def leaves (P : Program) : Nat → TypeId → Option (List Leaf)
  | 0, _ => none
  | n + 1, t => match P.underlying t with
    | some (.int k) => some [.int k]
    | some .bool => some [.bool]
    | some (.struct fs) => match fieldLeaves (leaves P n) fs.toList 0 with
      | some ks => if P.cellsOf t = ks.length && (fs.toList.all fun f => match leaves P n f.type with | some a => P.cellsOf f.type == a.length | none => false) then some ks else none
      | none => none
    | _ => none
section
variable {w : World} {base : Nat} {spare : Nat → Bool} {held : Bool}
theorem fieldLeaves_ok {n : Nat} (ih : ∀ {t : TypeId} {ks : List Leaf}, leaves P n t = some ks → ∀ (fuel : Nat) (cs : List Value) (x : DataW H × List MemPlace), DataW.trod enc P w base spare held fuel t cs = some x → All2 ks cs) {m : Nat} {cs : List Value} :
    ∀ (fs : List Field) (off : Nat) (ks : List Leaf), fieldLeaves (leaves P n) fs off = some ks → (fs.all fun f => match leaves P n f.type with | some a => P.cellsOf f.type == a.length | none => false) = true →
      (∀ f ∈ fs, ∃ x, DataW.trod enc P w base spare held m f.type ((cs.drop f.offset).take (P.cellsOf f.type)) = some x) → All2 ks ((cs.drop off).take ks.length)
  | [], off, ks, h, _, _ => by simp [fieldLeaves] at h; subst h; simp [All2]
  | f :: fs, off, ks, h, hc, hf => by
    unfold fieldLeaves at h
    split at h
    · rename_i ho
      split at h
      · rename_i a ha
        split at h
        · rename_i b hb
          injection h with h
          subst h
          simp only [List.all_cons, ha, Bool.and_eq_true, beq_iff_eq] at hc
          obtain ⟨x, hx⟩ := hf f (by simp)
          have h1 := ih ha _ _ _ hx
          have h2 := fieldLeaves_ok ih fs (off + a.length) b hb hc.2 (fun g hg => hf g (by simp [hg]))
          rw [ho, hc.1] at h1
          have e : (cs.drop off).take (a ++ b).length = (cs.drop off).take a.length ++ (cs.drop (off + a.length)).take b.length := by
            rw [List.length_append, List.take_add, List.drop_drop]
          rw [e]
          exact h1.append h2
        · cases h
      · cases h
    · cases h
theorem leaves_ok : ∀ {n : Nat} {t : TypeId} {ks : List Leaf}, leaves P n t = some ks → ∀ (fuel : Nat) (cs : List Value) (x : DataW H × List MemPlace), DataW.trod enc P w base spare held fuel t cs = some x → All2 ks cs
  | 0, _, _, h => by simp [leaves] at h
  | n + 1, t, ks, h => fun fuel cs x hx => by
    unfold leaves at h
    split at h
    · rename_i k ht
      injection h with h
      subst h
      obtain ⟨v, rfl, _, hw⟩ := DataW.trod_int ht hx
      exact ⟨⟨v, rfl, hw⟩, trivial⟩
    · rename_i ht
      injection h with h
      subst h
      obtain ⟨v, rfl, _⟩ := DataW.trod_bool ht hx
      exact ⟨⟨v, rfl⟩, trivial⟩
    · rename_i fs ht
      split at h
      · rename_i ks' hk
        split at h
        · rename_i hc
          injection h with h
          subst h
          simp only [Bool.and_eq_true, decide_eq_true_eq] at hc
          obtain ⟨xs, m, _, _, hl, hxl, hf⟩ := DataW.trod_struct ht hx
          have := fieldLeaves_ok (enc := enc) (w := w) (base := base) (spare := spare) (held := held) (m := m) (cs := cs) (fun h => leaves_ok h) fs.toList 0 ks' hk hc.2 (fun f hfm => by
            obtain ⟨i, hi, rfl⟩ := List.mem_iff_getElem.1 hfm
            have hi' : i < fs.size := by simpa using hi
            have := hf i (fs[i]) (by simp [hi'])
            refine ⟨xs[i]'(by omega), ?_⟩
            have e : fs.toList[i] = fs[i] := by simp
            rw [e, this, List.getElem?_eq_getElem (by omega)])
          rw [List.drop_zero, List.take_of_length_le (by omega)] at this
          exact this
        · cases h
      · cases h
    · cases h
theorem add_spot {a : Addr} {n : Nat} (h : a.spot = none) : a.add n = ⟨a.block, a.off + n, none⟩ := by
  cases a; simp at h; subst h; unfold Addr.add; split <;> simp_all
theorem spot_of_cell {a : Addr} {u : Value} (h : w.cell? a = some u) : a.spot = none := by
  unfold World.cell? at h
  split at h
  · split at h
    · cases h
    · rename_i hs; simpa using hs
  · cases h
theorem add_block (a : Addr) (n : Nat) : (a.add n).block = a.block := by unfold Addr.add; split <;> rfl
theorem add_zero (a : Addr) : a.add 0 = a := by unfold Addr.add; simp
theorem open_flats {t e : TypeId} {ks : List Leaf} {n : Nat} {v : Value} {d : DataW H} {p : List MemPlace} {r : Reach} {b0 : Nat} (ht : P.underlying t = some (.slice e)) (hk : leaves P n e = some ks) (hC : P.cellsOf e = ks.length) (hpos : 0 < ks.length)
    (hv : Value.okWide P w r b0 t v) (h : DataW.Trod enc P w base (fun _ => true) held t v d p) :
    ∃ (A : Option Addr) (len cap : Nat) (L : List (List Value)), v = .slice A len cap ∧ L.length = len ∧ len ≤ cap ∧ cap ≤ maxLen ∧ (A = none → cap = 0) ∧ (∀ cs ∈ L, All2 ks cs) ∧
      (0 < len → ∃ b o, A = some ⟨b, o, none⟩ ∧ b < w.heap.size ∧ ∀ i cs, L[i]? = some cs → ∀ j u, cs[j]? = some u → w.cell? ⟨b, o + (i * ks.length + j), none⟩ = some u) := by
  obtain ⟨a0, len0, cap0, rfl⟩ := okWide_slice ht hv
  obtain ⟨fuel, hf⟩ := h
  rcases Deep.open_slice ht (by simpa [Value.cells] using hf) with ⟨hcs, _⟩ | ⟨a, len, cap, m, k, D, Pl, hcs, _, hl, hm, hmm, _, hi⟩
  · simp only [List.cons.injEq, Value.slice.injEq, and_true] at hcs
    obtain ⟨rfl, rfl, rfl⟩ := hcs
    exact ⟨none, 0, 0, [], rfl, rfl, Nat.le_refl _, Nat.zero_le _, fun _ => rfl, by simp, fun h => absurd h (by omega)⟩
  · simp only [List.cons.injEq, Value.slice.injEq, and_true] at hcs
    obtain ⟨rfl, rfl, rfl⟩ := hcs
    simp only [if_true] at hmm
    subst hmm
    have get : ∀ i, i < len0 → ∃ cs, All2 ks cs ∧ ∀ j u, cs[j]? = some u → w.cell? ((a.add (i * ks.length)).add j) = some u := by
      intro i hil
      obtain ⟨cs, hc, hx⟩ := hi i (by omega)
      obtain ⟨_, hlen, hcell⟩ := World.cells?_some hc
      rw [hC] at hlen hcell
      exact ⟨cs, leaves_ok hk _ _ _ hx, fun j u hu => by
        have hj : j < ks.length := by have := (List.getElem?_eq_some_iff.1 hu).1; omega
        have := hcell j hj
        rw [this, hu]⟩
    let L := (List.range len0).map fun i => if h : i < len0 then Classical.choose (get i h) else []
    have hL : ∀ i (hil : i < len0), L[i]? = some (Classical.choose (get i hil)) := by
      intro i hil
      simp only [L, List.getElem?_map, List.getElem?_range hil, Option.map_some, dif_pos hil]
    refine ⟨_, _, _, L, rfl, by simp [L], hl, hm, (fun h => by cases h), ?_, ?_⟩
    · intro cs hcs
      obtain ⟨i, hil, rfl⟩ := List.mem_iff_getElem.1 hcs
      have hil' : i < len0 := by simpa [L] using hil
      have h1 := hL i hil'
      rw [List.getElem?_eq_getElem hil] at h1
      injection h1 with h1
      rw [h1]
      exact (Classical.choose_spec (get i hil')).1
    · intro hpos0
      have h0 := get 0 hpos0
      obtain ⟨cs, hall, hcell⟩ := h0
      have hcl := hall.length
      have h00 := hcell 0 (cs[0]'(by omega)) (List.getElem?_eq_getElem (by omega))
      have hsp : a.spot = none := by
        have := spot_of_cell h00
        rwa [Nat.zero_mul, add_zero, add_zero] at this
      have hb := World.block_lt_of_cell? w _ h00
      rw [add_block, add_block] at hb
      refine ⟨a.block, a.off, by cases a; simp at hsp; subst hsp; rfl, hb, fun i cs' hi' j u hu => ?_⟩
      have hil : i < len0 := by have := (List.getElem?_eq_some_iff.1 hi').1; simpa [L] using this
      have h1 := hL i hil
      rw [hi'] at h1
      injection h1 with h1
      subst h1
      have := (Classical.choose_spec (get i hil)).2 j u hu
      rw [add_spot (by rw [add_spot hsp]), add_spot hsp] at this
      simpa [Nat.add_assoc] using this
end
theorem WfI64 {x : Int} (h : (Lit.int .i64 x).wf = true) : -9223372036854775808 ≤ x ∧ x ≤ 9223372036854775807 := by
  simp [Lit.wf, IntKind.min, IntKind.max, IntKind.bits, IntKind.signed] at h; omega
theorem WfU8 {x : Int} (h : (Lit.int .u8 x).wf = true) : 0 ≤ x ∧ x < 256 := by
  simp [Lit.wf, IntKind.min, IntKind.max, IntKind.bits, IntKind.signed] at h; omega
end Xt
end Go
namespace Go.Xt
open Go.RowKit
theorem Nw.drewd {w b d : World} (h : Nw w (b.ext none d)) : Nw w (b.ext none (ddrew b none d)) := by rw [← drew_ext]; exact h.drew
theorem Nw.drewdN {w b d : World} {n : Nat} (h : Nw w (b.ext none d)) : Nw w (b.ext none (ddrewN b none d n)) := by rw [← drewN_ext]; exact h.drewN n
end Go.Xt
