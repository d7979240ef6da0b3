/- A library of plain lemmas: the world behind a call as 'w.ext r d' (only new blocks, and block r, may differ), with the rules that the walk needs. -/
import Derived.WalkKit
import Derived.WalkLawsBesides
import Derived.WalkSpells
import Derived.Deep.QuietTactic
import Derived.BigQuiet
import Derived.Laws.AppendOwn
import Derived.Lib.Hide
import Derived.IntWalk
set_option linter.unusedVariables false
set_option linter.unusedSimpArgs false
set_option linter.unnecessarySimpa false
namespace Go
open Classical in
/-- The world d, if it grows out of w (all blocks of w but r are as they were), else w. -/
noncomputable def World.ext (w : World) (r : Option Nat) (d : World) : World := if w.grownBy d r then d else w
namespace Xt
theorem gref (w : World) (r : Option Nat) : w.grownBy w r := ⟨rfl, rfl, rfl, Nat.le_refl _, fun _ _ _ => rfl⟩
theorem ext_of {w d : World} {r : Option Nat} (h : w.grownBy d r) : w.ext r d = d := if_pos h
theorem gext (w : World) (r : Option Nat) (d : World) : w.grownBy (w.ext r d) r := by
  unfold World.ext; split
  · assumption
  · exact gref w r
theorem le_size (w : World) (r : Option Nat) (d : World) : w.heap.size ≤ (w.ext r d).heap.size := (gext w r d).size
/-- Block n lies in w. -/
class In (n : Nat) (w : World) : Prop where
  lt : n < w.heap.size
/-- w' has at least k blocks more than w. -/
class Up (w : World) (k : Nat) (w' : World) : Prop where
  le : w.heap.size + k ≤ w'.heap.size
/-- Block n is not the row r. -/
class Off (n : Nat) (r : Option Nat) : Prop where
  ne : some n ≠ r
section
variable {w w' a : World} {r : Option Nat} {d : World} {n k : Nat}
instance (w : World) : Up w 0 w := ⟨Nat.le_refl _⟩
instance [h : Up w 0 w'] (o : Obj) : Up w 0 (w'.alloc o) := ⟨by have := h.le; simp; omega⟩
instance [h : Up w k w'] (b : Addr) (v : Value) : Up w k (w'.setCell b v) := ⟨by have := h.le; simpa using this⟩
instance [h : Up w k w'] : Up w k w'.drew := ⟨h.le⟩
instance [h : Up w k w'] (m : Nat) : Up w k (w'.drewN m) := ⟨h.le⟩
instance [h : Up w k w'] : Up w k (w'.ext r d) := ⟨Nat.le_trans h.le (le_size _ _ _)⟩
instance [h : In n w] (o : Obj) : In n (w.alloc o) := ⟨by have := h.lt; simp; omega⟩
instance [h : In n w] (o : Obj) : In (n + 1) (w.alloc o) := ⟨by have := h.lt; simp; omega⟩
instance [h : Up w 0 w'] (o : Obj) : In w.heap.size (w'.alloc o) := ⟨by have := h.le; simp; omega⟩
instance [h : In n w] (b : Addr) (v : Value) : In n (w.setCell b v) := ⟨by have := h.lt; simpa using this⟩
instance [h : In n w] : In n w.drew := ⟨h.lt⟩
instance [h : In n w] (m : Nat) : In n (w.drewN m) := ⟨h.lt⟩
instance [h : In n w] : In n (w.ext r d) := ⟨Nat.lt_of_lt_of_le h.lt (le_size _ _ _)⟩
instance : Off n none := ⟨by simp⟩
@[go_sem] theorem cell_ext {i : Nat} [h : In n w] [hr : Off n r] : (w.ext r d).cell? ⟨n, i, none⟩ = w.cell? ⟨n, i, none⟩ := World.cell?_of_block ((gext w r d).block n h.lt hr.ne)
@[go_sem] theorem frozen_ext {i : Nat} [h : In n w] [hr : Off n r] : (w.ext r d).frozen? ⟨n, i, none⟩ = w.frozen? ⟨n, i, none⟩ := World.frozen?_of_block ((gext w r d).block n h.lt hr.ne)
theorem grownBy_setCell (h : w.grownBy w' r) (a : Addr) (v : Value) : (w.setCell a v).grownBy (w'.setCell a v) r :=
  ⟨h.os, h.tape, h.output, by simpa using h.size, fun k hk hkr => by
    have hb := h.block k (by simpa using hk) hkr
    simp only [World.setCell, Array.getElem?_modify, hb]⟩
noncomputable def dset (w : World) (r : Option Nat) (d : World) (a : Addr) (v : Value) : World := (w.ext r d).setCell a v
noncomputable def ddrew (w : World) (r : Option Nat) (d : World) : World := (w.ext r d).drew
noncomputable def ddrewN (w : World) (r : Option Nat) (d : World) (n : Nat) : World := (w.ext r d).drewN n
noncomputable def djoin (w : World) (r : Option Nat) (d d' : World) : World := (w.ext r d).ext r d'
noncomputable def dpre (w : World) (r : Option Nat) (d : World) : World := w.ext r d
theorem grownBy_trans {a b c : World} (h : a.grownBy b r) (k : b.grownBy c r) : a.grownBy c r :=
  ⟨k.os.trans h.os, k.tape.trans h.tape, k.output.trans h.output, Nat.le_trans h.size k.size, fun i hi hr => (k.block i (Nat.lt_of_lt_of_le hi h.size) hr).trans (h.block i hi hr)⟩
@[go_sem] theorem setCell_ext {i : Nat} (v : Value) [_h : In n w] [_hr : Off n r] : (w.ext r d).setCell ⟨n, i, none⟩ v = (w.setCell ⟨n, i, none⟩ v).ext r (dset w r d ⟨n, i, none⟩ v) :=
  (ext_of (grownBy_setCell (gext w r d) _ _)).symm
theorem drew_ext : (w.ext r d).drew = w.ext r (ddrew w r d) :=
  (ext_of (d := ddrew w r d) (by have h := gext w r d; exact ⟨h.os, h.tape, h.output, h.size, h.block⟩)).symm
theorem drewN_ext : (w.ext r d).drewN n = w.ext r (ddrewN w r d n) :=
  (ext_of (d := ddrewN w r d n) (by have h := gext w r d; exact ⟨h.os, h.tape, h.output, h.size, h.block⟩)).symm
@[go_sem] theorem ext_drew : w.drew.ext r d = w.ext r (dpre w.drew r d) :=
  (ext_of (d := dpre w.drew r d) (by have h := gext w.drew r d; exact ⟨h.os, h.tape, h.output, h.size, h.block⟩)).symm
@[go_sem] theorem ext_drewN : (w.drewN n).ext r d = w.ext r (dpre (w.drewN n) r d) :=
  (ext_of (d := dpre (w.drewN n) r d) (by have h := gext (w.drewN n) r d; exact ⟨h.os, h.tape, h.output, h.size, h.block⟩)).symm
theorem ext_ext {d' : World} : (w.ext r d).ext r d' = w.ext r (djoin w r d d') :=
  (ext_of (d := djoin w r d d') (grownBy_trans (gext w r d) (gext _ r d'))).symm
-- comparisons of block numbers
/-- n is less than m. -/
class Lt (n m : Nat) : Prop where
  lt : n < m
instance [h : In n w] : Lt n w.heap.size := ⟨h.lt⟩
instance {m : Nat} [h : Lt n m] : Lt n (m + 1) := ⟨by have := h.lt; omega⟩
instance {m : Nat} [h : Lt n m] : Lt (n + 1) (m + 1) := ⟨by have := h.lt; omega⟩
instance : Lt n (n + 1) := ⟨by omega⟩
@[go_sem] theorem lt_in0 [h : Lt n (w.heap.size)] : (n < w.heap.size) = True := eq_true h.lt
@[go_sem] theorem eq_in0 [h : Lt n (w.heap.size)] : (n = w.heap.size) = False := eq_false (by have := h.lt; omega)
@[go_sem] theorem in_eq0 [h : Lt n (w.heap.size)] : (w.heap.size = n) = False := eq_false (by have := h.lt; omega)
@[go_sem] theorem lt_in1 [h : Lt n (w.heap.size + 1)] : (n < w.heap.size + 1) = True := eq_true h.lt
@[go_sem] theorem eq_in1 [h : Lt n (w.heap.size + 1)] : (n = w.heap.size + 1) = False := eq_false (by have := h.lt; omega)
@[go_sem] theorem in_eq1 [h : Lt n (w.heap.size + 1)] : (w.heap.size + 1 = n) = False := eq_false (by have := h.lt; omega)
@[go_sem] theorem lt_in2 [h : Lt n (w.heap.size + 1 + 1)] : (n < w.heap.size + 1 + 1) = True := eq_true h.lt
@[go_sem] theorem eq_in2 [h : Lt n (w.heap.size + 1 + 1)] : (n = w.heap.size + 1 + 1) = False := eq_false (by have := h.lt; omega)
@[go_sem] theorem in_eq2 [h : Lt n (w.heap.size + 1 + 1)] : (w.heap.size + 1 + 1 = n) = False := eq_false (by have := h.lt; omega)
@[go_sem] theorem lt_in3 [h : Lt n (w.heap.size + 1 + 1 + 1)] : (n < w.heap.size + 1 + 1 + 1) = True := eq_true h.lt
@[go_sem] theorem eq_in3 [h : Lt n (w.heap.size + 1 + 1 + 1)] : (n = w.heap.size + 1 + 1 + 1) = False := eq_false (by have := h.lt; omega)
@[go_sem] theorem in_eq3 [h : Lt n (w.heap.size + 1 + 1 + 1)] : (w.heap.size + 1 + 1 + 1 = n) = False := eq_false (by have := h.lt; omega)
@[go_sem] theorem lt_in4 [h : Lt n (w.heap.size + 1 + 1 + 1 + 1)] : (n < w.heap.size + 1 + 1 + 1 + 1) = True := eq_true h.lt
@[go_sem] theorem eq_in4 [h : Lt n (w.heap.size + 1 + 1 + 1 + 1)] : (n = w.heap.size + 1 + 1 + 1 + 1) = False := eq_false (by have := h.lt; omega)
@[go_sem] theorem in_eq4 [h : Lt n (w.heap.size + 1 + 1 + 1 + 1)] : (w.heap.size + 1 + 1 + 1 + 1 = n) = False := eq_false (by have := h.lt; omega)
@[go_sem] theorem lt_in5 [h : Lt n (w.heap.size + 1 + 1 + 1 + 1 + 1)] : (n < w.heap.size + 1 + 1 + 1 + 1 + 1) = True := eq_true h.lt
@[go_sem] theorem eq_in5 [h : Lt n (w.heap.size + 1 + 1 + 1 + 1 + 1)] : (n = w.heap.size + 1 + 1 + 1 + 1 + 1) = False := eq_false (by have := h.lt; omega)
@[go_sem] theorem in_eq5 [h : Lt n (w.heap.size + 1 + 1 + 1 + 1 + 1)] : (w.heap.size + 1 + 1 + 1 + 1 + 1 = n) = False := eq_false (by have := h.lt; omega)
@[go_sem] theorem lt_in6 [h : Lt n (w.heap.size + 1 + 1 + 1 + 1 + 1 + 1)] : (n < w.heap.size + 1 + 1 + 1 + 1 + 1 + 1) = True := eq_true h.lt
@[go_sem] theorem eq_in6 [h : Lt n (w.heap.size + 1 + 1 + 1 + 1 + 1 + 1)] : (n = w.heap.size + 1 + 1 + 1 + 1 + 1 + 1) = False := eq_false (by have := h.lt; omega)
@[go_sem] theorem in_eq6 [h : Lt n (w.heap.size + 1 + 1 + 1 + 1 + 1 + 1)] : (w.heap.size + 1 + 1 + 1 + 1 + 1 + 1 = n) = False := eq_false (by have := h.lt; omega)
@[go_sem] theorem lt_in7 [h : Lt n (w.heap.size + 1 + 1 + 1 + 1 + 1 + 1 + 1)] : (n < w.heap.size + 1 + 1 + 1 + 1 + 1 + 1 + 1) = True := eq_true h.lt
@[go_sem] theorem eq_in7 [h : Lt n (w.heap.size + 1 + 1 + 1 + 1 + 1 + 1 + 1)] : (n = w.heap.size + 1 + 1 + 1 + 1 + 1 + 1 + 1) = False := eq_false (by have := h.lt; omega)
@[go_sem] theorem in_eq7 [h : Lt n (w.heap.size + 1 + 1 + 1 + 1 + 1 + 1 + 1)] : (w.heap.size + 1 + 1 + 1 + 1 + 1 + 1 + 1 = n) = False := eq_false (by have := h.lt; omega)
@[go_sem] theorem lt_in8 [h : Lt n (w.heap.size + 1 + 1 + 1 + 1 + 1 + 1 + 1 + 1)] : (n < w.heap.size + 1 + 1 + 1 + 1 + 1 + 1 + 1 + 1) = True := eq_true h.lt
@[go_sem] theorem eq_in8 [h : Lt n (w.heap.size + 1 + 1 + 1 + 1 + 1 + 1 + 1 + 1)] : (n = w.heap.size + 1 + 1 + 1 + 1 + 1 + 1 + 1 + 1) = False := eq_false (by have := h.lt; omega)
@[go_sem] theorem in_eq8 [h : Lt n (w.heap.size + 1 + 1 + 1 + 1 + 1 + 1 + 1 + 1)] : (w.heap.size + 1 + 1 + 1 + 1 + 1 + 1 + 1 + 1 = n) = False := eq_false (by have := h.lt; omega)
@[go_sem] theorem le_up [h : Up w 0 w'] : (w.heap.size ≤ w'.heap.size) = True := eq_true (by have := h.le; omega)
@[go_sem] theorem le_up1 [h : Up w 0 w'] : (w.heap.size ≤ w'.heap.size + 1) = True := eq_true (by have := h.le; omega)
@[go_sem] theorem le_up2 [h : Up w 0 w'] : (w.heap.size ≤ w'.heap.size + 1 + 1) = True := eq_true (by have := h.le; omega)
@[go_sem] theorem le_up3 [h : Up w 0 w'] : (w.heap.size ≤ w'.heap.size + 1 + 1 + 1) = True := eq_true (by have := h.le; omega)
@[go_sem] theorem le_up4 [h : Up w 0 w'] : (w.heap.size ≤ w'.heap.size + 1 + 1 + 1 + 1) = True := eq_true (by have := h.le; omega)
@[go_sem] theorem le_up5 [h : Up w 0 w'] : (w.heap.size ≤ w'.heap.size + 1 + 1 + 1 + 1 + 1) = True := eq_true (by have := h.le; omega)
@[go_sem] theorem le_up6 [h : Up w 0 w'] : (w.heap.size ≤ w'.heap.size + 1 + 1 + 1 + 1 + 1 + 1) = True := eq_true (by have := h.le; omega)
@[go_sem] theorem le_up7 [h : Up w 0 w'] : (w.heap.size ≤ w'.heap.size + 1 + 1 + 1 + 1 + 1 + 1 + 1) = True := eq_true (by have := h.le; omega)
@[go_sem] theorem le_up8 [h : Up w 0 w'] : (w.heap.size ≤ w'.heap.size + 1 + 1 + 1 + 1 + 1 + 1 + 1 + 1) = True := eq_true (by have := h.le; omega)
instance [h : Up w 0 w'] : Lt w.heap.size (w'.heap.size + 1) := ⟨by have := h.le; omega⟩
end
/-- Only new blocks. -/
def Nw (w w' : World) : Prop := ∃ d : World, w' = w.ext none d
section
variable {w a : World}
theorem Nw.of (h : w.grownBy a none) : Nw w a := ⟨a, (ext_of h).symm⟩
theorem Nw.grown (h : Nw w a) : w.grownBy a none := by obtain ⟨d, rfl⟩ := h; exact gext w none d
theorem Nw.refl (w : World) : Nw w w := .of (gref w none)
theorem Nw.drew (h : Nw w a) : Nw w a.drew := .of ⟨h.grown.os, h.grown.tape, h.grown.output, h.grown.size, h.grown.block⟩
theorem Nw.drewN (h : Nw w a) (n : Nat) : Nw w (a.drewN n) := .of ⟨h.grown.os, h.grown.tape, h.grown.output, h.grown.size, h.grown.block⟩
theorem Nw.trans {b : World} (h : Nw w a) (k : Nw a b) : Nw w b := .of (grownBy_trans h.grown k.grown)
theorem Nw.alloc (h : Nw w a) (o : Obj) : Nw w (a.alloc o) := h.trans (.of (World.grownBy_alloc a o none))
theorem Nw.ext (h : Nw w a) {d : World} : Nw w (a.ext none d) := h.trans ⟨d, rfl⟩
theorem Nw.joined {b d d' : World} (h : Nw w (b.ext none d)) : Nw w (b.ext none (djoin b none d d')) := by rw [← ext_ext]; exact h.ext
theorem Nw.ext_some (h : Nw w a) {g : Nat} {d : World} (hg : w.heap.size ≤ g) : Nw w (a.ext (some g) d) := by
  have hd := gext a (some g) d
  exact .of ⟨hd.os.trans h.grown.os, hd.tape.trans h.grown.tape, hd.output.trans h.grown.output, Nat.le_trans h.grown.size hd.size,
    fun k hk hr => (hd.block k (Nat.lt_of_lt_of_le hk h.grown.size) (fun e => by injection e with e; omega)).trans (h.grown.block k hk hr)⟩
theorem Nw.setCell (h : Nw w a) {p : Addr} (hp : w.heap.size ≤ p.block) (u : Value) : Nw w (a.setCell p u) :=
  .of ⟨h.grown.os, h.grown.tape, h.grown.output, by simpa using h.grown.size, fun k hk hr => (RowKit.Below.heap_setCell _ _ _ _ (by omega)).trans (h.grown.block k hk hr)⟩
theorem Nw.below (h : Nw w a) : RowKit.Below w.heap.size w a := ⟨h.grown.os, h.grown.tape, h.grown.output, h.grown.size, fun k hk => h.grown.block k hk (by simp)⟩
theorem Nw.of_below (h : RowKit.Below w.heap.size w a) : Nw w a := .of ⟨h.os, h.tape, h.output, h.size, fun k hk _ => h.block k hk⟩
end
end Xt
/-- The same, for a region's own walk: it is not joined with what lies below. -/
noncomputable def World.reg (w : World) (d : World) : World := w.ext none d
namespace Xt
section
variable {P : Program} {w d : World} {n : Nat}
instance {k : Nat} {w' : World} [h : Up w k w'] : Up w k (w'.reg d) := ⟨Nat.le_trans h.le (le_size _ _ _)⟩
instance [h : In n w] : In n (w.reg d) := ⟨Nat.lt_of_lt_of_le h.lt (le_size _ _ _)⟩
@[go_sem] theorem cell_reg {i : Nat} [h : In n w] : (w.reg d).cell? ⟨n, i, none⟩ = w.cell? ⟨n, i, none⟩ := cell_ext
@[go_sem] theorem frozen_reg {i : Nat} [h : In n w] : (w.reg d).frozen? ⟨n, i, none⟩ = w.frozen? ⟨n, i, none⟩ := frozen_ext
theorem reg_nw (w d : World) : Nw w (w.reg d) := ⟨d, rfl⟩
/-- One walk of the lexical order, in the class of worlds that have only grown. -/
theorem wp_region_nw {id : Nat} {Q : Exit → Act → World → Prop} {a : Act} {w : World} {l : List Oper} (hm : P.follows .mixedOrders = true) (hB : Region.lexB .any l.toArray = true)
    (h : wpQuiet P l.toArray (fun w' => ∃ d : World, w' = w.reg d) (fun a' => ∀ w', (∃ d : World, w' = w.reg d) → Q .normal a' w') l a) : (Code.region id l.toArray true).wp P Q a w :=
  wp_region_quiet (C := fun w' => ∃ d : World, w' = w.reg d) hm hB (Nw.of ⟨rfl, rfl, rfl, Nat.le_refl _, fun _ _ _ => rfl⟩) (by simpa using h)
theorem quiet_of {f : FuncId} {args : Array Value} {w d : World} {v : Value}
    (h : Calls P f args (w.reg d) fun e w' => e = .returned v ∧ Nw (w.reg d) w') : Calls P f args (w.reg d) fun e w'' => e = .returned v ∧ ∃ d : World, w'' = w.reg d :=
  h.mono fun _ _ ⟨he, hm⟩ => ⟨he, (reg_nw w d).trans hm⟩
end
/-! ### a row of the call's own, appended to -/
theorem Nw.row {a w w' : World} {row : Option Nat} (h : Nw a w) (hg : w.grownBy w' row) (hr : ∀ k, row = some k → a.heap.size ≤ k) : Nw a w' :=
  .of ⟨hg.os.trans h.grown.os, hg.tape.trans h.grown.tape, hg.output.trans h.grown.output, Nat.le_trans h.grown.size hg.size, fun k hk _ =>
    (hg.block k (Nat.lt_of_lt_of_le hk h.grown.size) (fun e => by have := hr k e.symm; omega)).trans (h.grown.block k hk (by simp))⟩
theorem new_cells {w : World} {g : Nat} {t : TypeId} (hg : g = w.heap.size) (cs : List Value) : ∀ j u, cs[j]? = some u → (w.alloc (.cells cs.toArray t)).cell? ((⟨g, 0, none⟩ : Addr).add j) = some u := by
  subst hg
  intro j u hu
  have hadd : (⟨w.heap.size, 0, none⟩ : Addr).add j = ⟨w.heap.size, j, none⟩ := by unfold Addr.add; split <;> simp_all
  rw [hadd, World.cell?_alloc_new]
  simpa using hu
theorem wpList_app1 {P : Program} {ops : Array Oper} {rest : List Oper} {o : Oper} {a : Act} {Q : Exit → Act → World → Prop} (hgd : o.guard = none) (s x : Operand) (t : TypeId)
    (ho : o.op = .call { callee := .builtin .append, args := #[s, x], argTypes := #[t, t] })
    (e : TypeId) (z : Value) (size bytes : Nat) (ht : P.underlying t = some (.slice e)) (hi : (P.info? e).map (fun i => (i.zero, i.size, i.bytes)) = some (some z, size, bytes)) (hzs : z.cells.size = size) (hsz : 0 < size)
    (W0 w' : World) (hW : Nw W0 w') (v : Value) (n : Nat) (xs : List Value) (hs : a.eval s = v) (hown : w'.ownsRow W0.heap.size e size v n xs)
    (g m c : Nat) (te : TypeId) (news : List Value) (hx : a.eval x = .slice (some ⟨g, 0, none⟩) m c) (hg : g = w'.heap.size) (hl : news.length = m * size) (h1 : ∀ u ∈ news, u.oneCell' = true)
    (h63 : n + m ≤ maxLen) (hbytes : (n + m) * bytes ≤ 140737488355328)
    (h : ∀ v' d', (W0.ext none d').ownsRow W0.heap.size e size v' (n + m) (xs ++ news) → wpList P ops Q rest (a.put o.dst v') (W0.ext none d')) :
    wpList P ops Q (o :: rest) a (w'.alloc (.cells news.toArray te)) := by
  obtain ⟨i, hi1, hz0, hz1, hz2⟩ := info_parts hi
  have hsz' := hW.grown.size
  refine wpList_append_own _ hgd s x t ho W0.heap.size e i z size bytes ht hi1 hz0 hz1 hz2 hzs hsz v n xs hs (hown.alloc _) ⟨g, 0, none⟩ m c news hx hl (new_cells hg news) h1 h63 hbytes (by simp; omega) ?_
  intro v' w1 hown' hgrow _
  obtain ⟨d', rfl⟩ : Nw W0 w1 := (hW.alloc _).row hgrow fun k hk => (hown.lt k hk).1
  exact h v' d' hown'
/-- A slice value whose n elements are the cells xs. -/
def Rd (w : World) (size : Nat) (A : Option Addr) (n : Nat) (xs : List Value) : Prop :=
  xs.length = n * size ∧ (0 < n → ∃ b o, A = some ⟨b, o, none⟩ ∧ b < w.heap.size ∧ ∀ j u, xs[j]? = some u → w.cell? ⟨b, o + j, none⟩ = some u)
theorem Rd.ext {w : World} {size n : Nat} {A : Option Addr} {xs : List Value} (h : Rd w size A n xs) (d : World) : Rd (w.ext none d) size A n xs :=
  ⟨h.1, fun hn => by
    obtain ⟨b, o, rfl, hb, hc⟩ := h.2 hn
    haveI : In b w := ⟨hb⟩
    exact ⟨b, o, rfl, In.lt, fun j u hu => by rw [cell_ext]; exact hc j u hu⟩⟩
theorem Rd.nw {w w' : World} {size n : Nat} {A : Option Addr} {xs : List Value} (h : Rd w size A n xs) (hw : Nw w w') : Rd w' size A n xs := by
  obtain ⟨d, rfl⟩ := hw; exact h.ext d
theorem add_at (b o j : Nat) : (⟨b, o, none⟩ : Addr).add j = ⟨b, o + j, none⟩ := by unfold Addr.add; split <;> simp_all
theorem run_append_nil {P : Program} (w : World) (base : Nat) (t ty e : TypeId) (i : TypeInfo) (size : Nat) (ht : P.underlying t = some (.slice e)) (hi : P.info? e = some i)
    (v : Value) (n : Nat) (xs : List Value) (hown : w.ownsRow base e size v n xs) (c : Nat) : (Builtin.append_ #[t, t] ty #[v, .slice none 0 c]).run P w = .ok v w := by
  rcases hown.2 with ⟨rfl, rfl⟩ | ⟨g, cap, cur, rfl, _, _, hnc, _⟩
  · simp [Builtin.append_, run_underlying ht, sizeOf, typeInfo, hi, Builtin.lenOf, Builtin.firstCells]
  · simp [Builtin.append_, run_underlying ht, sizeOf, typeInfo, hi, Builtin.lenOf, Builtin.firstCells, hnc, storeCells]
/-- 'append(out, xs...)' onto a row of the call's own. -/
theorem wpList_appS {P : Program} {ops : Array Oper} {rest : List Oper} {o : Oper} {a : Act} {Q : Exit → Act → World → Prop} (hgd : o.guard = none) (s x : Operand) (t : TypeId)
    (ho : o.op = .call { callee := .builtin .append, args := #[s, x], argTypes := #[t, t] })
    (e : TypeId) (z : Value) (size bytes : Nat) (ht : P.underlying t = some (.slice e)) (hi : (P.info? e).map (fun i => (i.zero, i.size, i.bytes)) = some (some z, size, bytes)) (hzs : z.cells.size = size) (hsz : 0 < size)
    (W0 w' : World) (hW : Nw W0 w') (v : Value) (n : Nat) (xs : List Value) (hs : a.eval s = v) (hown : w'.ownsRow W0.heap.size e size v n xs)
    (A : Option Addr) (m c : Nat) (news : List Value) (hx : a.eval x = .slice A m c) (hr : Rd w' size A m news) (h1 : ∀ u ∈ news, u.oneCell' = true)
    (h63 : n + m ≤ maxLen) (hbytes : (n + m) * bytes ≤ 140737488355328)
    (h : ∀ v' d', (W0.ext none d').ownsRow W0.heap.size e size v' (n + m) (xs ++ news) → (v' = .slice none 0 0 → v = .slice none 0 0) → wpList P ops Q rest (a.put o.dst v') (W0.ext none d')) :
    wpList P ops Q (o :: rest) a w' := by
  obtain ⟨i, hi1, hz0, hz1, hz2⟩ := info_parts hi
  have hsz' := hW.grown.size
  rcases A with _ | ad
  · have hm : m = 0 := by
      rcases Nat.eq_zero_or_pos m with h0 | h0
      · exact h0
      · obtain ⟨b, o, hh, _⟩ := hr.2 h0; cases hh
    subst hm
    have hn : news = [] := List.eq_nil_of_length_eq_zero (by simpa using hr.1)
    subst hn
    refine wpList_plain hgd fun K hK => ?_
    have hrun := run_append_nil (P := P) w' W0.heap.size t o.type e i size ht hi1 v n xs hown c
    unfold Oper.wp execOp
    simp only [ho, resolve, invoke, builtin, Sem.run_bind, Sem.run_pure, Result.andThen_ok, List.map_toArray, List.map_cons, List.map_nil, hs, hx, hrun]
    obtain ⟨d', rfl⟩ := hW
    exact hK _ _ (h v d' (by simpa using hown) id)
  · refine wpList_append_own _ hgd s x t ho W0.heap.size e i z size bytes ht hi1 hz0 hz1 hz2 hzs hsz v n xs hs hown ad m c news hx hr.1 (fun j u hu => ?_) h1 h63 hbytes hsz' ?_
    · rcases Nat.eq_zero_or_pos m with h0 | h0
      · subst h0
        have hn : news = [] := List.eq_nil_of_length_eq_zero (by simpa using hr.1)
        subst hn; simp at hu
      · obtain ⟨b, o, hh, _, hc⟩ := hr.2 h0
        injection hh with hh
        subst hh
        rw [add_at]
        exact hc j u hu
    · intro v' w1 hown' hgrow hnil
      obtain ⟨d', rfl⟩ : Nw W0 w1 := hW.row hgrow fun k hk => (hown.lt k hk).1
      exact h v' d' hown' fun hv => (hnil.1 hv).1
theorem own_le {w : World} {base base' : Nat} {e : TypeId} {size : Nat} {v : Value} {n : Nat} {xs : List Value} (h : w.ownsRow base e size v n xs) (hb : base' ≤ base) : w.ownsRow base' e size v n xs :=
  ⟨h.1, h.2.elim .inl fun ⟨g, cap, cur, h1, h2, h3⟩ => .inr ⟨g, cap, cur, h1, Nat.le_trans hb h2, h3⟩⟩
theorem own_nw {w w' : World} {base : Nat} {e : TypeId} {size : Nat} {v : Value} {n : Nat} {xs : List Value} (h : w.ownsRow base e size v n xs) (hw : Nw w w') : w'.ownsRow base e size v n xs :=
  h.kept hw.grown (by cases hv : v.ownBlock <;> simp)
theorem own_forms {w : World} {base : Nat} {e : TypeId} {size : Nat} {v : Value} {n : Nat} {xs : List Value} (h : w.ownsRow base e size v n xs) :
    (v = .slice none 0 0 ∧ n = 0) ∨ ∃ g cap, v = .slice (some ⟨g, 0, none⟩) n cap ∧ base ≤ g ∧ In g w ∧ n ≤ cap ∧ cap ≤ maxLen := by
  rcases h.2 with h0 | ⟨g, cap, cur, h1, h2, h3, h4, h5, _⟩
  · exact .inl h0
  · exact .inr ⟨g, cap, h1, h2, ⟨(Array.getElem?_eq_some_iff.1 h3).1⟩, h4, h5⟩
theorem ret_bool {a b : Bool} (h : a = b) : Ending.returned (.bool a) = .returned (.bool b) := by rw [h]
theorem ret_int {k : IntKind} {a b : Int} (h : a = b) : Ending.returned (.int k a) = .returned (.int k b) := by rw [h]
theorem ret_eq {a b : Value} (h : a = b) : Ending.returned a = .returned b := by rw [h]
end Xt
end Go
namespace Go.Xt
open Go.RowKit
theorem Nw.drewd {w b d : World} (h : Nw w (b.ext none d)) : Nw w (b.ext none (ddrew b none d)) := by rw [← drew_ext]; exact h.drew
theorem Nw.drewdN {w b d : World} {n : Nat} (h : Nw w (b.ext none d)) : Nw w (b.ext none (ddrewN b none d n)) := by rw [← drewN_ext]; exact h.drewN n
/-- A row of the call's own, over a store of two cells into an older box. -/
theorem own_upd2 {Y Z : World} {g base : Nat} {u0 u1 : Value} {e : TypeId} {size : Nat} {v : Value} {n : Nat} {xs : List Value}
    (hown : Y.ownsRow base e size v n xs) (hg : g < base) (hZ : (Y.setCell ⟨g, 0, none⟩ u0).setCell ⟨g, 1, none⟩ u1 = Z) : Z.ownsRow base e size v n xs := by
  subst hZ
  exact ownsRow_setCell_below (ownsRow_setCell_below hown hg u0) hg u1
end Go.Xt
