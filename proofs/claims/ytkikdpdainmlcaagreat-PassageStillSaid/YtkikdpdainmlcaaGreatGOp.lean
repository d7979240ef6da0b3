import Derived.Test.YtkikdpdainmlcaaGreatGP
import Derived.Test.YtkikdpdainmlcaaGreatGA
import Derived.Test.YtkikdpdainmlcaaGreatGLib
import Derived.Test.YtkikdpdainmlcaaGreatGPj
import Derived.Maps.AppendAt
import Derived.Test.YtkikdpdainmlcaaGreatGPm
set_option linter.unusedVariables false
set_option linter.unusedSimpArgs false
set_option linter.unnecessarySimpa false
namespace Go.Proofs.YtkikdpdainmlcaaGreat
open Go.RowKit Go.Xt
abbrev KC : List Leaf := [Leaf.int .i64, Leaf.int .i64, Leaf.int .u8, Leaf.int .u64, Leaf.int .u64, Leaf.int .u64, Leaf.int .u64, Leaf.int .u64, Leaf.int .u64, Leaf.int .i64, Leaf.int .i64, Leaf.int .i64, Leaf.int .i64, Leaf.int .i64, Leaf.bool, Leaf.int .u64, Leaf.int .u64, Leaf.int .i64]
end Go.Proofs.YtkikdpdainmlcaaGreat
namespace Go.Proofs.YtkikdpdainmlcaaGreat
open Go.RowKit Go.Xt
/-! The reference's map (layer 5). -/
structure RUpd (w : World) (gp : Nat) (v : Value) (l : List (Int × Int)) (v' : Value) (w' : World) : Prop where
  om : OM w' gp v' l
  chg : Chg (foot gp v) w w'
  mv : ∀ g, v'.ownBlock = some g → v.ownBlock = some g ∨ w.heap.size ≤ g
section
variable {w w1 w2 w' : World} {gp : Nat} {v v1 v2 v' : Value} {l l1 l2 : List (Int × Int)}
theorem RUpd.same (h : OM w gp v l) (hn : Nw w w') : RUpd w gp v l v w' := ⟨h.nw hn, (Chg.of_nw hn : Chg [] w w').wide (by simp), fun _ h => .inl h⟩
theorem RUpd.after (hn : Nw w w2) (h : RUpd w2 gp v l v' w') : RUpd w gp v l v' w' :=
  ⟨h.om, (Chg.of_nw hn).trans h.chg, fun g hg => (h.mv g hg).imp id fun h => Nat.le_trans hn.grown.size h⟩
theorem RUpd.nw (h : RUpd w gp v l v' w2) (hn : Nw w2 w') : RUpd w gp v l v' w' := ⟨h.om.nw hn, h.chg.trans (Chg.of_nw hn), h.mv⟩
theorem RUpd.trans (h : RUpd w gp v l1 v1 w1) (k : RUpd w1 gp v1 l2 v2 w2) : RUpd w gp v l2 v2 w2 := by
  refine ⟨k.om, h.chg.then k.chg fun y hy => ?_, fun g hg => ?_⟩
  · rcases mem_foot.1 hy with rfl | hy
    · exact .inl (mem_foot.2 (.inl rfl))
    · exact (h.mv y hy).imp (fun e => mem_foot.2 (.inr e)) id
  · rcases k.mv g hg with e | e
    · exact h.mv g e
    · exact .inr (Nat.le_trans h.chg.size e)
theorem RUpd.store {W : World} {x : Value} (hp : W.cell? ⟨gp, 0, none⟩ = some x) (hz : W.frozen? ⟨gp, 0, none⟩ = false) (hrow : W.ownsRow 0 51 2 v' l.length (pcells l)) (ne : v'.ownBlock ≠ some gp) (ha : asc l) (hc : Nw w W) (hm : ∀ g, v'.ownBlock = some g → w.heap.size ≤ g) : RUpd w gp v l v' (W.setCell ⟨gp, 0, none⟩ v') := by
  have hs1 := Chg.set1 W gp 0 v'
  exact ⟨⟨World.cell?_setCell_same _ _ _ hp, own_chg hrow hs1 (fun g hg hx => by simp at hx; subst hx; exact ne hg), ne, by rw [World.frozen?_setCell]; exact hz, ha⟩,
    (Chg.of_nw hc).trans (hs1.wide (fun y hy => by simp at hy; subst hy; exact mem_foot.2 (.inl rfl))), fun g hg => .inr (hm g hg)⟩
end
def placeL (k : Int) (l : List (Int × Int)) : Int := if hasK k l = true then (pos k l : Int) else -1
end Go.Proofs.YtkikdpdainmlcaaGreat
namespace Go.Proofs.YtkikdpdainmlcaaGreat
open Go.RowKit Go.Xt
/-! The reference's map: set. -/
def stepS (k x : Int) (s : List (Int × Int) × Bool) (y : Int × Int) : List (Int × Int) × Bool :=
  if s.2 = false ∧ k ≤ y.1 then (if y.1 = k then s.1 ++ [(k, x)] else s.1 ++ [(k, x)] ++ [y], true)
  else (if y.1 = k then s.1 else s.1 ++ [y], s.2)
theorem fold_t {k x : Int} : ∀ {l o : List (Int × Int)}, (∀ z ∈ l, k < z.1) → l.foldl (stepS k x) (o, true) = (o ++ l, true)
  | [], o, _ => by simp
  | y :: r, o, h => by
    have hy := h y (by simp)
    rw [List.foldl_cons]
    have e : stepS k x (o, true) y = (o ++ [y], true) := by unfold stepS; rw [if_neg (by simp), if_neg (by omega)]
    rw [e, fold_t (fun z hz => h z (by simp [hz]))]; simp
theorem stepS_len (k x : Int) (s : List (Int × Int) × Bool) (y : Int × Int) : (stepS k x s y).1.length ≤ s.1.length + 2 := by
  unfold stepS
  split <;> (simp only; split <;> simp)
def Coll (W : World) (base : Nat) (v : Value) (o : List (Int × Int)) : Prop := W.ownsRow base 51 2 v o.length (pcells o)
theorem Coll.nw {W W' : World} {base : Nat} {v : Value} {o : List (Int × Int)} (h : Coll W base v o) (hn : Nw W W') : Coll W' base v o := own_nw h hn
end Go.Proofs.YtkikdpdainmlcaaGreat
namespace Go.Proofs.YtkikdpdainmlcaaGreat
open Go.RowKit Go.Xt
/-! The reference's map: cut. -/
def CutP (w : World) (gp : Nat) (v : Value) (lo hi : Int) (l : List (Int × Int)) (e : Ending) (w' : World) : Prop :=
  ∃ A c v', e = .returned (.slice A (inR lo hi l).length c) ∧ w'.ownsRow w.heap.size 51 2 (.slice A (inR lo hi l).length c) (inR lo hi l).length (pcells (inR lo hi l)) ∧ RUpd w gp v (outR lo hi l) v' w' ∧ ∀ g, (Value.slice A (inR lo hi l).length c).ownBlock = some g → v'.ownBlock ≠ some g
end Go.Proofs.YtkikdpdainmlcaaGreat
namespace Go.Proofs.YtkikdpdainmlcaaGreat
open Go.RowKit Go.Xt
/-! The reference's map: Put, PutIfAbsent, Delete, CompareAndSwap, DeleteRange. -/
end Go.Proofs.YtkikdpdainmlcaaGreat
