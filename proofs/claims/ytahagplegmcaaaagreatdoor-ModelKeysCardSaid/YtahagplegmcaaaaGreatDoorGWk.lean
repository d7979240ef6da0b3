import Derived.Test.YtahagplegmcaaaaGreatDoorGWj
import Derived.Test.YtahagplegmcaaaaGreatDoorGQp
set_option linter.unusedVariables false
set_option linter.unusedSimpArgs false
set_option linter.unnecessarySimpa false
namespace Go.Proofs.YtahagplegmcaaaaGreatDoor
open Go.RowKit Go.Xt
/-! Copy of the reference's model. -/
noncomputable def rthCap (W : World) (n : Nat) : Nat := grownCap W (0 + n) 0 73
noncomputable def rthArr (W : World) (th : List Th) : Array Value := ([] ++ rtcells th).toArray ++ Builtin.zeroCells (Value.agg #[.bool false, .bool false, .bool false, .int .u64 0, .int .u64 0]).cells (rthCap W th.length - (0 + th.length))
def RCopyP (w : World) (c : Cf) (s : Md) (e : Ending) (w' : World) : Prop := ∃ p' : Pl, e = .returned (.pointer (some ⟨p'.gm, 0, none⟩)) ∧ RAt w' p' c s ∧ (∀ g ∈ p'.foot, w.heap.size ≤ g) ∧ Nw w w'
end Go.Proofs.YtahagplegmcaaaaGreatDoor
namespace Go.Proofs.YtahagplegmcaaaaGreatDoor
open Go.RowKit Go.Xt
/-! gives. -/
end Go.Proofs.YtahagplegmcaaaaGreatDoor
namespace Go.Proofs.YtahagplegmcaaaaGreatDoor
open Go.RowKit Go.Xt
/-! Accept. -/
/-- Whether two results are the same. -/
def eqR (e : Int) (f : Bool) (k v c e' : Int) (f' : Bool) (k' v' c' : Int) : Bool := decide (e = e') && (decide (f = f') && (decide (k = k') && (decide (v = v') && decide (c = c'))))
@[go_sem 20000] theorem eqResB (e : Int) (f : Bool) (k v c e' : Int) (f' : Bool) (k' v' c' : Int) (w : World) : (Op.equalIn 10000 42 (res5 e f k v c) (res5 e' f' k' v' c')).run Tryz.prog w = .ok (eqR e f k v c e' f' k' v' c') w := eqRes e f k v c e' f' k' v' c' w
@[go_sem] theorem eqR_refl (e : Int) (f : Bool) (k v c : Int) : eqR e f k v c e f k v c = true := by simp [eqR]
end Go.Proofs.YtahagplegmcaaaaGreatDoor
namespace Go.Proofs.YtahagplegmcaaaaGreatDoor
open Go.RowKit Go.Xt
/-! Accept at OpNext and at an operation that is performed. -/
end Go.Proofs.YtahagplegmcaaaaGreatDoor
namespace Go.Proofs.YtahagplegmcaaaaGreatDoor
open Go.RowKit Go.Xt
/-! Accept at an operation that is performed. -/
end Go.Proofs.YtahagplegmcaaaaGreatDoor
namespace Go.Proofs.YtahagplegmcaaaaGreatDoor
open Go.RowKit Go.Xt
/-! Accept of any result of any operation. -/
def aloneR (r : Rs) : Bool := eqR r.err r.fd r.key r.val r.cnt r.err false 0 0 0
/-- Accept. -/
def acceptM (s : Md) (t : Int) (o : Ox) (r : Rs) : Bool × Md :=
  if refM s t o ≠ 0 then (aloneR r && (r.err == refM s t o), s)
  else match s.th[t.toNat]? with
    | none => (false, s)
    | some x =>
      if (aloneR r && givesM s o r.err) = true then (true, s)
      else if o.k = 12 then
        if (aloneR r && (r.err == 14)) = true then (true, { s with th := s.th.set t.toNat x.fin })
        else if r.err = 0 ∧ r.fd = true ∧ r.cnt = 0 ∧ x.lo ≤ r.key ∧ r.key ≤ x.hi then (true, { s with th := s.th.set t.toNat (x.after r.key) }) else (false, s)
      else if o.k = 15 then (eqR r.err r.fd r.key r.val r.cnt 0 false 0 0 r.cnt && (decide (0 ≤ r.cnt) && decide (r.cnt ≤ 1024)), s)
      else if (perfM s t.toNat x o).1 = r then (true, (perfM s t.toNat x o).2) else (false, s)
end Go.Proofs.YtahagplegmcaaaaGreatDoor
namespace Go.Proofs.YtahagplegmcaaaaGreatDoor
open Go.RowKit Go.Xt
/-! The reference's Accept: '*m = *c'. -/
def mcells (c : Cf) (gp gt n ct : Nat) : List Value := ccells c ++ [Value.pointer (some ⟨gp, 0, none⟩), Value.slice (some ⟨gt, 0, none⟩) n ct]
theorem mcells_len (c : Cf) (gp gt n ct : Nat) : (mcells c gp gt n ct).length = 18 := rfl
theorem Chg.setCells (g : Nat) : ∀ (vs : List Value) (o : Nat) (w : World), Chg [g] w (w.setCells g o vs)
  | [], _, w => ⟨rfl, rfl, rfl, Nat.le_refl _, fun _ _ _ => rfl⟩
  | v :: r, o, w => (Chg.set1 w g o v).trans (Chg.setCells g r (o + 1) (w.setCell ⟨g, o, none⟩ v))
theorem RAt.range {W : World} {p : Pl} {c : Cf} {s : Md} (h : RAt W p c s) : ∃ ct, W.rangeAt p.gm 0 (mcells c p.gp p.gt s.th.length ct) := by
  obtain ⟨ct, m2⟩ := h.m2
  refine ⟨ct, fun j v hv => ?_⟩
  rw [Nat.zero_add]
  have hj := (List.getElem?_eq_some_iff.1 hv).1
  rw [mcells_len] at hj
  unfold mcells at hv
  by_cases h16 : j < 16
  · rw [List.getElem?_append_left (by rw [ccells_len]; exact h16)] at hv
    exact h.cf j v hv
  · rcases (by omega : j = 16 ∨ j = 17) with rfl | rfl
    · injection hv with hv; rw [← hv]; exact h.m1
    · injection hv with hv; rw [← hv]; exact m2
theorem RAt.there {W : World} {p : Pl} {c : Cf} {s : Md} (h : RAt W p c s) : W.there p.gm 0 18 := by
  obtain ⟨ct, hr⟩ := h.range
  intro j hj
  have h1 := hr.isSome j (by rw [mcells_len]; exact hj)
  exact ⟨h1, h.mz _⟩
theorem sizeRM : (Tryz.prog.info? 67).map (·.size) = some 18 := by kernel_rfl
/-- A model of the reference lies at a block: for the walk. -/
class RmAt (w : World) (b : Nat) (l : outParam (List Value)) : Prop where
  at_ : w.rangeAt b 0 l
  len : l.length = 18
class RmTo (w : World) (b : Nat) : Prop where
  to_ : w.there b 0 18
instance {w : World} {b : Nat} {l : List Value} {x : Obj} [h : RmAt w b l] : RmAt (w.alloc x) b l := ⟨fun j v hv => cell_nw (h.at_ j v hv) ((Nw.refl _).alloc _), h.len⟩
instance {w : World} {b : Nat} {x : Obj} [h : RmTo w b] : RmTo (w.alloc x) b := ⟨fun j hj => by
  have hn := (Nw.refl w).alloc x
  obtain ⟨u, hu⟩ := Option.isSome_iff_exists.1 (h.to_ j hj).1
  exact ⟨by rw [cell_nw hu hn]; rfl, (frozen_nw (World.block_lt_of_cell? _ _ hu) hn).trans (h.to_ j hj).2⟩⟩
/-- A load and a store of a whole model, kept shut in the walk. -/
def loadRM (p : Value) : Sem Value := Instr.loadAt 67 p
def storeRM (p v : Value) : Sem Unit := Instr.storeAt 67 p v
@[go_sem ↓] theorem loadRM_in (p : Value) : Instr.loadAt 67 p = loadRM p := rfl
@[go_sem ↓] theorem storeRM_in (p v : Value) : Instr.storeAt 67 p v = storeRM p v := rfl
def mval (l : List Value) : Value := .agg l.toArray
@[go_sem] theorem run_loadRM {w : World} {b : Nat} {l : List Value} [h : RmAt w b l] : (loadRM (.pointer (some ⟨b, 0, none⟩))).run Tryz.prog w = .ok (mval l) w :=
  run_loadAt_mid w b 0 67 l _ h.at_ Tryz.underlying67 rfl (by rw [h.len]; exact sizeRM)
theorem mcells_one (c : Cf) (gp gt n ct : Nat) : ∀ v ∈ mcells c gp gt n ct, v.oneCell' = true := by
  intro v hv
  simp [mcells, ccells] at hv
  rcases hv with rfl | rfl | rfl | rfl | rfl | rfl | rfl | rfl | rfl | rfl | rfl | rfl | rfl | rfl | rfl | rfl | rfl | rfl <;> rfl
@[go_sem] theorem run_storeRM {w : World} {b : Nat} {c : Cf} {gp gt n ct : Nat} [h : RmTo w b] : (storeRM (.pointer (some ⟨b, 0, none⟩)) (mval (mcells c gp gt n ct))).run Tryz.prog w = .ok () (w.setCells b 0 (mcells c gp gt n ct)) := by
  have := run_storeAt_mid (P := Tryz.prog) w b 0 67 (mcells c gp gt n ct).toArray h.to_ (by exact sizeRM) (all_oneCell_toArray (mcells_one c gp gt n ct))
  exact this
end Go.Proofs.YtahagplegmcaaaaGreatDoor
namespace Go.Proofs.YtahagplegmcaaaaGreatDoor
open Go.RowKit Go.Xt
/-! The reference's Accept. -/
end Go.Proofs.YtahagplegmcaaaaGreatDoor
namespace Go.Proofs.YtahagplegmcaaaaGreatDoor
open Go.RowKit Go.Xt
/-! The reference's Accept of any result of any operation. -/
end Go.Proofs.YtahagplegmcaaaaGreatDoor
