import Derived.Test.YtahagplegmcaaaaGreatDoorGPm
import Derived.Test.YtahagplegmcaaaaGreatDoorGVf
import Derived.Test.YtahagplegmcaaaaGreatDoorGVk
set_option linter.unusedVariables false
set_option linter.unusedSimpArgs false
set_option linter.unnecessarySimpa false
namespace Go.Proofs.YtahagplegmcaaaaGreatDoor
open Go.RowKit Go.Xt
/-! The reference's plan of a move, plain: the keys, the changes, how many are born. -/
theorem put_mem_key {j k x : Int} : ∀ {l : List (Int × Int)}, ((∃ v, (j, v) ∈ l) ∨ j = k) → ∃ v, (j, v) ∈ putL k x l
  | [], h => by
    rcases h with ⟨v, hv⟩ | rfl
    · simp at hv
    · exact ⟨x, by simp [putL]⟩
  | y :: r, h => by
    rw [putL]
    by_cases hy : y.1 < k
    · rw [if_pos hy]
      rcases h with ⟨v, hv⟩ | rfl
      · rcases List.mem_cons.1 hv with rfl | hv
        · exact ⟨v, by simp⟩
        · obtain ⟨u, hu⟩ := put_mem_key (j := j) (k := k) (x := x) (l := r) (.inl ⟨v, hv⟩)
          exact ⟨u, List.mem_cons_of_mem _ hu⟩
      · obtain ⟨u, hu⟩ := put_mem_key (j := j) (k := j) (x := x) (l := r) (.inr rfl)
        exact ⟨u, List.mem_cons_of_mem _ hu⟩
    · rw [if_neg hy]
      by_cases he : y.1 = k
      · rw [if_pos he]
        rcases h with ⟨v, hv⟩ | rfl
        · rcases List.mem_cons.1 hv with rfl | hv
          · exact ⟨x, by simp at he; simp [he]⟩
          · exact ⟨v, List.mem_cons_of_mem _ hv⟩
        · exact ⟨x, by simp⟩
      · rw [if_neg he]
        rcases h with ⟨v, hv⟩ | rfl
        · exact ⟨v, List.mem_cons_of_mem _ hv⟩
        · exact ⟨x, by simp⟩
/-- Two ascending lists, merged, each key once. -/
def mg : List Int → List Int → List Int
  | [], b => b
  | x :: a, [] => x :: a
  | x :: a, y :: b => if x < y then x :: mg a (y :: b) else if x = y then y :: mg a b else y :: mg (x :: a) b
termination_by a b => a.length + b.length
/-- A change. -/
structure Cg where
  key : Int
  was : Bool
  old : Int
  is_ : Bool
  new : Int
def cgc (x : Cg) : List Value := [.int .u64 x.key, .bool x.was, .int .u64 x.old, .bool x.is_, .int .u64 x.new]
def cgcells (l : List Cg) : List Value := l.flatMap cgc
/-- The changes at keys. -/
def btL (l m : List (Int × Int)) (keys : List Int) : List Cg := keys.map fun k => ⟨k, hasK k l, valL k l, hasK k m, valL k m⟩
/-- What a plan must keep. -/
def cgOk (x : Cg) : Prop := (x.was = true ∨ x.is_ = true) ∧ (x.was = false → x.old = 0) ∧ (x.is_ = false → x.new = 0)
def PlanOk (l : List Cg) : Prop := l.Pairwise (fun a b => a.key < b.key) ∧ ∀ x ∈ l, cgOk x
def bornL (l : List Cg) : Nat := (l.filter fun x => !x.was).length
def fromL (lo hi : Int) (l : List (Int × Int)) : List Int := (inR lo hi l).map (·.1)
def toL (lo hi b : Int) (l : List (Int × Int)) : List Int := (inR lo hi l).map fun p => p.1 + b
end Go.Proofs.YtahagplegmcaaaaGreatDoor
namespace Go.Proofs.YtahagplegmcaaaaGreatDoor
open Go.RowKit Go.Xt
/-! The reference's plan of a move: Ascending, merged, between, Check, Counts. -/
/-- The cells of keys. -/
def kcells (l : List Int) : List Value := l.map fun x => .int .u64 x
theorem kcells_snoc (l : List Int) (x : Int) : kcells (l ++ [x]) = kcells l ++ [.int .u64 x] := by simp [kcells]
/-- What a call collects of keys. -/
def CollK (W : World) (base : Nat) (v : Value) (o : List Int) : Prop := W.ownsRow base 40 1 v o.length (kcells o)
theorem CollK.nw {W W' : World} {base : Nat} {v : Value} {o : List Int} (h : CollK W base v o) (hn : Nw W W') : CollK W' base v o := own_nw h hn
theorem CollK.snoc {W : World} {base : Nat} {v : Value} {o : List Int} {a : Int} (h : W.ownsRow base 40 1 v (o.length + 1) (kcells o ++ [.int .u64 a])) : CollK W base v (o ++ [a]) := by
  unfold CollK; rw [kcells_snoc, List.length_append]; exact h
def MgP (w : World) (a b : List Int) (e : Ending) (w' : World) : Prop := ∃ v, e = .returned v ∧ CollK w' w.heap.size v (mg a b) ∧ Nw w w'
end Go.Proofs.YtahagplegmcaaaaGreatDoor
namespace Go.Proofs.YtahagplegmcaaaaGreatDoor
open Go.RowKit Go.Xt
/-! The reference's merged. -/
end Go.Proofs.YtahagplegmcaaaaGreatDoor
namespace Go.Proofs.YtahagplegmcaaaaGreatDoor
open Go.RowKit Go.Xt
/-! The reference's plan: Check, Counts, between. -/
theorem cgcells_cons (x : Cg) (l : List Cg) (k j : Nat) : (cgcells (x :: l))[(k + 1) * 5 + j]? = (cgcells l)[k * 5 + j]? := by
  rw [show (k + 1) * 5 + j = (k * 5 + j) + 5 by omega]; rfl
def CtP (w : World) (l : List Cg) (e : Ending) (w' : World) : Prop := ∃ G S : Int, e = .returned (.tuple #[.int .i64 (bornL l : Nat), .int .i64 G, .int .i64 S, .int .i64 0]) ∧ Nw w w'
end Go.Proofs.YtahagplegmcaaaaGreatDoor
namespace Go.Proofs.YtahagplegmcaaaaGreatDoor
open Go.RowKit Go.Xt
/-! The reference's plan of a move. -/
theorem own_rd {w : World} {base : Nat} {e : TypeId} {size : Nat} {v : Value} {n : Nat} {xs : List Value} (h : w.ownsRow base e size v n xs) : ∃ A c, v = .slice A n c ∧ Rd w size A n xs := by
  have hl := h.1
  rcases own_forms h with ⟨rfl, h0⟩ | ⟨g, c, rfl, _, hin, _, _⟩
  · exact ⟨none, 0, by rw [h0], hl, fun h1 => by omega⟩
  · refine ⟨some ⟨g, 0, none⟩, c, rfl, hl, fun _ => ⟨g, 0, rfl, hin.lt, fun j u hu => ?_⟩⟩
    have hj := (List.getElem?_eq_some_iff.1 hu).1
    rw [Nat.zero_add, h.cellAt j (by omega)]; exact hu
/-- The plan of a move. -/
def planL (lo hi b : Int) (l : List (Int × Int)) : List Cg := btL l (moveL lo hi b l) (mg (fromL lo hi l) (toL lo hi b l))
def PlP (w : World) (l : List Cg) (e : Ending) (w' : World) : Prop := ∃ A c, e = .returned (.tuple #[.slice A l.length c, .int .i64 0]) ∧ Rd w' 5 A l.length (cgcells l) ∧ Nw w w'
end Go.Proofs.YtahagplegmcaaaaGreatDoor
namespace Go.Proofs.YtahagplegmcaaaaGreatDoor
open Go.RowKit Go.Xt
/-! The reference's model: Do, where it refuses. -/
set_option maxRecDepth 20000 in
set_option maxHeartbeats 8000000 in
theorem rdo_ref (w : World) (p : Pl) (cf : Cf) (s : Md) (h : RAt w p cf s) (t : Int) (x : Ox) (hx : x.Wf) (hr : refM s t x ≠ 0) :
    Calls Tryz.prog 9 #[.pointer (some ⟨p.gm, 0, none⟩), .int .i64 t, opV x] w fun e w' => e = .returned (res5 (refM s t x) false 0 0 0) ∧ Nw w w' := by
  have HRF := Lib.hid (fun W (hn : Nw w W) => rrefusal_any W p cf s (h.nw hn) t x hx)
  have im := h.im
  obtain ⟨R, hR⟩ : ∃ R, R = refM s t x := ⟨_, rfl⟩
  rw [← hR] at HRF hr ⊢
  obtain ⟨gm, hgm⟩ : ∃ g, g = p.gm := ⟨_, rfl⟩
  rw [← hgm] at im HRF ⊢
  obtain ⟨k, a, b, c, d, e, f⟩ := x
  unfold opV at HRF ⊢
  simp only at HRF ⊢
  haveI : In gm w := ⟨im⟩
  have r0 : (R == 0) = false := by simpa using hr
  have r1 : ¬ R = 0 := hr
  clear h hx hgm im hR hr
  go_enter Tryz.func9, Tryz.ntmps9
  go_wp2_with (go_at_call 20; refine (HRF.out _ ((by repeat (first | exact Xt.Nw.refl _ | refine Xt.Nw.drew ?_ | refine Xt.Nw.drewN ?_ _ | refine Xt.Nw.alloc ?_ _ | refine Xt.Nw.joined ?_ | refine Xt.Nw.drewd ?_ | refine Xt.Nw.drewdN ?_ | refine Xt.Nw.ext ?_ | refine Xt.Nw.ext_some ?_ (by assumption) | refine Xt.Nw.setCell ?_ (by simp [go_sem] <;> omega) _)))).mono ?_; rintro e w' ⟨rfl, dW, rfl⟩)
  refine bodyPost_ret (v := res5 R false 0 0 0) ?_ rfl ⟨rfl, (by repeat (first | exact Xt.Nw.refl _ | refine Xt.Nw.drew ?_ | refine Xt.Nw.drewN ?_ _ | refine Xt.Nw.alloc ?_ _ | refine Xt.Nw.joined ?_ | refine Xt.Nw.drewd ?_ | refine Xt.Nw.drewdN ?_ | refine Xt.Nw.ext ?_ | refine Xt.Nw.ext_some ?_ (by assumption) | refine Xt.Nw.setCell ?_ (by simp [go_sem] <;> omega) _))⟩
  simp [results, Tryz.results9, go_sem]
end Go.Proofs.YtahagplegmcaaaaGreatDoor
