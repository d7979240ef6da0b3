import Derived.Test.YtnldlkkmjabenaaDoorK
import Derived.Shelf.Strings.Split
namespace Go.Proofs.YtnldlkkmjabenaaDoor
open Go.RowKit Go.Xt
/-! Words of a line. -/
def blank : ByteArray := ⟨#[32]⟩
def wordsB (s : ByteArray) : List ByteArray := Lib.splitB blank 0 (Lib.countB s blank) s
theorem blank1 : 1 ≤ blank.size := by decide
theorem wordsB_len (s : ByteArray) : (wordsB s).length = Lib.countB s blank + 1 := Lib.splitB_all blank blank1 0 _ s rfl
theorem strInfo : (Tryd.prog.info? 9).map (fun i => (i.zero, i.size, i.bytes)) = some (some (.string ByteArray.empty), 1, 16) := by kernel_rfl
/-- strings.Split at a blank, at a world and at all that grow out of it. -/
def SpAt (w : World) : Prop := ∀ (w' : World) (s : ByteArray), Nw w w' → s.size ≤ 1000 →
  Calls Tryd.prog 16 #[.string s, .string ⟨#[32]⟩] w' fun e w'' => (∃ b, e = .returned (.slice (some ⟨b, 0, none⟩) (wordsB s).length (wordsB s).length) ∧ b < w''.heap.size ∧ Rd w'' 1 (some ⟨b, 0, none⟩) (wordsB s).length (strs (wordsB s))) ∧ Nw w' w''
theorem SpAt.nw {w w' : World} (h : SpAt w) (hw : Nw w w') : SpAt w' := fun a s ha hs => h a s (hw.trans ha) hs
theorem cell_nw {w w' : World} {b i : Nat} {v : Value} (h : w.cell? ⟨b, i, none⟩ = some v) (hn : Nw w w') : w'.cell? ⟨b, i, none⟩ = some v := by
  have hb := World.block_lt_of_cell? w _ h
  obtain ⟨d, rfl⟩ := hn
  haveI : In b w := ⟨hb⟩
  rw [cell_ext]; exact h
set_option maxRecDepth 100000 in
theorem spAt (w : World) (m : Int) (hm : w.cell? ⟨splt_ren.g 1, 0, none⟩ = some (.int .i64 m)) : SpAt w := by
  intro w' s hw hs
  refine (Any.strings_Split { splt with } strInfo s blank m w' (by omega) (cell_nw hm hw) blank1).mono ?_
  rintro e W ⟨he, rfl⟩
  refine ⟨⟨w'.heap.size, ?_, by simp, ?_⟩, (by repeat (first | exact Xt.Nw.refl _ | refine Xt.Nw.drew ?_ | refine Xt.Nw.drewN ?_ _ | refine Xt.Nw.alloc ?_ _ | refine Xt.Nw.joined ?_ | refine Xt.Nw.drewd ?_ | refine Xt.Nw.drewdN ?_ | refine Xt.Nw.ext ?_ | refine Xt.Nw.ext_some ?_ (by assumption) | refine Xt.Nw.setCell ?_ (by simp [go_sem] <;> omega) _))⟩
  · rw [he, wordsB_len]
  · exact Rd_built _ _ _ _ _ (by simp [strs, wordsB]) (by simp [strs])
/-- The kind that bears a word, from kind k on. -/
def kindF (v : List UInt8) : Nat → Int → Option Int
  | 0, _ => none
  | f + 1, k => if wordL k = v then some k else kindF v f (k + 1)
def kindOf (v : List UInt8) : Option Int := kindF v 15 1
/-- The operation of seven numbers. -/
def mkOp (ns : List Nat) : Opn :=
  let g := fun i => (((ns[i]?).getD 0 : Nat) : Int)
  ⟨g 0, g 1, g 2, g 3, g 4, g 5, g 6⟩
/-- The operation of a kind with numbers in its fields. -/
def fillO (k : Int) (ns : List Nat) : Opn :=
  let g := fun o => match (offs k).findIdx? (· == o) with | some i => (((ns[i]?).getD 0 : Nat) : Int) | none => 0
  ⟨k, g 1, g 2, g 3, g 4, g 5, g 6⟩
def noOp : Opn := ⟨0, 0, 0, 0, 0, 0, 0⟩
/-- What ParseOp returns of words. -/
def parseW (s : ByteArray) : List ByteArray → Opn × Int
  | [] => (noOp, 4)
  | w0 :: r => if w0 = ⟨#[111, 112]⟩ then
      match numsR r 7 with
      | some ns => if 255 < (ns[0]?).getD 0 then (noOp, 4) else if lineO (mkOp ns) = s.data.toList then (mkOp ns, 0) else (noOp, 4)
      | none => (noOp, 4)
    else match kindOf w0.data.toList with
      | some k => match numsR r ((offs k).length : Nat) with
        | some ns => (fillO k ns, 0)
        | none => (noOp, 4)
      | none => (noOp, 4)
end Go.Proofs.YtnldlkkmjabenaaDoor
