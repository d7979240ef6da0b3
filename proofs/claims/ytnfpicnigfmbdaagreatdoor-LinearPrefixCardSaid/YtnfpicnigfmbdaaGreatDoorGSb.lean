import Derived.Test.YtnfpicnigfmbdaaGreatDoorGSlay
import Derived.Shelf.Strings.BuilderK
import Derived.Test.YtnfpicnigfmbdaaGreatDoorGRg
set_option linter.unusedVariables false
set_option linter.unusedSimpArgs false
set_option linter.unnecessarySimpa false
namespace Go.Proofs.YtnfpicnigfmbdaaGreatDoor
open Go.RowKit Go.Xt
/-- strings.Builder: a builder that a call has made itself. -/
def Bd (B b : Nat) (bs : List UInt8) (w : World) : Prop := Lib.IsBuilderF 117 5 B b (Lib.byteCells bs) w
def Ok5 (b : Nat) (w w' : World) : Prop := Lib.OthersKept 5 (some b) w w'
set_option maxRecDepth 100000 in
theorem bfresh (b : Nat) (w : World) (h0 : w.cell? ⟨b, 0, none⟩ = some (.pointer none)) (hsh : w.shape? b = some (117, 2)) (hfz : w.frozen? ⟨b, 0, none⟩ = false) :
    Calls Tryz.prog 77 #[.pointer (some ⟨b, 0, none⟩)] w fun e w' => e = .returned (.tuple #[]) ∧ w' = w.setCell ⟨b, 0, none⟩ (.pointer (some ⟨b, 0, none⟩)) := by
  obtain ⟨j, hj, hjs⟩ : ∃ j, Tryz.prog.info? 117 = some j ∧ j.size = 2 := Option.map_eq_some_iff.1 (show (Tryz.prog.info? 117).map (·.size) = some 2 from by kernel_rfl)
  go_enter Tryz.func77, Tryz.ntmps77
  go_wp2
  rw [Lib.run_to_unsafe w ⟨b, 0, none⟩ Tryz.underlying114 Tryz.underlying169 hj (by rw [hjs]; decide) hsh (Nat.zero_lt_succ 1)]
  simp only [Result.andThen]
  rw [Oper.upon_value]
  go_wp2
  rw [run_callFunc_extern Tryz.func108 (by kernel_rfl) (by kernel_rfl) (by kernel_rfl) (e := Extern.AbiNoEscape.same) (by kernel_rfl)]
  rw [Lib.run_noEscape]
  simp only [Result.andThen]
  rw [Oper.upon_value]
  go_wp2
  rw [Lib.run_from_unsafe w ⟨b, 0, none⟩ Tryz.underlying169 Tryz.underlying114 hj hsh (by kernel_rfl)]
  simp only [Result.andThen]
  rw [Oper.upon_value]
  go_wp2
  go_end0
  exact ⟨rfl, rfl⟩
set_option maxRecDepth 100000 in
theorem bused (b : Nat) (w : World) (h0 : w.cell? ⟨b, 0, none⟩ = some (.pointer (some ⟨b, 0, none⟩))) :
    Calls Tryz.prog 77 #[.pointer (some ⟨b, 0, none⟩)] w fun e w' => e = .returned (.tuple #[]) ∧ w' = w := by
  go_enter Tryz.func77, Tryz.ntmps77
  go_wp2
  obtain ⟨j, hj, _⟩ : ∃ j, Tryz.prog.info? 117 = some j ∧ j.size = 2 := Option.map_eq_some_iff.1 (show (Tryz.prog.info? 117).map (·.size) = some 2 from by kernel_rfl)
  rw [Lib.run_neq_ptr_same w _ Tryz.underlying114 hj]
  go_wp2
  go_end0
  exact ⟨rfl, rfl⟩
theorem bcheck (B b : Nat) (bs : List Value) (w : World) (h : Lib.IsBuilderF 117 5 B b bs w) :
    Calls Tryz.prog 77 #[.pointer (some ⟨b, 0, none⟩)] w fun e w' => e = .returned (.tuple #[]) ∧ (Lib.BuilderAtF 117 5 B b (.pointer (some ⟨b, 0, none⟩)) bs w' ∧ Below B w w' ∧ Ok5 b w w') := by
  rcases h with h | h
  · refine (bfresh b w h.cell0 h.shape h.frozen0).mono ?_
    rintro e w' ⟨rfl, rfl⟩
    exact ⟨rfl, h.used _, (Below.refl B w).setCell (p := ⟨b, 0, none⟩) h.1 _, (Lib.OthersKept.refl _ _ w).setCell ⟨b, 0, none⟩ rfl _⟩
  · refine (bused b w h.cell0).mono ?_
    rintro e w' ⟨rfl, rfl⟩
    exact ⟨rfl, h, Below.refl B _, Lib.OthersKept.refl _ _ _⟩
theorem byte_info : ∃ i0, Tryz.prog.info? 5 = some i0 ∧ i0.zero = some (.int .u8 0) ∧ i0.size = 1 ∧ i0.bytes = 1 := by
  obtain ⟨i, hi, he⟩ := Option.map_eq_some_iff.1 (show (Tryz.prog.info? 5).map (fun i => (i.zero, i.size, i.bytes)) = some (some (.int .u8 0), 1, 1) from by kernel_rfl)
  simp only [Prod.mk.injEq] at he
  exact ⟨i, hi, he.1, he.2.1, he.2.2⟩
set_option maxHeartbeats 2000000 in
set_option maxRecDepth 100000 in
theorem bbyte (B b : Nat) (bs : List UInt8) (c : UInt8) (w : World) (h : Bd B b bs w) (hlen : bs.length + 1 ≤ 140737488355328) (hBw : B ≤ w.heap.size) :
    Calls Tryz.prog 56 #[.pointer (some ⟨b, 0, none⟩), .int .u8 (c.toNat : Int)] w fun e w' => e = .returned .nilIface ∧ Bd B b (bs ++ [c]) w' ∧ Below B w w' ∧ Ok5 b w w' := by
  obtain ⟨i0, hi, hz0, hz1, hz2⟩ := byte_info
  unfold Bd at h
  go_enter Tryz.func56, Tryz.ntmps56
  go_wp2_with (go_at_call 77; refine (bcheck B b (Lib.byteCells bs) _ h).mono ?_)
  rintro e w1 ⟨rfl, h1, hb1, hk1⟩
  obtain ⟨hB, v, hbk, hown, hne⟩ := h1
  have c0 : w1.cell? ⟨b, 0, none⟩ = some (.pointer (some ⟨b, 0, none⟩)) := by rw [Lib.cell_of_heap hbk]; rfl
  have c1 : w1.cell? ⟨b, 1, none⟩ = some v := by rw [Lib.cell_of_heap hbk]; rfl
  go_wp2_with (at_builtin; refine wpList_append_ownF _ rfl _ _ 115 rfl B 5 i0 (.int .u8 0) 1 1 Tryz.underlying115 hi hz0 hz1 hz2 rfl (by decide) _ _ _ rfl (hown.alloc _) ⟨w1.heap.size, 0, none⟩ 1 1 [.int .u8 (c.toNat : Int)] rfl rfl ?c1 ?c2 ?c3 ?c4 ?c5 ?_)
  case c1 =>
    intro j u hj
    match j, hj with
    | 0, hj => simp at hj; subst hj; simp [Addr.add]
  case c2 => intro u hu; simp at hu; subst hu; rfl
  case c3 => unfold maxLen; rw [Lib.byteCells_length]; omega
  case c4 => rw [Lib.byteCells_length]; omega
  case c5 => have := hb1.size; simp; omega
  intro v' w2 hown' hgrow _
  have hlt : b < w1.heap.size := by
    rcases Nat.lt_or_ge b w1.heap.size with h' | h'
    · exact h'
    · simp [Array.getElem?_eq_none h'] at hbk
  have hb2 : w2.heap[b]? = some (.cells #[.pointer (some ⟨b, 0, none⟩), v] 117 (0, 0)) := by
    rw [hgrow.block b (by simp; omega) (fun e => hne e.symm), Lib.alloc_old w1 _ b hlt]
    exact hbk
  have d0 : w2.cell? ⟨b, 0, none⟩ = some (.pointer (some ⟨b, 0, none⟩)) := by rw [Lib.cell_of_heap hb2]; rfl
  have d1 : w2.cell? ⟨b, 1, none⟩ = some v := by rw [Lib.cell_of_heap hb2]; rfl
  have f1 : w2.frozen? ⟨b, 1, none⟩ = false := Lib.frozen_of_heap hb2 1
  obtain ⟨ao, n', cap, rfl⟩ : ∃ ao n' cap, v' = .slice ao n' cap := by
    rcases hown'.2 with ⟨hv, _⟩ | ⟨g, cap, cur, fz, hv, _⟩
    · exact ⟨_, _, _, hv⟩
    · exact ⟨_, _, _, hv⟩
  go_wp2
  go_ret
  refine ⟨rfl, Or.inr ?_, ?_, ((hk1.alloc _).grown hgrow (Lib.ownsRowF_kind (hown.alloc _))).setCell ⟨b, 1, none⟩ rfl _⟩
  · exact Lib.BuilderAtF.put (T := 117) (e := 5) hB hb2 (bs' := Lib.byteCells (bs ++ [c])) (by simpa [Lib.byteCells] using hown') (by decide)
  · exact ((hb1.alloc (by have := hb1.size; omega) _).grown hgrow (by have := hb1.size; simp; omega) (fun k hk => (hown.lt k hk).1)).setCell (p := ⟨b, 1, none⟩) hB _
theorem strC (l : List UInt8) : Lib.strCells ⟨l.toArray⟩ = Lib.byteCells l := by
  simp [Lib.strCells, Lib.byteCells]
set_option maxHeartbeats 2000000 in
set_option maxRecDepth 100000 in
theorem bstr (B b : Nat) (bs l : List UInt8) (w : World) (h : Bd B b bs w) (hlen : bs.length + l.length ≤ 140737488355328) (hBw : B ≤ w.heap.size) :
    Calls Tryz.prog 54 #[.pointer (some ⟨b, 0, none⟩), .string ⟨l.toArray⟩] w fun e w' => e = .returned (.tuple #[.int .i64 l.length, .nilIface]) ∧ Bd B b (bs ++ l) w' ∧ Below B w w' ∧ Ok5 b w w' := by
  obtain ⟨i0, hi, hz0, hz1, hz2⟩ := byte_info
  unfold Bd at h
  have hsz : (⟨l.toArray⟩ : ByteArray).size = l.length := by simp [ByteArray.size]
  go_enter Tryz.func54, Tryz.ntmps54
  go_wp2_with (go_at_call 77; refine (bcheck B b (Lib.byteCells bs) _ h).mono ?_)
  rintro e w1 ⟨rfl, h1, hb1, hk1⟩
  obtain ⟨hB, v, hbk, hown, hne⟩ := h1
  have c0 : w1.cell? ⟨b, 0, none⟩ = some (.pointer (some ⟨b, 0, none⟩)) := by rw [Lib.cell_of_heap hbk]; rfl
  have c1 : w1.cell? ⟨b, 1, none⟩ = some v := by rw [Lib.cell_of_heap hbk]; rfl
  go_wp2_with (at_builtin; refine Lib.wpList_append_own_stringF _ rfl _ _ 115 9 rfl B 5 i0 Tryz.underlying115 Tryz.underlying9 hi hz0 hz1 hz2 _ _ _ rfl hown ⟨l.toArray⟩ rfl ?c3 ?c4 ?c5 ?_)
  case c3 => unfold maxLen; rw [hsz, Lib.byteCells_length]; omega
  case c4 => rw [hsz, Lib.byteCells_length]; omega
  case c5 => have := hb1.size; omega
  intro v' w2 hown' hgrow _
  have hlt : b < w1.heap.size := by
    rcases Nat.lt_or_ge b w1.heap.size with h' | h'
    · exact h'
    · simp [Array.getElem?_eq_none h'] at hbk
  have hb2 : w2.heap[b]? = some (.cells #[.pointer (some ⟨b, 0, none⟩), v] 117 (0, 0)) := by
    rw [hgrow.block b hlt (fun e => hne e.symm)]
    exact hbk
  have d0 : w2.cell? ⟨b, 0, none⟩ = some (.pointer (some ⟨b, 0, none⟩)) := by rw [Lib.cell_of_heap hb2]; rfl
  have d1 : w2.cell? ⟨b, 1, none⟩ = some v := by rw [Lib.cell_of_heap hb2]; rfl
  have f1 : w2.frozen? ⟨b, 1, none⟩ = false := Lib.frozen_of_heap hb2 1
  obtain ⟨ao, n', cap, rfl⟩ : ∃ ao n' cap, v' = .slice ao n' cap := by
    rcases hown'.2 with ⟨hv, _⟩ | ⟨g, cap, cur, fz, hv, _⟩
    · exact ⟨_, _, _, hv⟩
    · exact ⟨_, _, _, hv⟩
  go_wp2
  go_ret2
  refine ⟨by rfl, Or.inr ?_, ?_, (hk1.grown hgrow (Lib.ownsRowF_kind hown)).setCell ⟨b, 1, none⟩ rfl _⟩
  · rw [strC] at hown'
    exact Lib.BuilderAtF.put (T := 117) (e := 5) hB hb2 (bs' := Lib.byteCells (bs ++ l)) (by simpa [Lib.byteCells] using hown') (by decide)
  · exact (hb1.grown hgrow (by have := hb1.size; omega) (fun k hk => (hown.lt k hk).1)).setCell (p := ⟨b, 1, none⟩) hB _
set_option maxHeartbeats 1000000 in
set_option maxRecDepth 100000 in
/-- String: of a builder that holds at least one byte. -/
theorem bget (B b : Nat) (l : List UInt8) (w : World) (h : Bd B b l w) (h0 : l ≠ []) :
    Calls Tryz.prog 59 #[.pointer (some ⟨b, 0, none⟩)] w fun e w' => e = .returned (.string ⟨l.toArray⟩) ∧ Below B w w' := by
  obtain ⟨p, hp, hAt⟩ : ∃ p, (p = .pointer none ∨ p = .pointer (some ⟨b, 0, none⟩)) ∧ Lib.BuilderAtF 117 5 B b p (Lib.byteCells l) w := by
    rcases h with h | h
    · exact ⟨_, .inl rfl, h⟩
    · exact ⟨_, .inr rfl, h⟩
  obtain ⟨hB, v, hbk, hown, hne⟩ := hAt
  have hl0 : l.length ≠ 0 := by simpa using h0
  rw [Lib.byteCells_length] at hown
  obtain ⟨g, cap, cur, fz, rfl, hbg, hg, hfz, hnc, hcm, hcs, htake⟩ : ∃ g cap cur fz, v = .slice (some ⟨g, 0, none⟩) l.length cap ∧ B ≤ g ∧ w.heap[g]? = some (.cells cur 5 fz) ∧ fz.2 ≤ l.length * 1 ∧ l.length ≤ cap ∧ cap ≤ maxLen ∧ cur.size = cap * 1 ∧ cur.toList.take (l.length * 1) = Lib.byteCells l := by
    rcases hown.2 with ⟨_, hz⟩ | ⟨g, cap, cur, fz, hv, r⟩
    · exact absurd hz hl0
    · exact ⟨g, cap, cur, fz, hv, r⟩
  have c1 : w.drew.cell? ⟨b, 1, none⟩ = some (.slice (some ⟨g, 0, none⟩) l.length cap) := by
    have : w.drew.heap[b]? = some (.cells #[p, .slice (some ⟨g, 0, none⟩) l.length cap] 117 (0, 0)) := hbk
    rw [Lib.cell_of_heap this]; rfl
  have hSD : (Builtin.unsafeSliceData_ #[115] 153 #[.slice (some ⟨g, 0, none⟩) l.length cap]).run Tryz.prog w.drew = .ok (.pointer (some ⟨g, 0, none⟩)) w.drew :=
    Lib.run_unsafeSliceData_row _ _ _ _ _ _ (by omega)
  have hUS : (Builtin.unsafeString_ #[153, 3] 9 #[.pointer (some ⟨g, 0, none⟩), .int .i64 l.length]).run Tryz.prog w.drew = .ok (.string ⟨l.toArray⟩) (w.drew.freeze ⟨g, 0, none⟩ l.length) := by
    refine Lib.run_unsafeString_row w.drew 153 3 9 5 Tryz.underlying153 (by kernel_rfl) g cur.size (by have hg' : w.drew.heap[g]? = some (.cells cur 5 fz) := hg; simp [World.shape?, hg']) l h0 (by omega) (by unfold maxLen at hcm; omega) ?_
    intro j x hx
    have := hown.cells (g := g) rfl j (.int .u8 x.toNat) (by simp [Lib.byteCells, hx])
    exact this
  have mixed : Tryz.prog.follows .mixedOrders = true := by kernel_rfl
  go_enter Tryz.func59, Tryz.ntmps59
  go_wp2
  go_region_o
  all_goals (go_wp2; go_ret; exact ⟨rfl, Lib.below_freeze (Below.drew (Below.refl B w)) (p := ⟨g, 0, none⟩) hbg _⟩)
end Go.Proofs.YtnfpicnigfmbdaaGreatDoor
namespace Go.Proofs.YtnfpicnigfmbdaaGreatDoor
open Go.RowKit Go.Xt
/-! Key: what it returns; its parts. -/
def numK (z : Int) : List UInt8 := Lib.decDigits z.toNat ++ [32]
def strB (b : Bool) : List UInt8 := if b = true then [116, 114, 117, 101] else [102, 97, 108, 115, 101]
def boolK (b : Bool) : List UInt8 := strB b ++ [32]
def thK (x : Th) : List UInt8 := boolK x.se ++ boolK x.op ++ boolK x.mo ++ numK x.lo ++ numK x.hi
def prK (q : Int × Int) : List UInt8 := numK q.1 ++ numK q.2
def keyB (s : Md) : List UInt8 := numK s.slots ++ numK s.th.length ++ s.th.flatMap thK ++ s.l.flatMap prK
def Th.U (x : Th) : Prop := (0 ≤ x.lo ∧ x.lo < 18446744073709551616) ∧ 0 ≤ x.hi ∧ x.hi < 18446744073709551616
/-- The numbers of a state that Key writes. -/
def Md.Nums (s : Md) : Prop := (0 ≤ s.slots ∧ s.slots < 9223372036854775808) ∧ ∀ x ∈ s.th, x.U
theorem numK_len {z : Int} (h : 0 ≤ z ∧ z < 18446744073709551616) : (numK z).length ≤ 21 := by
  have := dec_len z.toNat (by omega)
  simp [numK]; omega
theorem numK_nat (n : Nat) : numK (n : Int) = Lib.decDigits n ++ [32] := by simp [numK]
theorem boolK_len (b : Bool) : (boolK b).length ≤ 6 := by cases b <;> simp [boolK, strB]
theorem thK_len {x : Th} (h : x.U) : (thK x).length ≤ 60 := by
  have h1 := numK_len h.1
  have h2 := numK_len h.2
  have h3 := boolK_len x.se
  have h4 := boolK_len x.op
  have h5 := boolK_len x.mo
  simp only [thK, List.length_append]; omega
theorem flat_len {α : Type} (f : α → List UInt8) (c : Nat) : ∀ (l : List α), (∀ x ∈ l, (f x).length ≤ c) → (l.flatMap f).length ≤ c * l.length
  | [], _ => by simp
  | x :: l, h => by
    have h1 := flat_len f c l (fun y hy => h y (by simp [hy]))
    have h2 := h x (by simp)
    rw [List.flatMap_cons, List.length_append, List.length_cons, Nat.mul_succ]; omega
theorem take_flat {α : Type} (f : α → List UInt8) {l : List α} {k : Nat} {x : α} (h : l[k]? = some x) : (l.take (k + 1)).flatMap f = (l.take k).flatMap f ++ f x := by
  obtain ⟨p, e⟩ := List.getElem?_eq_some_iff.1 h
  rw [List.take_succ_eq_append_getElem p, e]; simp
-- worlds that hold a builder
theorem Ok5.refl (b : Nat) (w : World) : Ok5 b w w := Lib.OthersKept.refl _ _ w
theorem Ok5.of_nw {b : Nat} {w w' : World} (h : Nw w w') : Ok5 b w w' := fun k o hk _ _ => by
  rw [h.grown.block k (Array.getElem?_eq_some_iff.1 hk).1 (by simp)]; exact hk
theorem Bd.nw {B b : Nat} {bs : List UInt8} {w w' : World} (h : Bd B b bs w) (hn : Nw w w') : Bd B b bs w' := by
  have aux : ∀ p, Lib.BuilderAtF 117 5 B b p (Lib.byteCells bs) w → Lib.BuilderAtF 117 5 B b p (Lib.byteCells bs) w' := by
    rintro p ⟨hB, v, hb, hown, hne⟩
    exact ⟨hB, v, (hn.grown.block b (Array.getElem?_eq_some_iff.1 hb).1 (by simp)).trans hb, hown.kept hn.grown (by cases hv : v.ownBlock <;> simp), hne⟩
  exact h.elim (fun x => .inl (aux _ x)) (fun x => .inr (aux _ x))
theorem nw_bel {w W W' : World} (h : Nw w W) (hb : Below w.heap.size W W') : Nw w W' := .of_below (h.below.trans hb)
theorem bel_nw {B : Nat} {w w' : World} (h : Nw w w') (hB : B ≤ w.heap.size) : Below B w w' := h.below.mono hB
theorem Bd.zero (w : World) : Bd w.heap.size w.heap.size [] (w.alloc (.cells #[.pointer none, .slice none 0 0] 117)) :=
  .inl ⟨Nat.le_refl _, _, heap_alloc_new w _, World.ownsRowF_nil _ _ _ _, by simp [Value.ownBlock]⟩
theorem Ok5.cells {b : Nat} {w w' : World} (h : Ok5 b w w') {k : Nat} {c : Array Value} {T : TypeId} {fz : Nat × Nat} (hk : w.heap[k]? = some (.cells c T fz)) (hb : k ≠ b) (hT : T ≠ 5) : w'.heap[k]? = some (.cells c T fz) :=
  h k _ hk (fun e => hb (Option.some.inj e)) (fun c' fz' e => by injection e with _ e _; exact hT e)
theorem nw_cells {w w' : World} (h : Nw w w') {k : Nat} {o : Obj} (hk : w.heap[k]? = some o) : w'.heap[k]? = some o := by
  rw [h.grown.block k (Array.getElem?_eq_some_iff.1 hk).1 (by simp)]; exact hk
theorem ifbool_any (b : Bool) (w : World) : Calls Tryz.prog 79 #[.bool b] w fun e w' => e = .returned (.string ⟨(strB b).toArray⟩) ∧ w' = w := by
  cases b <;>
  · go_enter Tryz.func79, Tryz.ntmps79
    go_wp2
    go_ret
    exact ⟨rfl, rfl⟩
theorem fbool_any (b : Bool) (w : World) : Calls Tryz.prog 57 #[.bool b] w fun e w' => e = .returned (.string ⟨(strB b).toArray⟩) ∧ w' = w := by
  go_enter Tryz.func57, Tryz.ntmps57
  go_wp2_with fail
  refine (ifbool_any b w).mono ?_
  rintro e w' ⟨rfl, rfl⟩
  go_wp2
  go_ret
  exact ⟨rfl, rfl⟩
/-- One number and a blank. -/
theorem number_any (B b : Nat) (bs : List UInt8) (n : Nat) (w : World) (h : Bd B b bs w) (hn : n < 18446744073709551616) (hl : bs.length ≤ 1000000000000) (H : FmtAt w) (hB : B ≤ w.heap.size) :
    Calls Tryz.prog 53 #[.int .u64 n, .pointer (some ⟨b, 0, none⟩)] w fun e w' => e = .returned (.tuple #[]) ∧ Bd B b (bs ++ numK n) w' ∧ Below B w w' ∧ Ok5 b w w' := by
  have hd := dec_len n hn
  have HF := Lib.hid (fmt_any w H n hn)
  have HB := Lib.hid h
  clear H h
  go_enter Tryz.func53, Tryz.ntmps53
  go_wp2_with fail
  refine HF.out.mono ?_
  rintro e w1 ⟨rfl, hn1⟩
  have h1 := HB.out.nw hn1
  have l1 := bel_nw hn1 hB
  have o1 : Ok5 b w w1 := Ok5.of_nw hn1
  have H1 := Lib.hid h1
  clear h1
  go_wp2_with fail
  refine (bstr B b bs _ w1 H1.out (by omega) (by have := l1.size; omega)).mono ?_
  rintro e w2 ⟨rfl, h2, l2, o2⟩
  have H2 := Lib.hid h2
  clear h2
  go_wp2_with fail
  have c3 := bbyte B b _ 32 w2 H2.out (by simp; omega) (by have := l1.size; have := l2.size; omega)
  refine Calls.mono (by exact c3) ?_
  rintro e w3 ⟨rfl, h3, l3, o3⟩
  have H3 := Lib.hid h3
  clear h3
  go_wp2
  go_end0
  refine ⟨rfl, ?_, (l1.trans l2).trans l3, (o1.trans o2).trans o3⟩
  rw [numK_nat, ← List.append_assoc]
  exact H3.out
end Go.Proofs.YtnfpicnigfmbdaaGreatDoor
namespace Go.Proofs.YtnfpicnigfmbdaaGreatDoor
open Go.RowKit Go.Xt
/-! Key and ModelRefuses, plain. -/
/-- ErrRetry is accepted exactly of an operation that uses the map and is done. -/
def usesK (k : Int) : Bool := decide (k = 3) || (decide (4 ≤ k) && decide (k ≤ 9)) || decide (k = 10) || decide (k = 12)
def doneM (s : Md) (t : Int) (o : Ox) : Bool := decide ((doM s t o).1.err = 0) || (decide ((doM s t o).1.err = 14) && decide (keyB (doM s t o).2 ≠ keyB s))
end Go.Proofs.YtnfpicnigfmbdaaGreatDoor
namespace Go.Proofs.YtnfpicnigfmbdaaGreatDoor
open Go.RowKit Go.Xt
/-! Key tells the state, plain. -/
/-- No blank. -/
def nbl (w : List UInt8) : Prop := ∀ c ∈ w, c ≠ 32
theorem nbl_cut : ∀ {a b : List UInt8} {x y : List UInt8}, nbl a → nbl b → a ++ 32 :: x = b ++ 32 :: y → a = b ∧ x = y
  | [], [], x, y, _, _, h => ⟨rfl, by simpa using h⟩
  | [], c :: b, x, y, _, hb, h => by
    simp only [List.nil_append, List.cons_append, List.cons.injEq] at h
    exact absurd h.1.symm (hb c (by simp))
  | c :: a, [], x, y, ha, _, h => by
    simp only [List.nil_append, List.cons_append, List.cons.injEq] at h
    exact absurd h.1 (ha c (by simp))
  | c :: a, d :: b, x, y, ha, hb, h => by
    simp only [List.cons_append, List.cons.injEq] at h
    obtain ⟨rfl, h⟩ := h
    obtain ⟨rfl, h2⟩ := nbl_cut (fun e he => ha e (by simp [he])) (fun e he => hb e (by simp [he])) h
    exact ⟨rfl, h2⟩
theorem dgt_val {d : Nat} (hd : d < 10) : (UInt8.ofNat (48 + d)).toNat = 48 + d := by
  rw [UInt8.toNat_ofNat']; omega
theorem dec_nbl (u : Nat) : nbl (Lib.decDigits u) := by
  induction u using Nat.strongRecOn with
  | ind u ih =>
    have hd : ∀ d, d < 10 → UInt8.ofNat (48 + d) ≠ 32 := fun d hd e => by
      have := congrArg UInt8.toNat e
      rw [dgt_val hd] at this
      simp at this; omega
    intro c hc
    by_cases h : u < 10
    · rw [Lib.decDigits_one h, List.mem_singleton] at hc; subst hc; exact hd u h
    · rw [Lib.decDigits, dif_neg h] at hc
      rcases List.mem_append.1 hc with hc | hc
      · exact ih (u / 10) (by omega) c hc
      · rw [List.mem_singleton] at hc; subst hc; exact hd (u % 10) (by omega)
/-- The value of digits. -/
def valD (l : List UInt8) : Nat := l.foldl (fun n c => 10 * n + (c.toNat - 48)) 0
theorem val_decD (u : Nat) : valD (Lib.decDigits u) = u := by
  induction u using Nat.strongRecOn with
  | ind u ih =>
    by_cases h : u < 10
    · rw [Lib.decDigits_one h]
      simp only [valD, List.foldl_cons, List.foldl_nil]
      rw [dgt_val h]; omega
    · rw [Lib.decDigits, dif_neg h]
      unfold valD
      rw [List.foldl_append]
      have := ih (u / 10) (by omega)
      unfold valD at this
      rw [this]
      simp only [List.foldl_cons, List.foldl_nil]
      rw [dgt_val (by omega)]; omega
theorem numK_inj {a b : Int} {x y : List UInt8} (ha : 0 ≤ a) (hb : 0 ≤ b) (h : numK a ++ x = numK b ++ y) : a = b ∧ x = y := by
  unfold numK at h
  simp only [List.append_assoc, List.singleton_append] at h
  obtain ⟨h1, h2⟩ := nbl_cut (dec_nbl _) (dec_nbl _) h
  have h3 := congrArg valD h1
  rw [val_decD, val_decD] at h3
  exact ⟨by omega, h2⟩
theorem boolK_inj {a b : Bool} {x y : List UInt8} (h : boolK a ++ x = boolK b ++ y) : a = b ∧ x = y := by
  cases a <;> cases b <;> simp [boolK, strB] at h ⊢ <;> exact h
theorem thK_inj {a b : Th} {x y : List UInt8} (ha : a.U) (hb : b.U) (h : thK a ++ x = thK b ++ y) : a = b ∧ x = y := by
  obtain ⟨a1, a2, a3, a4, a5⟩ := a
  obtain ⟨b1, b2, b3, b4, b5⟩ := b
  unfold thK at h
  simp only [List.append_assoc] at h
  obtain ⟨g1, h⟩ := boolK_inj h
  obtain ⟨g2, h⟩ := boolK_inj h
  obtain ⟨g3, h⟩ := boolK_inj h
  obtain ⟨e1, h⟩ := numK_inj ha.1.1 hb.1.1 h
  obtain ⟨e2, hxy⟩ := numK_inj ha.2.1 hb.2.1 h
  clear h
  simp only at e1 e2 g1 g2 g3
  subst e1 e2 g1 g2 g3
  exact ⟨rfl, hxy⟩
theorem ths_inj : ∀ {a b : List Th} {x y : List UInt8}, a.length = b.length → (∀ t ∈ a, t.U) → (∀ t ∈ b, t.U) → a.flatMap thK ++ x = b.flatMap thK ++ y → a = b ∧ x = y
  | [], [], _, _, _, _, _, h => ⟨rfl, by simpa using h⟩
  | [], _ :: _, _, _, h, _, _, _ => by simp at h
  | _ :: _, [], _, _, h, _, _, _ => by simp at h
  | p :: a, q :: b, x, y, hl, ha, hb, h => by
    rw [List.flatMap_cons, List.flatMap_cons, List.append_assoc, List.append_assoc] at h
    obtain ⟨e1, h⟩ := thK_inj (ha p (by simp)) (hb q (by simp)) h
    obtain ⟨e2, h⟩ := ths_inj (by simpa using hl) (fun t ht => ha t (by simp [ht])) (fun t ht => hb t (by simp [ht])) h
    exact ⟨by rw [e1, e2], h⟩
theorem prs_inj : ∀ {a b : List (Int × Int)}, U64s a → U64s b → a.flatMap prK = b.flatMap prK → a = b
  | [], [], _, _, _ => rfl
  | [], q :: b, _, _, h => by
    have := congrArg List.length h
    rw [List.flatMap_cons] at this
    simp [prK, numK] at this
  | p :: a, [], _, _, h => by
    have := congrArg List.length h
    rw [List.flatMap_cons] at this
    simp [prK, numK] at this
  | p :: a, q :: b, ha, hb, h => by
    have hp := ha p (by simp)
    have hq := hb q (by simp)
    obtain ⟨p1, p2⟩ := p
    obtain ⟨q1, q2⟩ := q
    rw [List.flatMap_cons, List.flatMap_cons] at h
    unfold prK at h
    simp only [List.append_assoc] at h
    obtain ⟨e1, h⟩ := numK_inj hp.1.1 hq.1.1 h
    obtain ⟨e2, h⟩ := numK_inj hp.2.1 hq.2.1 h
    have h3 := prs_inj (a := a) (b := b) (fun z hz => ha z (by simp [hz])) (fun z hz => hb z (by simp [hz])) (by unfold prK; exact h)
    subst h3
    subst e1 e2
    rfl
/-- Keys are equal for equal states only. -/
theorem keyB_inj {s s' : Md} (hs : s.Nums) (hs' : s'.Nums) (hl : U64s s.l) (hl' : U64s s'.l) (h : keyB s = keyB s') : s.slots = s'.slots ∧ s.th = s'.th ∧ s.l = s'.l := by
  unfold keyB at h
  simp only [List.append_assoc] at h
  obtain ⟨e1, h⟩ := numK_inj hs.1.1 hs'.1.1 h
  obtain ⟨e2, h⟩ := numK_inj (by omega) (by omega) h
  obtain ⟨e3, h⟩ := ths_inj (by omega) hs.2 hs'.2 h
  exact ⟨e1, e3, prs_inj hl hl' h⟩
end Go.Proofs.YtnfpicnigfmbdaaGreatDoor
