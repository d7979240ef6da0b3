import Derived.Test.YtmbjpjpdcmjjgaaGreatDoorGSlay
import Derived.Shelf.Strings.BuilderK
import Derived.Test.YtmbjpjpdcmjjgaaGreatDoorGRg
set_option linter.unusedVariables false
set_option linter.unusedSimpArgs false
set_option linter.unnecessarySimpa false
namespace Go.Proofs.YtmbjpjpdcmjjgaaGreatDoor
open Go.RowKit Go.Xt
def Bd (B b : Nat) (bs : List UInt8) (w : World) : Prop := Lib.IsBuilderF 119 5 B b (Lib.byteCells bs) w
def Ok5 (b : Nat) (w w' : World) : Prop := Lib.OthersKept 5 (some b) w w'
set_option maxRecDepth 100000 in
theorem bfresh (b : Nat) (w : World) (h0 : w.cell? ⟨b, 0, none⟩ = some (.pointer none)) (hsh : w.shape? b = some (119, 2)) (hfz : w.frozen? ⟨b, 0, none⟩ = false) :
    Calls Tryz.prog 81 #[.pointer (some ⟨b, 0, none⟩)] w fun e w' => e = .returned (.tuple #[]) ∧ w' = w.setCell ⟨b, 0, none⟩ (.pointer (some ⟨b, 0, none⟩)) := by
  obtain ⟨j, hj, hjs⟩ : ∃ j, Tryz.prog.info? 119 = some j ∧ j.size = 2 := Option.map_eq_some_iff.1 (show (Tryz.prog.info? 119).map (·.size) = some 2 from by kernel_rfl)
  go_enter Tryz.func81, Tryz.ntmps81
  go_wp2
  rw [Lib.run_to_unsafe w ⟨b, 0, none⟩ Tryz.underlying116 Tryz.underlying170 hj (by rw [hjs]; decide) hsh (Nat.zero_lt_succ 1)]
  simp only [Result.andThen]
  rw [Oper.upon_value]
  go_wp2
  rw [run_callFunc_extern Tryz.func113 (by kernel_rfl) (by kernel_rfl) (by kernel_rfl) (e := Extern.AbiNoEscape.same) (by kernel_rfl)]
  rw [Lib.run_noEscape]
  simp only [Result.andThen]
  rw [Oper.upon_value]
  go_wp2
  rw [Lib.run_from_unsafe w ⟨b, 0, none⟩ Tryz.underlying170 Tryz.underlying116 hj hsh (by kernel_rfl)]
  simp only [Result.andThen]
  rw [Oper.upon_value]
  go_wp2
  go_end0
  exact ⟨rfl, rfl⟩
set_option maxRecDepth 100000 in
theorem bused (b : Nat) (w : World) (h0 : w.cell? ⟨b, 0, none⟩ = some (.pointer (some ⟨b, 0, none⟩))) :
    Calls Tryz.prog 81 #[.pointer (some ⟨b, 0, none⟩)] w fun e w' => e = .returned (.tuple #[]) ∧ w' = w := by
  go_enter Tryz.func81, Tryz.ntmps81
  go_wp2
  obtain ⟨j, hj, _⟩ : ∃ j, Tryz.prog.info? 119 = some j ∧ j.size = 2 := Option.map_eq_some_iff.1 (show (Tryz.prog.info? 119).map (·.size) = some 2 from by kernel_rfl)
  rw [Lib.run_neq_ptr_same w _ Tryz.underlying116 hj]
  go_wp2
  go_end0
  exact ⟨rfl, rfl⟩
theorem bcheck (B b : Nat) (bs : List Value) (w : World) (h : Lib.IsBuilderF 119 5 B b bs w) :
    Calls Tryz.prog 81 #[.pointer (some ⟨b, 0, none⟩)] w fun e w' => e = .returned (.tuple #[]) ∧ (Lib.BuilderAtF 119 5 B b (.pointer (some ⟨b, 0, none⟩)) bs w' ∧ Below B w w' ∧ Ok5 b w w') := by
  rcases h with h | h
  · refine (bfresh b w h.cell0 h.shape h.frozen0).mono ?_
    rintro e w' ⟨rfl, rfl⟩
    exact ⟨rfl, h.used _, (Below.refl B w).setCell (p := ⟨b, 0, none⟩) h.1 _, (Lib.OthersKept.refl _ _ w).setCell ⟨b, 0, none⟩ rfl _⟩
  · refine (bused b w h.cell0).mono ?_
    rintro e w' ⟨rfl, rfl⟩
    exact ⟨rfl, h, Below.refl B _, Lib.OthersKept.refl _ _ _⟩
theorem byte_info : ∃ i0, Tryz.prog.info? 5 = some i0 ∧ i0.zero = some (.int .u8 0) ∧ i0.size = 1 ∧ i0.bytes = 1 := by
  obtain ⟨i, hi, he⟩ := Option.map_eq_some_iff.1 (show (Tryz.prog.info? 5).map (fun i => (i.zero, i.size, i.bytes)) = some (some (.int .u8 0), 1, 1) from by kernel_rfl)
  simp only [Prod.mk.injEq] at he
  exact ⟨i, hi, he.1, he.2.1, he.2.2⟩
set_option maxHeartbeats 2000000 in
set_option maxRecDepth 100000 in
theorem bbyte (B b : Nat) (bs : List UInt8) (c : UInt8) (w : World) (h : Bd B b bs w) (hlen : bs.length + 1 ≤ 140737488355328) (hBw : B ≤ w.heap.size) :
    Calls Tryz.prog 58 #[.pointer (some ⟨b, 0, none⟩), .int .u8 (c.toNat : Int)] w fun e w' => e = .returned .nilIface ∧ Bd B b (bs ++ [c]) w' ∧ Below B w w' ∧ Ok5 b w w' := by
  obtain ⟨i0, hi, hz0, hz1, hz2⟩ := byte_info
  unfold Bd at h
  go_enter Tryz.func58, Tryz.ntmps58
  go_wp2_with (go_at_call 81; refine (bcheck B b (Lib.byteCells bs) _ h).mono ?_)
  rintro e w1 ⟨rfl, h1, hb1, hk1⟩
  obtain ⟨hB, v, hbk, hown, hne⟩ := h1
  have c0 : w1.cell? ⟨b, 0, none⟩ = some (.pointer (some ⟨b, 0, none⟩)) := by rw [Lib.cell_of_heap hbk]; rfl
  have c1 : w1.cell? ⟨b, 1, none⟩ = some v := by rw [Lib.cell_of_heap hbk]; rfl
  go_wp2_with (at_builtin; refine wpList_append_ownF _ rfl _ _ 117 rfl B 5 i0 (.int .u8 0) 1 1 Tryz.underlying117 hi hz0 hz1 hz2 rfl (by decide) _ _ _ rfl (hown.alloc _) ⟨w1.heap.size, 0, none⟩ 1 1 [.int .u8 (c.toNat : Int)] rfl rfl ?c1 ?c2 ?c3 ?c4 ?c5 ?_)
  case c1 =>
    intro j u hj
    match j, hj with
    | 0, hj => simp at hj; subst hj; simp [Addr.add]
  case c2 => intro u hu; simp at hu; subst hu; rfl
  case c3 => unfold maxLen; rw [Lib.byteCells_length]; omega
  case c4 => rw [Lib.byteCells_length]; omega
  case c5 => have := hb1.size; simp; omega
  intro v' w2 hown' hgrow _
  have hlt : b < w1.heap.size := by
    rcases Nat.lt_or_ge b w1.heap.size with h' | h'
    · exact h'
    · simp [Array.getElem?_eq_none h'] at hbk
  have hb2 : w2.heap[b]? = some (.cells #[.pointer (some ⟨b, 0, none⟩), v] 119 (0, 0)) := by
    rw [hgrow.block b (by simp; omega) (fun e => hne e.symm), Lib.alloc_old w1 _ b hlt]
    exact hbk
  have d0 : w2.cell? ⟨b, 0, none⟩ = some (.pointer (some ⟨b, 0, none⟩)) := by rw [Lib.cell_of_heap hb2]; rfl
  have d1 : w2.cell? ⟨b, 1, none⟩ = some v := by rw [Lib.cell_of_heap hb2]; rfl
  have f1 : w2.frozen? ⟨b, 1, none⟩ = false := Lib.frozen_of_heap hb2 1
  obtain ⟨ao, n', cap, rfl⟩ : ∃ ao n' cap, v' = .slice ao n' cap := by
    rcases hown'.2 with ⟨hv, _⟩ | ⟨g, cap, cur, fz, hv, _⟩
    · exact ⟨_, _, _, hv⟩
    · exact ⟨_, _, _, hv⟩
  go_wp2
  go_ret
  refine ⟨rfl, Or.inr ?_, ?_, ((hk1.alloc _).grown hgrow (Lib.ownsRowF_kind (hown.alloc _))).setCell ⟨b, 1, none⟩ rfl _⟩
  · exact Lib.BuilderAtF.put (T := 119) (e := 5) hB hb2 (bs' := Lib.byteCells (bs ++ [c])) (by simpa [Lib.byteCells] using hown') (by decide)
  · exact ((hb1.alloc (by have := hb1.size; omega) _).grown hgrow (by have := hb1.size; simp; omega) (fun k hk => (hown.lt k hk).1)).setCell (p := ⟨b, 1, none⟩) hB _
theorem strC (l : List UInt8) : Lib.strCells ⟨l.toArray⟩ = Lib.byteCells l := by
  simp [Lib.strCells, Lib.byteCells]
set_option maxHeartbeats 2000000 in
set_option maxRecDepth 100000 in
theorem bstr (B b : Nat) (bs l : List UInt8) (w : World) (h : Bd B b bs w) (hlen : bs.length + l.length ≤ 140737488355328) (hBw : B ≤ w.heap.size) :
    Calls Tryz.prog 56 #[.pointer (some ⟨b, 0, none⟩), .string ⟨l.toArray⟩] w fun e w' => e = .returned (.tuple #[.int .i64 l.length, .nilIface]) ∧ Bd B b (bs ++ l) w' ∧ Below B w w' ∧ Ok5 b w w' := by
  obtain ⟨i0, hi, hz0, hz1, hz2⟩ := byte_info
  unfold Bd at h
  have hsz : (⟨l.toArray⟩ : ByteArray).size = l.length := by simp [ByteArray.size]
  go_enter Tryz.func56, Tryz.ntmps56
  go_wp2_with (go_at_call 81; refine (bcheck B b (Lib.byteCells bs) _ h).mono ?_)
  rintro e w1 ⟨rfl, h1, hb1, hk1⟩
  obtain ⟨hB, v, hbk, hown, hne⟩ := h1
  have c0 : w1.cell? ⟨b, 0, none⟩ = some (.pointer (some ⟨b, 0, none⟩)) := by rw [Lib.cell_of_heap hbk]; rfl
  have c1 : w1.cell? ⟨b, 1, none⟩ = some v := by rw [Lib.cell_of_heap hbk]; rfl
  go_wp2_with (at_builtin; refine Lib.wpList_append_own_stringF _ rfl _ _ 117 9 rfl B 5 i0 Tryz.underlying117 Tryz.underlying9 hi hz0 hz1 hz2 _ _ _ rfl hown ⟨l.toArray⟩ rfl ?c3 ?c4 ?c5 ?_)
  case c3 => unfold maxLen; rw [hsz, Lib.byteCells_length]; omega
  case c4 => rw [hsz, Lib.byteCells_length]; omega
  case c5 => have := hb1.size; omega
  intro v' w2 hown' hgrow _
  have hlt : b < w1.heap.size := by
    rcases Nat.lt_or_ge b w1.heap.size with h' | h'
    · exact h'
    · simp [Array.getElem?_eq_none h'] at hbk
  have hb2 : w2.heap[b]? = some (.cells #[.pointer (some ⟨b, 0, none⟩), v] 119 (0, 0)) := by
    rw [hgrow.block b hlt (fun e => hne e.symm)]
    exact hbk
  have d0 : w2.cell? ⟨b, 0, none⟩ = some (.pointer (some ⟨b, 0, none⟩)) := by rw [Lib.cell_of_heap hb2]; rfl
  have d1 : w2.cell? ⟨b, 1, none⟩ = some v := by rw [Lib.cell_of_heap hb2]; rfl
  have f1 : w2.frozen? ⟨b, 1, none⟩ = false := Lib.frozen_of_heap hb2 1
  obtain ⟨ao, n', cap, rfl⟩ : ∃ ao n' cap, v' = .slice ao n' cap := by
    rcases hown'.2 with ⟨hv, _⟩ | ⟨g, cap, cur, fz, hv, _⟩
    · exact ⟨_, _, _, hv⟩
    · exact ⟨_, _, _, hv⟩
  go_wp2
  go_ret2
  refine ⟨by rfl, Or.inr ?_, ?_, (hk1.grown hgrow (Lib.ownsRowF_kind hown)).setCell ⟨b, 1, none⟩ rfl _⟩
  · rw [strC] at hown'
    exact Lib.BuilderAtF.put (T := 119) (e := 5) hB hb2 (bs' := Lib.byteCells (bs ++ l)) (by simpa [Lib.byteCells] using hown') (by decide)
  · exact (hb1.grown hgrow (by have := hb1.size; omega) (fun k hk => (hown.lt k hk).1)).setCell (p := ⟨b, 1, none⟩) hB _
set_option maxHeartbeats 1000000 in
set_option maxRecDepth 100000 in
theorem bget (B b : Nat) (l : List UInt8) (w : World) (h : Bd B b l w) (h0 : l ≠ []) :
    Calls Tryz.prog 61 #[.pointer (some ⟨b, 0, none⟩)] w fun e w' => e = .returned (.string ⟨l.toArray⟩) ∧ Below B w w' := by
  obtain ⟨p, hp, hAt⟩ : ∃ p, (p = .pointer none ∨ p = .pointer (some ⟨b, 0, none⟩)) ∧ Lib.BuilderAtF 119 5 B b p (Lib.byteCells l) w := by
    rcases h with h | h
    · exact ⟨_, .inl rfl, h⟩
    · exact ⟨_, .inr rfl, h⟩
  obtain ⟨hB, v, hbk, hown, hne⟩ := hAt
  have hl0 : l.length ≠ 0 := by simpa using h0
  rw [Lib.byteCells_length] at hown
  obtain ⟨g, cap, cur, fz, rfl, hbg, hg, hfz, hnc, hcm, hcs, htake⟩ : ∃ g cap cur fz, v = .slice (some ⟨g, 0, none⟩) l.length cap ∧ B ≤ g ∧ w.heap[g]? = some (.cells cur 5 fz) ∧ fz.2 ≤ l.length * 1 ∧ l.length ≤ cap ∧ cap ≤ maxLen ∧ cur.size = cap * 1 ∧ cur.toList.take (l.length * 1) = Lib.byteCells l := by
    rcases hown.2 with ⟨_, hz⟩ | ⟨g, cap, cur, fz, hv, r⟩
    · exact absurd hz hl0
    · exact ⟨g, cap, cur, fz, hv, r⟩
  have c1 : w.drew.cell? ⟨b, 1, none⟩ = some (.slice (some ⟨g, 0, none⟩) l.length cap) := by
    have : w.drew.heap[b]? = some (.cells #[p, .slice (some ⟨g, 0, none⟩) l.length cap] 119 (0, 0)) := hbk
    rw [Lib.cell_of_heap this]; rfl
  have hSD : (Builtin.unsafeSliceData_ #[117] 156 #[.slice (some ⟨g, 0, none⟩) l.length cap]).run Tryz.prog w.drew = .ok (.pointer (some ⟨g, 0, none⟩)) w.drew :=
    Lib.run_unsafeSliceData_row _ _ _ _ _ _ (by omega)
  have hUS : (Builtin.unsafeString_ #[156, 3] 9 #[.pointer (some ⟨g, 0, none⟩), .int .i64 l.length]).run Tryz.prog w.drew = .ok (.string ⟨l.toArray⟩) (w.drew.freeze ⟨g, 0, none⟩ l.length) := by
    refine Lib.run_unsafeString_row w.drew 156 3 9 5 Tryz.underlying156 (by kernel_rfl) g cur.size (by have hg' : w.drew.heap[g]? = some (.cells cur 5 fz) := hg; simp [World.shape?, hg']) l h0 (by omega) (by unfold maxLen at hcm; omega) ?_
    intro j x hx
    have := hown.cells (g := g) rfl j (.int .u8 x.toNat) (by simp [Lib.byteCells, hx])
    exact this
  have mixed : Tryz.prog.follows .mixedOrders = true := by kernel_rfl
  go_enter Tryz.func61, Tryz.ntmps61
  go_wp2
  go_region_o
  all_goals (go_wp2; go_ret; exact ⟨rfl, Lib.below_freeze (Below.drew (Below.refl B w)) (p := ⟨g, 0, none⟩) hbg _⟩)
end Go.Proofs.YtmbjpjpdcmjjgaaGreatDoor
namespace Go.Proofs.YtmbjpjpdcmjjgaaGreatDoor
open Go.RowKit Go.Xt
/-! Key: what it returns; its parts. -/
def numK (z : Int) : List UInt8 := Lib.decDigits z.toNat ++ [32]
def strB (b : Bool) : List UInt8 := if b = true then [116, 114, 117, 101] else [102, 97, 108, 115, 101]
def boolK (b : Bool) : List UInt8 := strB b ++ [32]
def thK (x : Th) : List UInt8 := boolK x.se ++ boolK x.op ++ boolK x.mo ++ numK x.lo ++ numK x.hi
def prK (q : Int × Int) : List UInt8 := numK q.1 ++ numK q.2
def keyB (s : Md) : List UInt8 := numK s.slots ++ numK s.th.length ++ s.th.flatMap thK ++ s.l.flatMap prK
def Th.U (x : Th) : Prop := (0 ≤ x.lo ∧ x.lo < 18446744073709551616) ∧ 0 ≤ x.hi ∧ x.hi < 18446744073709551616
def Md.Nums (s : Md) : Prop := (0 ≤ s.slots ∧ s.slots < 9223372036854775808) ∧ ∀ x ∈ s.th, x.U
theorem numK_len {z : Int} (h : 0 ≤ z ∧ z < 18446744073709551616) : (numK z).length ≤ 21 := by
  have := dec_len z.toNat (by omega)
  simp [numK]; omega
theorem numK_nat (n : Nat) : numK (n : Int) = Lib.decDigits n ++ [32] := by simp [numK]
theorem boolK_len (b : Bool) : (boolK b).length ≤ 6 := by cases b <;> simp [boolK, strB]
theorem thK_len {x : Th} (h : x.U) : (thK x).length ≤ 60 := by
  have h1 := numK_len h.1
  have h2 := numK_len h.2
  have h3 := boolK_len x.se
  have h4 := boolK_len x.op
  have h5 := boolK_len x.mo
  simp only [thK, List.length_append]; omega
theorem flat_len {α : Type} (f : α → List UInt8) (c : Nat) : ∀ (l : List α), (∀ x ∈ l, (f x).length ≤ c) → (l.flatMap f).length ≤ c * l.length
  | [], _ => by simp
  | x :: l, h => by
    have h1 := flat_len f c l (fun y hy => h y (by simp [hy]))
    have h2 := h x (by simp)
    rw [List.flatMap_cons, List.length_append, List.length_cons, Nat.mul_succ]; omega
theorem take_flat {α : Type} (f : α → List UInt8) {l : List α} {k : Nat} {x : α} (h : l[k]? = some x) : (l.take (k + 1)).flatMap f = (l.take k).flatMap f ++ f x := by
  obtain ⟨p, e⟩ := List.getElem?_eq_some_iff.1 h
  rw [List.take_succ_eq_append_getElem p, e]; simp
-- worlds that hold a builder
theorem Ok5.refl (b : Nat) (w : World) : Ok5 b w w := Lib.OthersKept.refl _ _ w
theorem Ok5.of_nw {b : Nat} {w w' : World} (h : Nw w w') : Ok5 b w w' := fun k o hk _ _ => by
  rw [h.grown.block k (Array.getElem?_eq_some_iff.1 hk).1 (by simp)]; exact hk
theorem Bd.nw {B b : Nat} {bs : List UInt8} {w w' : World} (h : Bd B b bs w) (hn : Nw w w') : Bd B b bs w' := by
  have aux : ∀ p, Lib.BuilderAtF 119 5 B b p (Lib.byteCells bs) w → Lib.BuilderAtF 119 5 B b p (Lib.byteCells bs) w' := by
    rintro p ⟨hB, v, hb, hown, hne⟩
    exact ⟨hB, v, (hn.grown.block b (Array.getElem?_eq_some_iff.1 hb).1 (by simp)).trans hb, hown.kept hn.grown (by cases hv : v.ownBlock <;> simp), hne⟩
  exact h.elim (fun x => .inl (aux _ x)) (fun x => .inr (aux _ x))
theorem nw_bel {w W W' : World} (h : Nw w W) (hb : Below w.heap.size W W') : Nw w W' := .of_below (h.below.trans hb)
theorem bel_nw {B : Nat} {w w' : World} (h : Nw w w') (hB : B ≤ w.heap.size) : Below B w w' := h.below.mono hB
theorem Bd.zero (w : World) : Bd w.heap.size w.heap.size [] (w.alloc (.cells #[.pointer none, .slice none 0 0] 119)) :=
  .inl ⟨Nat.le_refl _, _, heap_alloc_new w _, World.ownsRowF_nil _ _ _ _, by simp [Value.ownBlock]⟩
theorem Ok5.cells {b : Nat} {w w' : World} (h : Ok5 b w w') {k : Nat} {c : Array Value} {T : TypeId} {fz : Nat × Nat} (hk : w.heap[k]? = some (.cells c T fz)) (hb : k ≠ b) (hT : T ≠ 5) : w'.heap[k]? = some (.cells c T fz) :=
  h k _ hk (fun e => hb (Option.some.inj e)) (fun c' fz' e => by injection e with _ e _; exact hT e)
theorem nw_cells {w w' : World} (h : Nw w w') {k : Nat} {o : Obj} (hk : w.heap[k]? = some o) : w'.heap[k]? = some o := by
  rw [h.grown.block k (Array.getElem?_eq_some_iff.1 hk).1 (by simp)]; exact hk
theorem ifbool_any (b : Bool) (w : World) : Calls Tryz.prog 83 #[.bool b] w fun e w' => e = .returned (.string ⟨(strB b).toArray⟩) ∧ w' = w := by
  cases b <;>
  · go_enter Tryz.func83, Tryz.ntmps83
    go_wp2
    go_ret
    exact ⟨rfl, rfl⟩
theorem fbool_any (b : Bool) (w : World) : Calls Tryz.prog 59 #[.bool b] w fun e w' => e = .returned (.string ⟨(strB b).toArray⟩) ∧ w' = w := by
  go_enter Tryz.func59, Tryz.ntmps59
  go_wp2_with fail
  refine (ifbool_any b w).mono ?_
  rintro e w' ⟨rfl, rfl⟩
  go_wp2
  go_ret
  exact ⟨rfl, rfl⟩
theorem number_any (B b : Nat) (bs : List UInt8) (n : Nat) (w : World) (h : Bd B b bs w) (hn : n < 18446744073709551616) (hl : bs.length ≤ 1000000000000) (H : FmtAt w) (hB : B ≤ w.heap.size) :
    Calls Tryz.prog 55 #[.int .u64 n, .pointer (some ⟨b, 0, none⟩)] w fun e w' => e = .returned (.tuple #[]) ∧ Bd B b (bs ++ numK n) w' ∧ Below B w w' ∧ Ok5 b w w' := by
  have hd := dec_len n hn
  have HF := Lib.hid (fmt_any w H n hn)
  have HB := Lib.hid h
  clear H h
  go_enter Tryz.func55, Tryz.ntmps55
  go_wp2_with fail
  refine HF.out.mono ?_
  rintro e w1 ⟨rfl, hn1⟩
  have h1 := HB.out.nw hn1
  have l1 := bel_nw hn1 hB
  have o1 : Ok5 b w w1 := Ok5.of_nw hn1
  have H1 := Lib.hid h1
  clear h1
  go_wp2_with fail
  refine (bstr B b bs _ w1 H1.out (by omega) (by have := l1.size; omega)).mono ?_
  rintro e w2 ⟨rfl, h2, l2, o2⟩
  have H2 := Lib.hid h2
  clear h2
  go_wp2_with fail
  have c3 := bbyte B b _ 32 w2 H2.out (by simp; omega) (by have := l1.size; have := l2.size; omega)
  refine Calls.mono (by exact c3) ?_
  rintro e w3 ⟨rfl, h3, l3, o3⟩
  have H3 := Lib.hid h3
  clear h3
  go_wp2
  go_end0
  refine ⟨rfl, ?_, (l1.trans l2).trans l3, (o1.trans o2).trans o3⟩
  rw [numK_nat, ← List.append_assoc]
  exact H3.out
end Go.Proofs.YtmbjpjpdcmjjgaaGreatDoor
namespace Go.Proofs.YtmbjpjpdcmjjgaaGreatDoor
open Go.RowKit Go.Xt
/-! Key and ModelRefuses, plain. -/
def usesK (k : Int) : Bool := decide (k = 3) || (decide (4 ≤ k) && decide (k ≤ 9)) || decide (k = 10) || decide (k = 12)
def doneM (s : Md) (t : Int) (o : Ox) : Bool := decide ((doM s t o).1.err = 0) || (decide ((doM s t o).1.err = 14) && decide (keyB (doM s t o).2 ≠ keyB s))
end Go.Proofs.YtmbjpjpdcmjjgaaGreatDoor
namespace Go.Proofs.YtmbjpjpdcmjjgaaGreatDoor
open Go.RowKit Go.Xt
/-! Key tells the state, plain. -/
def nbl (w : List UInt8) : Prop := ∀ c ∈ w, c ≠ 32
theorem nbl_cut : ∀ {a b : List UInt8} {x y : List UInt8}, nbl a → nbl b → a ++ 32 :: x = b ++ 32 :: y → a = b ∧ x = y
  | [], [], x, y, _, _, h => ⟨rfl, by simpa using h⟩
  | [], c :: b, x, y, _, hb, h => by
    simp only [List.nil_append, List.cons_append, List.cons.injEq] at h
    exact absurd h.1.symm (hb c (by simp))
  | c :: a, [], x, y, ha, _, h => by
    simp only [List.nil_append, List.cons_append, List.cons.injEq] at h
    exact absurd h.1 (ha c (by simp))
  | c :: a, d :: b, x, y, ha, hb, h => by
    simp only [List.cons_append, List.cons.injEq] at h
    obtain ⟨rfl, h⟩ := h
    obtain ⟨rfl, h2⟩ := nbl_cut (fun e he => ha e (by simp [he])) (fun e he => hb e (by simp [he])) h
    exact ⟨rfl, h2⟩
theorem dgt_val {d : Nat} (hd : d < 10) : (UInt8.ofNat (48 + d)).toNat = 48 + d := by
  rw [UInt8.toNat_ofNat']; omega
theorem dec_nbl (u : Nat) : nbl (Lib.decDigits u) := by
  induction u using Nat.strongRecOn with
  | ind u ih =>
    have hd : ∀ d, d < 10 → UInt8.ofNat (48 + d) ≠ 32 := fun d hd e => by
      have := congrArg UInt8.toNat e
      rw [dgt_val hd] at this
      simp at this; omega
    intro c hc
    by_cases h : u < 10
    · rw [Lib.decDigits_one h, List.mem_singleton] at hc; subst hc; exact hd u h
    · rw [Lib.decDigits, dif_neg h] at hc
      rcases List.mem_append.1 hc with hc | hc
      · exact ih (u / 10) (by omega) c hc
      · rw [List.mem_singleton] at hc; subst hc; exact hd (u % 10) (by omega)
def valD (l : List UInt8) : Nat := l.foldl (fun n c => 10 * n + (c.toNat - 48)) 0
theorem val_decD (u : Nat) : valD (Lib.decDigits u) = u := by
  induction u using Nat.strongRecOn with
  | ind u ih =>
    by_cases h : u < 10
    · rw [Lib.decDigits_one h]
      simp only [valD, List.foldl_cons, List.foldl_nil]
      rw [dgt_val h]; omega
    · rw [Lib.decDigits, dif_neg h]
      unfold valD
      rw [List.foldl_append]
      have := ih (u / 10) (by omega)
      unfold valD at this
      rw [this]
      simp only [List.foldl_cons, List.foldl_nil]
      rw [dgt_val (by omega)]; omega
theorem numK_inj {a b : Int} {x y : List UInt8} (ha : 0 ≤ a) (hb : 0 ≤ b) (h : numK a ++ x = numK b ++ y) : a = b ∧ x = y := by
  unfold numK at h
  simp only [List.append_assoc, List.singleton_append] at h
  obtain ⟨h1, h2⟩ := nbl_cut (dec_nbl _) (dec_nbl _) h
  have h3 := congrArg valD h1
  rw [val_decD, val_decD] at h3
  exact ⟨by omega, h2⟩
theorem boolK_inj {a b : Bool} {x y : List UInt8} (h : boolK a ++ x = boolK b ++ y) : a = b ∧ x = y := by
  cases a <;> cases b <;> simp [boolK, strB] at h ⊢ <;> exact h
theorem thK_inj {a b : Th} {x y : List UInt8} (ha : a.U) (hb : b.U) (h : thK a ++ x = thK b ++ y) : a = b ∧ x = y := by
  obtain ⟨a1, a2, a3, a4, a5⟩ := a
  obtain ⟨b1, b2, b3, b4, b5⟩ := b
  unfold thK at h
  simp only [List.append_assoc] at h
  obtain ⟨g1, h⟩ := boolK_inj h
  obtain ⟨g2, h⟩ := boolK_inj h
  obtain ⟨g3, h⟩ := boolK_inj h
  obtain ⟨e1, h⟩ := numK_inj ha.1.1 hb.1.1 h
  obtain ⟨e2, hxy⟩ := numK_inj ha.2.1 hb.2.1 h
  clear h
  simp only at e1 e2 g1 g2 g3
  subst e1 e2 g1 g2 g3
  exact ⟨rfl, hxy⟩
theorem ths_inj : ∀ {a b : List Th} {x y : List UInt8}, a.length = b.length → (∀ t ∈ a, t.U) → (∀ t ∈ b, t.U) → a.flatMap thK ++ x = b.flatMap thK ++ y → a = b ∧ x = y
  | [], [], _, _, _, _, _, h => ⟨rfl, by simpa using h⟩
  | [], _ :: _, _, _, h, _, _, _ => by simp at h
  | _ :: _, [], _, _, h, _, _, _ => by simp at h
  | p :: a, q :: b, x, y, hl, ha, hb, h => by
    rw [List.flatMap_cons, List.flatMap_cons, List.append_assoc, List.append_assoc] at h
    obtain ⟨e1, h⟩ := thK_inj (ha p (by simp)) (hb q (by simp)) h
    obtain ⟨e2, h⟩ := ths_inj (by simpa using hl) (fun t ht => ha t (by simp [ht])) (fun t ht => hb t (by simp [ht])) h
    exact ⟨by rw [e1, e2], h⟩
theorem prs_inj : ∀ {a b : List (Int × Int)}, U64s a → U64s b → a.flatMap prK = b.flatMap prK → a = b
  | [], [], _, _, _ => rfl
  | [], q :: b, _, _, h => by
    have := congrArg List.length h
    rw [List.flatMap_cons] at this
    simp [prK, numK] at this
  | p :: a, [], _, _, h => by
    have := congrArg List.length h
    rw [List.flatMap_cons] at this
    simp [prK, numK] at this
  | p :: a, q :: b, ha, hb, h => by
    have hp := ha p (by simp)
    have hq := hb q (by simp)
    obtain ⟨p1, p2⟩ := p
    obtain ⟨q1, q2⟩ := q
    rw [List.flatMap_cons, List.flatMap_cons] at h
    unfold prK at h
    simp only [List.append_assoc] at h
    obtain ⟨e1, h⟩ := numK_inj hp.1.1 hq.1.1 h
    obtain ⟨e2, h⟩ := numK_inj hp.2.1 hq.2.1 h
    have h3 := prs_inj (a := a) (b := b) (fun z hz => ha z (by simp [hz])) (fun z hz => hb z (by simp [hz])) (by unfold prK; exact h)
    subst h3
    subst e1 e2
    rfl
theorem keyB_inj {s s' : Md} (hs : s.Nums) (hs' : s'.Nums) (hl : U64s s.l) (hl' : U64s s'.l) (h : keyB s = keyB s') : s.slots = s'.slots ∧ s.th = s'.th ∧ s.l = s'.l := by
  unfold keyB at h
  simp only [List.append_assoc] at h
  obtain ⟨e1, h⟩ := numK_inj hs.1.1 hs'.1.1 h
  obtain ⟨e2, h⟩ := numK_inj (by omega) (by omega) h
  obtain ⟨e3, h⟩ := ths_inj (by omega) hs.2 hs'.2 h
  exact ⟨e1, e3, prs_inj hl hl' h⟩
end Go.Proofs.YtmbjpjpdcmjjgaaGreatDoor
namespace Go.Proofs.YtmbjpjpdcmjjgaaGreatDoor
open Go.RowKit Go.Xt
/-! Key. -/
theorem own_ok5 {b base : Nat} {w w' : World} {e : TypeId} {size n : Nat} {v : Value} {xs : List Value} (h : w.ownsRow base e size v n xs) (ho : Ok5 b w w') (hb : b < base) (he : e ≠ 5) : w'.ownsRow base e size v n xs := by
  refine ⟨h.1, ?_⟩
  rcases h.2 with h1 | ⟨g, cap, cur, h1, h2, h3, h4⟩
  · exact .inl h1
  · exact .inr ⟨g, cap, cur, h1, h2, ho.cells h3 (by omega) he, h4⟩
theorem Bd.lt {B b : Nat} {bs : List UInt8} {w : World} (h : Bd B b bs w) : b < w.heap.size := h.elim (fun x => x.lt) (fun x => x.lt)
theorem cell3 {w : World} {q : Nat} {a b c : Bool} {T : TypeId} {fz : Nat × Nat} (h : w.heap[q]? = some (.cells #[.bool a, .bool b, .bool c] T fz)) {j : Nat} {v : Bool} (hj : [a, b, c][j]? = some v) : w.cell? ⟨q, j, none⟩ = some (.bool v) := by
  rw [Lib.cell_of_heap h]
  match j, hj with
  | 0, hj => simp at hj; subst hj; rfl
  | 1, hj => simp at hj; subst hj; rfl
  | 2, hj => simp at hj; subst hj; rfl
set_option maxRecDepth 20000 in
set_option maxHeartbeats 8000000 in
theorem key_M (w : World) (p : Pl) (s : Md) (h : MAt w p s) {N : Nat} (hok : s.Ok N) (hN : N ≤ 500000) (hnu : s.Nums) (H : FmtAt w) :
    Calls Tryz.prog 36 #[.pointer (some ⟨p.gm, 0, none⟩)] w fun e w' => e = .returned (.string ⟨(keyB s).toArray⟩) ∧ Nw w w' := by
  obtain ⟨gm, gt, gp, v⟩ := p
  obtain ⟨sl, l, th⟩ := s
  have m0 : w.cell? ⟨gm, 0, none⟩ = some (.int .i64 sl) := h.m0
  have m1 : w.cell? ⟨gm, 1, none⟩ = some (.pointer (some ⟨gp, 0, none⟩)) := h.m1
  obtain ⟨ct, m2⟩ : ∃ ct, w.cell? ⟨gm, 2, none⟩ = some (.slice (some ⟨gt, 0, none⟩) th.length ct) := h.m2
  have hll : l.length ≤ 500000 := Nat.le_trans hok.len hN
  have hlt : th.length ≤ 1000 := hok.thn
  have HP := Lib.hid (fun W (hw : Nw w W) => opairs_M (h.om.nw hw : OM W gp v l) (by show l.length ≤ 1000000; omega))
  have HT := Lib.hid (h.th : ThR w gt th)
  have HNU := Lib.hid hnu
  have HU6 := Lib.hid (hok.u64 : U64s l)
  have HF := Lib.hid H
  obtain ⟨sl, rfl⟩ : ∃ z : Nat, sl = (z : Int) := ⟨sl.toNat, by have h0 : 0 ≤ sl := hnu.1.1; omega⟩
  have hsl : sl < 9223372036854775808 := by have : (sl : Int) < _ := hnu.1.2; omega
  haveI : In gm w := ⟨h.im⟩
  haveI : In gt w := ⟨h.it⟩
  obtain ⟨n, hn⟩ : ∃ n, n = th.length := ⟨_, rfl⟩
  have HN := Lib.hid hn
  have hn9 : n ≤ 1000 := by omega
  rw [← hn] at m2
  have HLL := Lib.hid hll
  have HSL := Lib.hid hsl
  have isl : (sl : Int) < 9223372036854775808 := by omega
  have isl0 : (0 : Int) ≤ (sl : Int) := by omega
  have in9 : (n : Int) ≤ 1000 := by omega
  have in0 : (0 : Int) ≤ (n : Int) := by omega
  simp only
  clear h hok hnu H hn hlt hll hsl
  go_enter Tryz.func36, Tryz.ntmps36
  go_wp2_with fail
  refine (number_any w.heap.size w.heap.size [] sl _ (Bd.zero w) (by omega) (by simp) (HF.out.nw (nwa)) (by simp)).mono ?_
  rintro e w1 ⟨rfl, b1, l1, o1⟩
  obtain ⟨d1, rfl⟩ : Nw w w1 := nw_bel (by exact nwa) l1
  have B1 := Lib.hid b1
  have hk1 := numK_len (z := (sl : Int)) (by omega)
  have hk2 := numK_len (z := (n : Int)) (by omega)
  clear b1 l1 o1
  go_wp2_with fail
  refine (number_any w.heap.size w.heap.size _ n _ B1.out (by omega) (by simp; omega) (HF.out.nw (nwa)) (by exact (gext w none d1).size)).mono ?_
  rintro e w2 ⟨rfl, b2, l2, o2⟩
  obtain ⟨d2, rfl⟩ : Nw w w2 := nw_bel ⟨_, rfl⟩ l2
  have B2 := Lib.hid b2
  clear b2 l2 o2 B1
  go_wp2_with fail
  go_loopw [34] (fun a wr => ∃ m : Nat, m ≤ n ∧ a = .int .i64 m ∧ Nw w wr ∧ Hid (Bd w.heap.size w.heap.size (numK sl ++ numK n ++ (th.take m).flatMap thK) wr)) (fun a _ => n - (intOf a).toNat)
  case atStart => exact ⟨0, by omega, rfl, ⟨_, rfl⟩, by simpa using B2⟩
  case round =>
    obtain ⟨m, hm, rfl, ⟨d, rfl⟩, HB⟩ := hrel
    clear B2
    by_cases hmn : m < n
    · obtain ⟨x, hx⟩ : ∃ x, th[m]? = some x := ⟨_, List.getElem?_eq_getElem (by have := HN.out; omega)⟩
      have hU := HNU.out.2 x (List.mem_of_getElem? hx)
      obtain ⟨xo, xm, xl, xh, xs⟩ := x
      obtain ⟨xl, rfl⟩ : ∃ z : Nat, xl = (z : Int) := ⟨xl.toNat, by have h0 : 0 ≤ xl := hU.1.1; omega⟩
      obtain ⟨xh, rfl⟩ : ∃ z : Nat, xh = (z : Int) := ⟨xh.toNat, by have h0 : 0 ≤ xh := hU.2.1; omega⟩
      have hxl : xl < 18446744073709551616 := by have h0 : (xl : Int) < _ := hU.1.2; omega
      have hxh : xh < 18446744073709551616 := by have h0 : (xh : Int) < _ := hU.2.2; omega
      obtain ⟨c0, c1, c2, c3, c4⟩ := HT.out.cells hx
      simp only at c0 c1 c2 c3 c4
      have HX := Lib.hid hx
      have i1 : (m : Int) < (n : Int) := by omega
      have i0 : (0 : Int) ≤ (m : Int) := by omega
      have HMN := Lib.hid hmn
      have HXL := Lib.hid hxl
      have HXH := Lib.hid hxh
      have hpre : (numK sl ++ numK n ++ (th.take m).flatMap thK).length ≤ 100000 := by
        have h1 := flat_len thK 60 (th.take m) (fun x hx => thK_len (HNU.out.2 x (List.mem_of_mem_take hx)))
        have h2 := List.length_take_le m th
        rw [List.length_append, List.length_append]; omega
      have HPRE := Lib.hid hpre
      clear hx hmn hm hU hxl hxh hpre
      go_wp2_with fail
      clear c0 c1 c2 c3 c4
      obtain ⟨q, hq⟩ : ∃ q, q = (w.ext none d).heap.size := ⟨_, rfl⟩
      have hqB : w.heap.size < q := by rw [hq]; exact HB.out.lt
      obtain ⟨W3, hW3⟩ : ∃ W3, W3 = ((w.ext none d).alloc (.cells #[.bool xo, .bool xm, .int .u64 xl, .int .u64 xh, .bool xs] 132)).alloc (.cells #[.bool xs, .bool xo, .bool xm] 4) := ⟨_, rfl⟩
      have hn3 : Nw (w.ext none d) W3 := by rw [hW3]; exact ((Nw.refl _).alloc _).alloc _
      have b3 := HB.out.nw hn3
      have k6 : W3.heap[q]? = some (.cells #[.bool xo, .bool xm, .int .u64 xl, .int .u64 xh, .bool xs] 132) := by rw [hW3, hq, Lib.alloc_old _ _ _ (by simp)]; exact heap_alloc_new _ _
      have k8 : W3.heap[q + 1]? = some (.cells #[.bool xs, .bool xo, .bool xm] 4) := by
        rw [hW3, hq, show (w.ext none d).heap.size + 1 = ((w.ext none d).alloc (.cells #[.bool xo, .bool xm, .int .u64 xl, .int .u64 xh, .bool xs] 132)).heap.size by simp]
        exact heap_alloc_new _ _
      have HS := Lib.hid (⟨Nw.trans ⟨d, rfl⟩ hn3, b3, k6, k8⟩ : Nw w W3 ∧ Bd w.heap.size w.heap.size (numK sl ++ numK n ++ (th.take m).flatMap thK) W3 ∧ W3.heap[q]? = some (.cells #[.bool xo, .bool xm, .int .u64 xl, .int .u64 xh, .bool xs] 132) ∧ W3.heap[q + 1]? = some (.cells #[.bool xs, .bool xo, .bool xm] 4))
      rw [← hq, ← hW3]
      clear hW3 hq hn3 b3 k6 k8
      go_loopw [8, 48] (fun _ a wr => ∃ j : Nat, j ≤ 3 ∧ a = .int .i64 j ∧ Nw w wr ∧ Hid (Bd w.heap.size w.heap.size (numK sl ++ numK n ++ (th.take m).flatMap thK ++ ([xs, xo, xm].take j).flatMap boolK) wr ∧ wr.heap[q]? = some (.cells #[.bool xo, .bool xm, .int .u64 xl, .int .u64 xh, .bool xs] 132) ∧ wr.heap[q + 1]? = some (.cells #[.bool xs, .bool xo, .bool xm] 4))) (fun _ a _ => 3 - (intOf a).toNat)
      case atStart => exact ⟨0, by omega, rfl, HS.out.1, Lib.hid ⟨by simpa using HS.out.2.1, HS.out.2.2.1, HS.out.2.2.2⟩⟩
      case round =>
        obtain ⟨j, hj, rfl, ⟨dd, rfl⟩, HJ⟩ := hrel
        by_cases hj3 : j < 3
        · obtain ⟨bv, hbv⟩ : ∃ bv, [xs, xo, xm][j]? = some bv := ⟨_, List.getElem?_eq_getElem (by simpa using hj3)⟩
          have cj := cell3 HJ.out.2.2 hbv
          have HBV := Lib.hid hbv
          have j0 : (0 : Int) ≤ (j : Int) := by omega
          have j1 : (j : Int) < 3 := by omega
          have HJ3 := Lib.hid hj3
          clear hbv hj3
          go_wp2_with fail
          refine (fbool_any bv _).mono ?_
          rintro e w4 ⟨rfl, rfl⟩
          go_wp2_with fail
          have hlen : (numK sl ++ numK n ++ (th.take m).flatMap thK ++ ([xs, xo, xm].take j).flatMap boolK).length ≤ 200000 := by
            have h1 := HPRE.out
            have h2 := flat_len boolK 6 ([xs, xo, xm].take j) (fun b _ => boolK_len b)
            have h3 := List.length_take_le j [xs, xo, xm]
            have h4 := HJ3.out
            rw [List.length_append]; omega
          have hsb : (strB bv).length ≤ 5 := by cases bv <;> decide
          have hw0 : w.heap.size ≤ (w.ext none dd).heap.size := (gext w none dd).size
          refine (bstr w.heap.size w.heap.size _ (strB bv) _ HJ.out.1 (by omega) hw0).mono ?_
          rintro e w5 ⟨rfl, b5, l5, o5⟩
          have s5 := l5.size
          have H5 := Lib.hid (⟨b5, l5, o5⟩ : Bd w.heap.size w.heap.size _ w5 ∧ Below w.heap.size (w.ext none dd) w5 ∧ Ok5 w.heap.size (w.ext none dd) w5)
          have hlen2 : ((numK sl ++ numK n ++ (th.take m).flatMap thK ++ ([xs, xo, xm].take j).flatMap boolK) ++ strB bv).length + 1 ≤ 140737488355328 := by rw [List.length_append]; omega
          have hw5 : w.heap.size ≤ w5.heap.size := by omega
          clear b5 l5 o5
          go_wp2_with fail
          have c6 := bbyte w.heap.size w.heap.size _ 32 w5 H5.out.1 hlen2 hw5
          refine Calls.mono (by exact c6) ?_
          rintro e w6 ⟨rfl, b6, l6, o6⟩
          have hn6 : Nw w w6 := nw_bel ⟨_, rfl⟩ (H5.out.2.1.trans l6)
          have oo : Ok5 w.heap.size (w.ext none dd) w6 := H5.out.2.2.trans o6
          have b6' : Bd w.heap.size w.heap.size (numK sl ++ numK n ++ (th.take m).flatMap thK ++ ([xs, xo, xm].take (j + 1)).flatMap boolK) w6 := by
            rw [take_flat boolK HBV.out, boolK]
            simpa only [List.append_assoc] using b6
          have HZ := Lib.hid (⟨b6', oo.cells HJ.out.2.1 (by omega) (by decide), oo.cells HJ.out.2.2 (by omega) (by decide)⟩ : Bd w.heap.size w.heap.size (numK sl ++ numK n ++ (th.take m).flatMap thK ++ ([xs, xo, xm].take (j + 1)).flatMap boolK) w6 ∧ w6.heap[q]? = some (.cells #[.bool xo, .bool xm, .int .u64 xl, .int .u64 xh, .bool xs] 132) ∧ w6.heap[q + 1]? = some (.cells #[.bool xs, .bool xo, .bool xm] 4))
          clear b6 l6 o6 oo b6'
          go_wp2
          exact ⟨⟨j + 1, by have := HJ3.out; omega, by go_num, hn6, HZ⟩, by have := HJ3.out; simp [intOf]; omega⟩
        · have e3 : j = 3 := by omega
          subst e3
          clear hj hj3
          have d2 : (w.ext none dd).cell? ⟨q, 2, none⟩ = some (.int .u64 xl) := by rw [Lib.cell_of_heap HJ.out.2.1]; rfl
          have hw0 : w.heap.size ≤ (w.ext none dd).heap.size := (gext w none dd).size
          have hlen : (numK sl ++ numK n ++ (th.take m).flatMap thK ++ ([xs, xo, xm].take 3).flatMap boolK).length ≤ 200000 := by
            have h1 := HPRE.out
            have h2 := flat_len boolK 6 ([xs, xo, xm].take 3) (fun b _ => boolK_len b)
            have h3 := List.length_take_le 3 [xs, xo, xm]
            rw [List.length_append]; omega
          go_wp2_with fail
          refine (number_any w.heap.size w.heap.size _ xl _ HJ.out.1 HXL.out (by omega) (HF.out.nw ⟨_, rfl⟩) hw0).mono ?_
          rintro e w7 ⟨rfl, b7, l7, o7⟩
          have d3 : w7.cell? ⟨q, 3, none⟩ = some (.int .u64 xh) := by rw [Lib.cell_of_heap (o7.cells HJ.out.2.1 (by omega) (by decide))]; rfl
          have hk7 := numK_len (z := (xl : Int)) (by have := HXL.out; omega)
          have hlen7 : (numK sl ++ numK n ++ (th.take m).flatMap thK ++ ([xs, xo, xm].take 3).flatMap boolK ++ numK xl).length ≤ 1000000000000 := by rw [List.length_append]; omega
          have hn7 : Nw w w7 := nw_bel ⟨_, rfl⟩ l7
          have hw7 : w.heap.size ≤ w7.heap.size := hn7.grown.size
          have H7 := Lib.hid b7
          have HN7 := Lib.hid hn7
          clear b7 l7 o7 hn7 d2 hlen
          go_wp2_with fail
          refine (number_any w.heap.size w.heap.size _ xh _ H7.out HXH.out hlen7 (HF.out.nw HN7.out) hw7).mono ?_
          rintro e w8 ⟨rfl, b8, l8, o8⟩
          have hn8 : Nw w w8 := nw_bel HN7.out l8
          have b8' : Bd w.heap.size w.heap.size (numK sl ++ numK n ++ (th.take (m + 1)).flatMap thK) w8 := by
            rw [take_flat thK HX.out, thK]
            simpa [List.append_assoc] using b8
          have H8 := Lib.hid b8'
          clear b8 b8' l8 o8 d3
          go_wp2
          exact ⟨⟨m + 1, by have := HMN.out; omega, by go_num, hn8, H8⟩, by have := HMN.out; simp [intOf]; omega⟩
    · have em : m = n := by omega
      subst em
      have hb9 : Bd w.heap.size w.heap.size (numK sl ++ numK m ++ th.flatMap thK) (w.ext none d) := by
        have h := HB.out
        rw [List.take_of_length_le (by have := HN.out; omega)] at h; exact h
      have hlen9 : (numK sl ++ numK m ++ th.flatMap thK).length ≤ 100000 := by
        have h1 := flat_len thK 60 th (fun x hx => thK_len (HNU.out.2 x hx))
        have h2 := HN.out
        rw [List.length_append, List.length_append]; omega
      have H9 := Lib.hid hb9
      have HL9 := Lib.hid hlen9
      clear HB hb9 hlen9 hmn hm
      go_wp2_with fail
      refine (HP.out _ ⟨_, rfl⟩).mono ?_
      rintro e w10 ⟨v', rfl, hown, hn10⟩
      have hBn : w.heap.size < (w.ext none d).heap.size := H9.out.lt
      have b10 := H9.out.nw hn10
      obtain ⟨B2, hB2⟩ : ∃ z, z = (w.ext none d).heap.size := ⟨_, rfl⟩
      rw [← hB2] at hown hBn
      obtain ⟨A, c, rfl⟩ : ∃ A c, v' = .slice A l.length c := by
        rcases own_forms hown with ⟨h1, h2⟩ | ⟨g, cap, h1, _⟩
        · exact ⟨none, 0, by rw [h1, h2]⟩
        · exact ⟨_, _, h1⟩
      obtain ⟨k9, hk9⟩ : ∃ z, z = l.length := ⟨_, rfl⟩
      rw [← hk9] at hown
      have HK9 := Lib.hid hk9
      have hn11 : Nw w w10 := Nw.trans ⟨d, rfl⟩ hn10
      have H10 := Lib.hid (⟨b10, hown⟩ : Bd w.heap.size w.heap.size (numK sl ++ numK m ++ th.flatMap thK) w10 ∧ w10.ownsRow B2 90 2 (.slice A k9 c) k9 (pcells l))
      rw [← hk9]
      have hk10 : (k9 : Int) ≤ 500000 := by have := HLL.out; omega
      have hk11 : (0 : Int) ≤ (k9 : Int) := by omega
      clear hown hn10 b10 hk9 hB2
      go_wp2_with fail
      go_loopw [76] (fun a wr => ∃ k : Nat, k ≤ k9 ∧ a = .int .i64 k ∧ Nw w wr ∧ Hid (Bd w.heap.size w.heap.size (numK sl ++ numK m ++ th.flatMap thK ++ (l.take k).flatMap prK) wr ∧ wr.ownsRow B2 90 2 (.slice A k9 c) k9 (pcells l))) (fun a _ => k9 - (intOf a).toNat)
      case atStart => exact ⟨0, by omega, rfl, hn11, Lib.hid ⟨by simpa using H10.out.1, H10.out.2⟩⟩
      case round =>
        clear hn11
        obtain ⟨k, hk, rfl, ⟨dk, rfl⟩, HK⟩ := hrel
        clear H10
        have hw0 : w.heap.size ≤ (w.ext none dk).heap.size := (gext w none dk).size
        have hlk : (numK sl ++ numK m ++ th.flatMap thK ++ (l.take k).flatMap prK).length ≤ 100000 + 42 * 500000 := by
          have h1 := HL9.out
          have h2 := flat_len prK 42 (l.take k) (fun q hq => by
            have hu := HU6.out q (List.mem_of_mem_take hq)
            have a1 := numK_len hu.1
            have a2 := numK_len hu.2
            rw [prK, List.length_append]; omega)
          have h3 := List.length_take_le k l
          have h4 := HLL.out
          have h5 := HK9.out
          have h6 := List.length_take_le' k l
          rw [List.length_append]; omega
        by_cases hkk : k < k9
        · obtain ⟨⟨qk, qv⟩, hq⟩ : ∃ q, l[k]? = some q := ⟨_, List.getElem?_eq_getElem (by have := HK9.out; omega)⟩
          have hu := HU6.out _ (List.mem_of_getElem? hq)
          obtain ⟨g, rfl, hg⟩ : ∃ g, A = some ⟨g, 0, none⟩ ∧ g < (w.ext none dk).heap.size := by
            rcases own_forms HK.out.2 with ⟨h1, h2⟩ | ⟨g, cap, h1, _, h3, _⟩
            · omega
            · injection h1 with h1 _ _; exact ⟨g, h1, h3.lt⟩
          have hc := pcells_get l k _ hq
          obtain ⟨qk, rfl⟩ : ∃ z : Nat, qk = (z : Int) := ⟨qk.toNat, by have h0 : 0 ≤ qk := hu.1.1; omega⟩
          obtain ⟨qv, rfl⟩ : ∃ z : Nat, qv = (z : Int) := ⟨qv.toNat, by have h0 : 0 ≤ qv := hu.2.1; omega⟩
          have hqk : qk < 18446744073709551616 := by have h0 : (qk : Int) < _ := hu.1.2; omega
          have hqv : qv < 18446744073709551616 := by have h0 : (qv : Int) < _ := hu.2.2; omega
          have c0 : (w.ext none dk).cell? ⟨g, k * 2, none⟩ = some (.int .u64 qk) := (World.ownsRow.cellAt HK.out.2 _ (by omega)).trans hc.1
          have c1 : (w.ext none dk).cell? ⟨g, k * 2 + 1, none⟩ = some (.int .u64 qv) := (World.ownsRow.cellAt HK.out.2 _ (by omega)).trans hc.2
          have HQ := Lib.hid hq
          have HKK := Lib.hid hkk
          have HQV := Lib.hid hqv
          have j0 : (0 : Int) ≤ (k : Int) := by omega
          have j1 : (k : Int) < (k9 : Int) := by omega
          clear hq hc hu hkk hqv hk
          go_wp2_with fail
          clear c0 c1
          obtain ⟨W3, hW3⟩ : ∃ W3, W3 = (w.ext none dk).alloc (.cells #[.int .u64 qk, .int .u64 qv] 90) := ⟨_, rfl⟩
          obtain ⟨q, hq⟩ : ∃ q, q = (w.ext none dk).heap.size := ⟨_, rfl⟩
          have hn3 : Nw (w.ext none dk) W3 := by rw [hW3]; exact (Nw.refl _).alloc _
          have b3 := HK.out.1.nw hn3
          have r3 := own_nw HK.out.2 hn3
          have hqB : q ≠ w.heap.size := by have := HK.out.1.lt; omega
          have k3 : W3.heap[q]? = some (.cells #[.int .u64 qk, .int .u64 qv] 90) := by rw [hW3, hq]; exact heap_alloc_new _ _
          have hw3 : w.heap.size ≤ W3.heap.size := Nat.le_trans hw0 hn3.grown.size
          have hnw3 : Nw w W3 := Nw.trans ⟨dk, rfl⟩ hn3
          rw [← hq, ← hW3]
          clear hW3 hq hn3
          refine (number_any w.heap.size w.heap.size _ qk W3 b3 hqk (by omega) (HF.out.nw hnw3) hw3).mono ?_
          rintro e w7 ⟨rfl, b7, l7, o7⟩
          have d3 : w7.cell? ⟨q, 1, none⟩ = some (.int .u64 qv) := by rw [Lib.cell_of_heap (o7.cells k3 hqB (by decide))]; rfl
          have hk7 := numK_len (z := (qk : Int)) (by omega)
          have hlen7 : (numK sl ++ numK m ++ th.flatMap thK ++ (l.take k).flatMap prK ++ numK qk).length ≤ 1000000000000 := by rw [List.length_append]; omega
          have hn7 : Nw w w7 := nw_bel hnw3 l7
          have hw7 : w.heap.size ≤ w7.heap.size := hn7.grown.size
          have H7 := Lib.hid b7
          have HN7 := Lib.hid hn7
          have HR7 := Lib.hid (own_ok5 r3 o7 hBn (by decide))
          clear b7 l7 o7 hn7 b3 r3 k3 hnw3
          go_wp2_with fail
          refine (number_any w.heap.size w.heap.size _ qv _ H7.out HQV.out hlen7 (HF.out.nw HN7.out) hw7).mono ?_
          rintro e w8 ⟨rfl, b8, l8, o8⟩
          have hn8 : Nw w w8 := nw_bel HN7.out l8
          have b8' : Bd w.heap.size w.heap.size (numK sl ++ numK m ++ th.flatMap thK ++ (l.take (k + 1)).flatMap prK) w8 := by
            rw [take_flat prK HQ.out, prK]
            simpa [List.append_assoc] using b8
          have H8 := Lib.hid (⟨b8', own_ok5 HR7.out o8 hBn (by decide)⟩ : Bd w.heap.size w.heap.size (numK sl ++ numK m ++ th.flatMap thK ++ (l.take (k + 1)).flatMap prK) w8 ∧ w8.ownsRow B2 90 2 (.slice (some ⟨g, 0, none⟩) k9 c) k9 (pcells l))
          clear b8 b8' l8 o8 d3
          go_wp2
          exact ⟨⟨k + 1, by have := HKK.out; omega, by go_num, hn8, H8⟩, by have := HKK.out; simp [intOf]; omega⟩
        · have ek : k = k9 := by omega
          subst ek
          have hbz : Bd w.heap.size w.heap.size (keyB ⟨sl, l, th⟩) (w.ext none dk) := by
            have h := HK.out.1
            rw [List.take_of_length_le (by have := HK9.out; omega)] at h
            have e : numK (th.length : Int) = numK (m : Int) := by rw [← HN.out]
            unfold keyB
            simp only
            rw [e]; exact h
          have hne : keyB ⟨sl, l, th⟩ ≠ [] := by
            intro h
            have : (keyB ⟨sl, l, th⟩).length = 0 := by rw [h]; rfl
            unfold keyB numK at this
            simp at this
          go_wp2_with fail
          refine (bget w.heap.size w.heap.size _ _ hbz hne).mono ?_
          rintro e w12 ⟨rfl, l12⟩
          have hn12 : Nw w w12 := nw_bel ⟨_, rfl⟩ l12
          go_wp2
          exact bodyPost_ret (results_tmp rfl _ _ _) rfl ⟨rfl, hn12⟩
end Go.Proofs.YtmbjpjpdcmjjgaaGreatDoor
namespace Go.Proofs.YtmbjpjpdcmjjgaaGreatDoor
open Go.RowKit Go.Xt
/-! What Do and Accept keep of the numbers; several models of a law's own. -/
theorem Th.U.fin {x : Th} : x.fin.U := ⟨⟨by show (0 : Int) ≤ 0; omega, by show (0 : Int) < _; omega⟩, by show (0 : Int) ≤ 0; omega, by show (0 : Int) < _; omega⟩
theorem Th.U.from_ {x : Th} (h : x.U) (k : Int) (hk : 0 ≤ k ∧ k < 18446744073709551616) : (x.from_ k).U := by
  unfold Th.from_
  split
  · have := h.1
    exact ⟨⟨by show 0 ≤ max x.lo k; omega, by show max x.lo k < _; omega⟩, h.2⟩
  · exact Th.U.fin
theorem Th.U.after {x : Th} (h : x.U) (k : Int) (hk : 0 ≤ k ∧ k < 18446744073709551616) : (x.after k).U := by
  unfold Th.after
  split
  · exact Th.U.fin
  · exact h.from_ _ (by omega)
theorem Md.Nums.setT {s : Md} (h : s.Nums) (t : Nat) {y : Th} (hy : y.U) : Md.Nums { s with th := s.th.set t y } := ⟨h.1, set_all h.2 hy⟩
theorem Md.Nums.setL {s : Md} (h : s.Nums) (l : List (Int × Int)) : Md.Nums { s with l := l } := h
theorem perfM_nums {s : Md} {N : Nat} (hok : s.Ok N) (h : s.Nums) {t : Nat} {x : Th} (ht : s.th[t]? = some x) {o : Ox} (hw : o.Wf) : (perfM s t x o).2.Nums := by
  have hx := h.2 x (List.mem_of_getElem? ht)
  unfold perfM
  by_cases k1 : o.k = 1
  · rw [if_pos k1]
    show (openM s t x).Nums
    unfold openM
    split
    · exact h
    · exact h.setT t (y := { x with se := true }) hx
  rw [if_neg k1]
  by_cases k2 : o.k = 2
  · rw [if_pos k2]; exact h.setT t (y := { x with se := false }) hx
  rw [if_neg k2]
  by_cases k3 : o.k = 3
  · rw [if_pos k3]; exact h
  rw [if_neg k3]
  by_cases k4 : o.k = 4
  · rw [if_pos k4]; exact h
  rw [if_neg k4]
  by_cases k5 : o.k = 5
  · rw [if_pos k5]; exact h
  rw [if_neg k5]
  by_cases k6 : o.k = 6
  · rw [if_pos k6]; exact h
  rw [if_neg k6]
  by_cases k7 : o.k = 7
  · rw [if_pos k7]; exact h
  rw [if_neg k7]
  by_cases k8 : o.k = 8
  · rw [if_pos k8]; exact h
  rw [if_neg k8]
  by_cases k9 : o.k = 9
  · rw [if_pos k9]; exact h
  rw [if_neg k9]
  by_cases k10 : o.k = 10
  · rw [if_pos k10]; exact h
  rw [if_neg k10]
  by_cases k11 : o.k = 11
  · rw [if_pos k11]; exact h.setT t (y := ⟨true, true, o.key, o.hi, x.se⟩) ⟨hw.key, hw.hi⟩
  rw [if_neg k11]
  by_cases k12 : o.k = 12
  · rw [if_pos k12]
    cases hq : nextL x.lo x.hi s.l with
    | none => exact h.setT t Th.U.fin
    | some q => exact h.setT t (hx.after _ (hok.u64 q (nextL_mem hq).1).1)
  rw [if_neg k12]
  by_cases k13 : o.k = 13
  · rw [if_pos k13]; exact h.setT t (hx.from_ _ hw.key)
  rw [if_neg k13]
  by_cases k14 : o.k = 14
  · rw [if_pos k14]; exact h.setT t (y := ⟨false, false, 0, 0, x.se⟩) (Th.U.fin (x := x))
  rw [if_neg k14]
  exact h
theorem doM_nums {s : Md} {N : Nat} (hok : s.Ok N) (h : s.Nums) (t : Int) {o : Ox} (hw : o.Wf) : (doM s t o).2.Nums := by
  by_cases hr : refM s t o = 0
  · obtain ⟨t, x, rfl, hx, hc, hre, hd⟩ := refM_zero hr
    rw [hd]; exact perfM_nums hok h hx hw
  · have e : doM s t o = (⟨refM s t o, false, 0, 0, 0⟩, s) := by unfold doM; rw [if_pos hr]
    rw [e]; exact h
theorem acceptM_nums {s : Md} {N : Nat} (hok : s.Ok N) (h : s.Nums) (t : Int) {o : Ox} (hw : o.Wf) {r : Rs} (hk : 0 ≤ r.key ∧ r.key < 18446744073709551616) : (acceptM s t o r).2.Nums := by
  unfold acceptM
  by_cases hr : refM s t o = 0
  · obtain ⟨t, x, rfl, hx, hc, hre, -⟩ := refM_zero hr
    have hxo := h.2 x (List.mem_of_getElem? hx)
    rw [if_neg (by simpa using hr), Int.toNat_natCast, hx]
    simp only
    split
    · exact h
    · split
      · split
        · exact h.setT t Th.U.fin
        · split
          · exact h.setT t (hxo.after _ hk)
          · exact h
      · split
        · exact h
        · split
          · exact perfM_nums hok h hx hw
          · exact h
  · rw [if_pos hr]; exact h
theorem acceptM_len (s : Md) (t : Int) (o : Ox) (r : Rs) : (acceptM s t o r).2.th.length = s.th.length := by
  by_cases hr : refM s t o = 0
  · obtain ⟨t, x, rfl, hx, hc, hre, hd⟩ := refM_zero hr
    have hl := (doM_len s (t : Int) o).1
    rw [hd] at hl
    unfold acceptM
    rw [if_neg (by simpa using hr), Int.toNat_natCast, hx]
    simp only
    split
    · rfl
    · split
      · split
        · simp
        · split
          · simp
          · rfl
      · split
        · rfl
        · split
          · exact hl
          · rfl
  · unfold acceptM; rw [if_pos hr]
def Lw (w : World) (N : Nat) (ms : List (Nat × Md)) (K : List (Nat × Obj)) (W : World) : Prop :=
  Nw w W ∧ ∃ ps : List Pl, ps.length = ms.length ∧
    (∀ (i : Nat) (p : Pl) (m : Nat × Md), ps[i]? = some p → ms[i]? = some m → p.gm = m.1 ∧ MAt W p m.2 ∧ m.2.Ok N ∧ m.2.Nums ∧ (0 < m.2.th.length) ∧ ∀ g ∈ p.foot, w.heap.size ≤ g) ∧
    (∀ (i j : Nat) (p q : Pl), ps[i]? = some p → ps[j]? = some q → i ≠ j → ∀ g ∈ p.foot, g ∉ q.foot) ∧
    (∀ x ∈ K, W.heap[x.1]? = some x.2 ∧ ∀ p ∈ ps, x.1 ∉ p.foot)
section
variable {w W W' : World} {N : Nat} {ms : List (Nat × Md)} {K : List (Nat × Obj)}
theorem Lw.nw (h : Lw w N ms K W) : Nw w W := h.1
theorem Lw.block (h : Lw w N ms K W) {b : Nat} {o : Obj} (hb : (b, o) ∈ K) : W.heap[b]? = some o := by
  obtain ⟨_, ps, _, _, _, hK⟩ := h; exact (hK _ hb).1
theorem Lw.cell (h : Lw w N ms K W) {b : Nat} {c : Array Value} {T : TypeId} {fz : Nat × Nat} (hb : (b, .cells c T fz) ∈ K) (i : Nat) : W.cell? ⟨b, i, none⟩ = c[i]? := Lib.cell_of_heap (h.block hb) i
theorem Lw.at (h : Lw w N ms K W) {i gm : Nat} {s : Md} (hi : ms[i]? = some (gm, s)) : ∃ p : Pl, p.gm = gm ∧ MAt W p s ∧ s.Ok N ∧ s.Nums ∧ 0 < s.th.length ∧ ∀ g ∈ p.foot, w.heap.size ≤ g := by
  obtain ⟨_, ps, hl, hA, _, _⟩ := h
  have hlt := (List.getElem?_eq_some_iff.1 hi).1
  obtain ⟨p, hp⟩ : ∃ p, ps[i]? = some p := ⟨_, List.getElem?_eq_getElem (by omega)⟩
  exact ⟨p, hA i p _ hp hi⟩
theorem Lw.im (h : Lw w N ms K W) {i gm : Nat} {s : Md} (hi : ms[i]? = some (gm, s)) : gm < W.heap.size := by
  obtain ⟨p, rfl, h1, _⟩ := h.at hi; exact h1.im
theorem Lw.low {ps : List Pl} (hl : ps.length = ms.length) (hA : ∀ (i : Nat) (p : Pl) (m : Nat × Md), ps[i]? = some p → ms[i]? = some m → p.gm = m.1 ∧ MAt W p m.2 ∧ m.2.Ok N ∧ m.2.Nums ∧ (0 < m.2.th.length) ∧ ∀ g ∈ p.foot, w.heap.size ≤ g) {p : Pl} (hp : p ∈ ps) {g : Nat} (hg : g ∈ p.foot) : g < W.heap.size := by
  obtain ⟨i, hi⟩ := List.mem_iff_getElem?.1 hp
  have hlt2 := (List.getElem?_eq_some_iff.1 hi).1
  obtain ⟨m, hm⟩ : ∃ m, ms[i]? = some m := ⟨_, List.getElem?_eq_getElem (by omega)⟩
  exact (hA i p m hi hm).2.1.lt hg
theorem Lw.grow (h : Lw w N ms K W) (hn : Nw W W') : Lw w N ms K W' := by
  obtain ⟨h0, ps, hl, hA, hD, hK⟩ := h
  exact ⟨h0.trans hn, ps, hl, fun i p m hp hm => by
    obtain ⟨a, b, c, d, e, f⟩ := hA i p m hp hm
    exact ⟨a, b.nw hn, c, d, e, f⟩, hD, fun x hx => ⟨nw_cells hn (hK x hx).1, (hK x hx).2⟩⟩
theorem Lw.keep (h : Lw w N ms K W) (hn : Nw W W') {b : Nat} {o : Obj} (hb : W'.heap[b]? = some o) (hlt : W.heap.size ≤ b) : Lw w N ms ((b, o) :: K) W' := by
  obtain ⟨h0, ps, hl, hA, hD, hK⟩ := h
  refine ⟨h0.trans hn, ps, hl, fun i p m hp hm => by
    obtain ⟨a, b, c, d, e, f⟩ := hA i p m hp hm
    exact ⟨a, b.nw hn, c, d, e, f⟩, hD, fun x hx => ?_⟩
  rcases List.mem_cons.1 hx with rfl | hx
  · exact ⟨hb, fun p hp hg => by have := Lw.low hl hA hp hg; simp only at this; omega⟩
  · exact ⟨nw_cells hn (hK x hx).1, (hK x hx).2⟩
theorem Lw.old (h : Lw w N ms K W) {b : Nat} {o : Obj} (hb : w.heap[b]? = some o) : Lw w N ms ((b, o) :: K) W := by
  obtain ⟨h0, ps, hl, hA, hD, hK⟩ := h
  refine ⟨h0, ps, hl, hA, hD, fun x hx => ?_⟩
  rcases List.mem_cons.1 hx with rfl | hx
  · refine ⟨nw_cells h0 hb, fun p hp hg => ?_⟩
    obtain ⟨i, hi⟩ := List.mem_iff_getElem?.1 hp
    have hlt2 := (List.getElem?_eq_some_iff.1 hi).1
    obtain ⟨m, hm⟩ : ∃ m, ms[i]? = some m := ⟨_, List.getElem?_eq_getElem (by omega)⟩
    have h1 := (hA i p m hi hm).2.2.2.2.2 _ hg
    have h2 := (Array.getElem?_eq_some_iff.1 hb).1
    simp only at h1 h2
    omega
  · exact hK x hx
theorem Lw.run (h : Lw w N ms K W) {i gm : Nat} {s : Md} (hi : ms[i]? = some (gm, s)) :
    ∃ p : Pl, p.gm = gm ∧ MAt W p s ∧ s.Ok N ∧ s.Nums ∧ 0 < s.th.length ∧ ∀ (s' : Md) (p' : Pl) (W' : World) (N' : Nat), MUp W p s' p' W' → N ≤ N' → s'.Ok N' → s'.Nums → 0 < s'.th.length → Lw w N' (ms.set i (gm, s')) K W' := by
  obtain ⟨h0, ps, hl, hA, hD, hK⟩ := h
  have hlt := (List.getElem?_eq_some_iff.1 hi).1
  obtain ⟨p, hp⟩ : ∃ p, ps[i]? = some p := ⟨_, List.getElem?_eq_getElem (by omega)⟩
  obtain ⟨a, b, c, d, e, f⟩ := hA i p _ hp hi
  refine ⟨p, a, b, c, d, e, fun s' p' W' N' hu hN hok hnu hth => ⟨nw_chg2 h0 hu.chg f, ps.set i p', by simp [hl], fun j q m hq hm => ?_, fun j k q r hq hr hjk g hg => ?_, fun x hx => ?_⟩⟩
  · by_cases hij : i = j
    · subst hij
      rw [List.getElem?_set_self (by omega)] at hq hm
      cases hq; cases hm
      refine ⟨hu.gm.trans a, hu.at', hok, hnu, hth, fun g hg => ?_⟩
      rcases hu.mv g hg with h1 | h1
      · exact f g h1
      · exact Nat.le_trans h0.grown.size h1
    · rw [List.getElem?_set_ne hij] at hq hm
      obtain ⟨a2, b2, c2, d2, e2, f2⟩ := hA j q m hq hm
      exact ⟨a2, b2.chg hu.chg (fun g hg => hD j i q p hq hp (Ne.symm hij) g hg), c2.mono hN, d2, e2, f2⟩
  · by_cases hij : i = j
    · subst hij
      rw [List.getElem?_set_self (by omega)] at hq
      rw [List.getElem?_set_ne hjk] at hr
      cases hq
      rcases hu.mv g hg with h1 | h1
      · exact hD i k p r hp hr hjk g h1
      · intro h2
        have := Lw.low hl hA (List.mem_of_getElem? hr) h2
        omega
    · rw [List.getElem?_set_ne hij] at hq
      by_cases hik : i = k
      · subst hik
        rw [List.getElem?_set_self (by omega)] at hr
        cases hr
        intro h2
        rcases hu.mv g h2 with h1 | h1
        · exact hD j i q p hq hp hjk g hg h1
        · have := Lw.low hl hA (List.mem_of_getElem? hq) hg
          omega
      · rw [List.getElem?_set_ne hik] at hr
        exact hD j k q r hq hr hjk g hg
  · have hxl := (Array.getElem?_eq_some_iff.1 (hK x hx).1).1
    refine ⟨(hu.chg.block x.1 hxl ((hK x hx).2 p (List.mem_of_getElem? hp))).trans (hK x hx).1, fun q hq hg => ?_⟩
    rcases List.mem_or_eq_of_mem_set hq with h1 | rfl
    · exact (hK x hx).2 q h1 hg
    · rcases hu.mv _ hg with h1 | h1
      · exact (hK x hx).2 p (List.mem_of_getElem? hp) h1
      · omega
theorem Lw.add (h : Lw w N ms K W) (hn : Nw W W') {p : Pl} {s : Md} (hp : MAt W' p s) (hf : ∀ g ∈ p.foot, W.heap.size ≤ g) (hok : s.Ok N) (hnu : s.Nums) (hth : 0 < s.th.length) : Lw w N (ms ++ [(p.gm, s)]) K W' := by
  obtain ⟨h0, ps, hl, hA, hD, hK⟩ := h
  refine ⟨h0.trans hn, ps ++ [p], by simp [hl], fun j q m hq hm => ?_, fun j k q r hq hr hjk g hg => ?_, fun x hx => ?_⟩
  · by_cases hj : j < ps.length
    · rw [List.getElem?_append_left hj] at hq
      rw [List.getElem?_append_left (by omega)] at hm
      obtain ⟨a, b, c, d, e, f⟩ := hA j q m hq hm
      exact ⟨a, b.nw hn, c, d, e, f⟩
    · rw [List.getElem?_append_right (by omega)] at hq
      rw [List.getElem?_append_right (by omega)] at hm
      have e1 : j - ps.length = 0 := by have := (List.getElem?_eq_some_iff.1 hq).1; simp at this; omega
      rw [e1] at hq
      rw [← hl, e1] at hm
      simp at hq hm
      subst hq hm
      exact ⟨rfl, hp, hok, hnu, hth, fun g hg => Nat.le_trans h0.grown.size (hf g hg)⟩
  · have hend : ∀ (z : Nat) (y : Pl), (ps ++ [p])[z]? = some y → (z < ps.length ∧ ps[z]? = some y) ∨ (z = ps.length ∧ y = p) := fun z y hz => by
      by_cases hj : z < ps.length
      · rw [List.getElem?_append_left hj] at hz; exact .inl ⟨hj, hz⟩
      · rw [List.getElem?_append_right (by omega)] at hz
        have e1 : z - ps.length = 0 := by have := (List.getElem?_eq_some_iff.1 hz).1; simp at this; omega
        rw [e1] at hz
        simp at hz
        exact .inr ⟨by omega, hz.symm⟩
    rcases hend j q hq with ⟨hj, hq'⟩ | ⟨hj, hqp⟩
    · rcases hend k r hr with ⟨hk, hr'⟩ | ⟨hk, hrp⟩
      · exact hD j k q r hq' hr' hjk g hg
      · intro h2
        have h3 := Lw.low hl hA (List.mem_of_getElem? hq') hg
        have h4 := hf g (hrp ▸ h2)
        omega
    · rcases hend k r hr with ⟨hk, hr'⟩ | ⟨hk, hrp⟩
      · intro h2
        have h3 := Lw.low hl hA (List.mem_of_getElem? hr') h2
        have h4 := hf g (hqp ▸ hg)
        omega
      · omega
  · refine ⟨nw_cells hn (hK x hx).1, fun q hq hg => ?_⟩
    have hxl := (Array.getElem?_eq_some_iff.1 (hK x hx).1).1
    rcases List.mem_append.1 hq with h1 | h1
    · exact (hK x hx).2 q h1 hg
    · simp at h1; subst h1
      have := hf _ hg; omega
def PV (K : List (Nat × Obj)) (A : Option Addr) (n : Nat) (l : List (Int × Int)) : Prop := n = l.length ∧ (n = 0 ∨ ∃ g cap cur, A = some ⟨g, 0, none⟩ ∧ (g, Obj.cells cur 90) ∈ K ∧ n ≤ cap ∧ cur.size = cap * 2 ∧ cur.toList.take (n * 2) = pcells l)
theorem PV.more {K K' : List (Nat × Obj)} {A : Option Addr} {n : Nat} {l : List (Int × Int)} (h : PV K A n l) (hs : ∀ x ∈ K, x ∈ K') : PV K' A n l := by
  refine ⟨h.1, h.2.imp id ?_⟩
  rintro ⟨g, cap, cur, h1, h2, h3⟩
  exact ⟨g, cap, cur, h1, hs _ h2, h3⟩
theorem PV.rd {A : Option Addr} {n : Nat} {l : List (Int × Int)} (hp : PV K A n l) (h : Lw w N ms K W) : Rd W 2 A n (pcells l) := by
  obtain ⟨rfl, hp⟩ := hp
  refine ⟨pcells_len l, fun h0 => ?_⟩
  rcases hp with h1 | ⟨g, cap, cur, rfl, h2, h3, h4, h5⟩
  · omega
  · refine ⟨g, 0, rfl, (Array.getElem?_eq_some_iff.1 (h.block h2)).1, fun j u hu => ?_⟩
    rw [Nat.zero_add, h.cell h2 j]
    have hj := (List.getElem?_eq_some_iff.1 hu).1
    rw [← h5, List.getElem?_take] at hu
    split at hu
    · simpa using hu
    · cases hu
end
end Go.Proofs.YtmbjpjpdcmjjgaaGreatDoor
