import Derived.Test.YtahagplegmcaaaaDoorGSlay
import Derived.Test.YtahagplegmcaaaaDoorGRg
set_option linter.unusedVariables false
set_option linter.unusedSimpArgs false
set_option linter.unnecessarySimpa false
namespace Go.Proofs.YtahagplegmcaaaaDoor
open Go.RowKit Go.Xt
/-! Key: what it returns; its parts. -/
def numK (z : Int) : List UInt8 := Lib.decDigits z.toNat ++ [32]
def strB (b : Bool) : List UInt8 := if b = true then [116, 114, 117, 101] else [102, 97, 108, 115, 101]
def boolK (b : Bool) : List UInt8 := strB b ++ [32]
def thK (x : Th) : List UInt8 := boolK x.se ++ boolK x.op ++ boolK x.mo ++ numK x.lo ++ numK x.hi
def prK (q : Int × Int) : List UInt8 := numK q.1 ++ numK q.2
def keyB (s : Md) : List UInt8 := numK s.slots ++ numK s.th.length ++ s.th.flatMap thK ++ s.l.flatMap prK
def Th.U (x : Th) : Prop := (0 ≤ x.lo ∧ x.lo < 18446744073709551616) ∧ 0 ≤ x.hi ∧ x.hi < 18446744073709551616
/-- The numbers of a state that Key writes. -/
def Md.Nums (s : Md) : Prop := (0 ≤ s.slots ∧ s.slots < 9223372036854775808) ∧ ∀ x ∈ s.th, x.U
theorem numK_len {z : Int} (h : 0 ≤ z ∧ z < 18446744073709551616) : (numK z).length ≤ 21 := by
  have := dec_len z.toNat (by omega)
  simp [numK]; omega
theorem numK_nat (n : Nat) : numK (n : Int) = Lib.decDigits n ++ [32] := by simp [numK]
theorem boolK_len (b : Bool) : (boolK b).length ≤ 6 := by cases b <;> simp [boolK, strB]
theorem thK_len {x : Th} (h : x.U) : (thK x).length ≤ 60 := by
  have h1 := numK_len h.1
  have h2 := numK_len h.2
  have h3 := boolK_len x.se
  have h4 := boolK_len x.op
  have h5 := boolK_len x.mo
  simp only [thK, List.length_append]; omega
theorem flat_len {α : Type} (f : α → List UInt8) (c : Nat) : ∀ (l : List α), (∀ x ∈ l, (f x).length ≤ c) → (l.flatMap f).length ≤ c * l.length
  | [], _ => by simp
  | x :: l, h => by
    have h1 := flat_len f c l (fun y hy => h y (by simp [hy]))
    have h2 := h x (by simp)
    rw [List.flatMap_cons, List.length_append, List.length_cons, Nat.mul_succ]; omega
theorem take_flat {α : Type} (f : α → List UInt8) {l : List α} {k : Nat} {x : α} (h : l[k]? = some x) : (l.take (k + 1)).flatMap f = (l.take k).flatMap f ++ f x := by
  obtain ⟨p, e⟩ := List.getElem?_eq_some_iff.1 h
  rw [List.take_succ_eq_append_getElem p, e]; simp
-- worlds that hold a builder
theorem Ok5.refl (b : Nat) (w : World) : Ok5 b w w := Lib.OthersKept.refl _ _ w
theorem Ok5.of_nw {b : Nat} {w w' : World} (h : Nw w w') : Ok5 b w w' := fun k o hk _ _ => by
  rw [h.grown.block k (Array.getElem?_eq_some_iff.1 hk).1 (by simp)]; exact hk
theorem Bd.nw {B b : Nat} {bs : List UInt8} {w w' : World} (h : Bd B b bs w) (hn : Nw w w') : Bd B b bs w' := by
  have aux : ∀ p, Lib.BuilderAtF 61 5 B b p (Lib.byteCells bs) w → Lib.BuilderAtF 61 5 B b p (Lib.byteCells bs) w' := by
    rintro p ⟨hB, v, hb, hown, hne⟩
    exact ⟨hB, v, (hn.grown.block b (Array.getElem?_eq_some_iff.1 hb).1 (by simp)).trans hb, hown.kept hn.grown (by cases hv : v.ownBlock <;> simp), hne⟩
  exact h.elim (fun x => .inl (aux _ x)) (fun x => .inr (aux _ x))
theorem nw_bel {w W W' : World} (h : Nw w W) (hb : Below w.heap.size W W') : Nw w W' := .of_below (h.below.trans hb)
theorem bel_nw {B : Nat} {w w' : World} (h : Nw w w') (hB : B ≤ w.heap.size) : Below B w w' := h.below.mono hB
theorem Bd.zero (w : World) : Bd w.heap.size w.heap.size [] (w.alloc (.cells #[.pointer none, .slice none 0 0] 61)) :=
  .inl ⟨Nat.le_refl _, _, heap_alloc_new w _, World.ownsRowF_nil _ _ _ _, by simp [Value.ownBlock]⟩
theorem Ok5.cells {b : Nat} {w w' : World} (h : Ok5 b w w') {k : Nat} {c : Array Value} {T : TypeId} {fz : Nat × Nat} (hk : w.heap[k]? = some (.cells c T fz)) (hb : k ≠ b) (hT : T ≠ 5) : w'.heap[k]? = some (.cells c T fz) :=
  h k _ hk (fun e => hb (Option.some.inj e)) (fun c' fz' e => by injection e with _ e _; exact hT e)
theorem nw_cells {w w' : World} (h : Nw w w') {k : Nat} {o : Obj} (hk : w.heap[k]? = some o) : w'.heap[k]? = some o := by
  rw [h.grown.block k (Array.getElem?_eq_some_iff.1 hk).1 (by simp)]; exact hk
theorem ifbool_any (b : Bool) (w : World) : Calls Tryd.prog 46 #[.bool b] w fun e w' => e = .returned (.string ⟨(strB b).toArray⟩) ∧ w' = w := by
  cases b <;>
  · go_enter Tryd.func46, Tryd.ntmps46
    go_wp2
    go_ret
    exact ⟨rfl, rfl⟩
theorem fbool_any (b : Bool) (w : World) : Calls Tryd.prog 22 #[.bool b] w fun e w' => e = .returned (.string ⟨(strB b).toArray⟩) ∧ w' = w := by
  go_enter Tryd.func22, Tryd.ntmps22
  go_wp2_with fail
  refine (ifbool_any b w).mono ?_
  rintro e w' ⟨rfl, rfl⟩
  go_wp2
  go_ret
  exact ⟨rfl, rfl⟩
/-- One number and a blank. -/
theorem number_any (B b : Nat) (bs : List UInt8) (n : Nat) (w : World) (h : Bd B b bs w) (hn : n < 18446744073709551616) (hl : bs.length ≤ 1000000000000) (H : FmtAt w) (hB : B ≤ w.heap.size) :
    Calls Tryd.prog 18 #[.int .u64 n, .pointer (some ⟨b, 0, none⟩)] w fun e w' => e = .returned (.tuple #[]) ∧ Bd B b (bs ++ numK n) w' ∧ Below B w w' ∧ Ok5 b w w' := by
  have hd := dec_len n hn
  have HF := Lib.hid (fmt_any w H n hn)
  have HB := Lib.hid h
  clear H h
  go_enter Tryd.func18, Tryd.ntmps18
  go_wp2_with fail
  refine HF.out.mono ?_
  rintro e w1 ⟨rfl, hn1⟩
  have h1 := HB.out.nw hn1
  have l1 := bel_nw hn1 hB
  have o1 : Ok5 b w w1 := Ok5.of_nw hn1
  have H1 := Lib.hid h1
  clear h1
  go_wp2_with fail
  refine (bstr B b bs _ w1 H1.out (by omega) (by have := l1.size; omega)).mono ?_
  rintro e w2 ⟨rfl, h2, l2, o2⟩
  have H2 := Lib.hid h2
  clear h2
  go_wp2_with fail
  have c3 := bbyte B b _ 32 w2 H2.out (by simp; omega) (by have := l1.size; have := l2.size; omega)
  refine Calls.mono (by exact c3) ?_
  rintro e w3 ⟨rfl, h3, l3, o3⟩
  have H3 := Lib.hid h3
  clear h3
  go_wp2
  go_end0
  refine ⟨rfl, ?_, (l1.trans l2).trans l3, (o1.trans o2).trans o3⟩
  rw [numK_nat, ← List.append_assoc]
  exact H3.out
end Go.Proofs.YtahagplegmcaaaaDoor
