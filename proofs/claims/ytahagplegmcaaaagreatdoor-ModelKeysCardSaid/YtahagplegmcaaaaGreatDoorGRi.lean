import Derived.Test.YtahagplegmcaaaaGreatDoorGWk
import Derived.Lib.ItoaNum
import Derived.Test.YtahagplegmcaaaaGreatDoorGSlay
set_option linter.unusedVariables false
set_option linter.unusedSimpArgs false
set_option linter.unnecessarySimpa false
namespace Go.Proofs.YtahagplegmcaaaaGreatDoor
open Go.RowKit Go.Xt
/-! Two quiet operations of different threads, plain. -/
/-- What a quiet operation makes of the pairs and its thread. -/
def qM (l : List (Int × Int)) (x : Th) (o : Ox) : Rs × Th :=
  if chkO o ≠ 0 then (⟨chkO o, false, 0, 0, 0⟩, x)
  else if refE x o ≠ 0 then (⟨refE x o, false, 0, 0, 0⟩, x)
  else if o.k = 3 then (⟨0, hasK o.key l, 0, valL o.key l, 0⟩, x)
  else if o.k = 10 then (⟨0, false, 0, 0, l.length⟩, x)
  else if o.k = 11 then (r0, ⟨true, true, o.key, o.hi, x.se⟩)
  else if o.k = 12 then match nextL x.lo x.hi l with
    | none => (rEnd, x.fin)
    | some q => (⟨0, true, q.1, q.2, 0⟩, x.after q.1)
  else if o.k = 13 then (r0, x.from_ o.key)
  else if o.k = 14 then (r0, ⟨false, false, 0, 0, x.se⟩)
  else (r0, x)
def quietK (k : Int) : Bool := decide (k = 3) || (decide (10 ≤ k) && decide (k ≤ 15))
end Go.Proofs.YtahagplegmcaaaaGreatDoor
namespace Go.Proofs.YtahagplegmcaaaaGreatDoor
open Go.RowKit Go.Xt
/-! ModelAccepts and ModelRefuses, plain. -/
abbrev rRetry : Rs := ⟨11, false, 0, 0, 0⟩
end Go.Proofs.YtahagplegmcaaaaGreatDoor
namespace Go.Proofs.YtahagplegmcaaaaGreatDoor
open Go.RowKit Go.Xt
/-! Key: what it returns; its parts. -/
def numK (z : Int) : List UInt8 := Lib.decDigits z.toNat ++ [32]
def strB (b : Bool) : List UInt8 := if b = true then [116, 114, 117, 101] else [102, 97, 108, 115, 101]
def boolK (b : Bool) : List UInt8 := strB b ++ [32]
def thK (x : Th) : List UInt8 := boolK x.se ++ boolK x.op ++ boolK x.mo ++ numK x.lo ++ numK x.hi
def prK (q : Int × Int) : List UInt8 := numK q.1 ++ numK q.2
def keyB (s : Md) : List UInt8 := numK s.slots ++ numK s.th.length ++ s.th.flatMap thK ++ s.l.flatMap prK
def Th.U (x : Th) : Prop := (0 ≤ x.lo ∧ x.lo < 18446744073709551616) ∧ 0 ≤ x.hi ∧ x.hi < 18446744073709551616
/-- The numbers of a state that Key writes. -/
def Md.Nums (s : Md) : Prop := (0 ≤ s.slots ∧ s.slots < 9223372036854775808) ∧ ∀ x ∈ s.th, x.U
theorem numK_len {z : Int} (h : 0 ≤ z ∧ z < 18446744073709551616) : (numK z).length ≤ 21 := by
  have := dec_len z.toNat (by omega)
  simp [numK]; omega
theorem numK_nat (n : Nat) : numK (n : Int) = Lib.decDigits n ++ [32] := by simp [numK]
theorem boolK_len (b : Bool) : (boolK b).length ≤ 6 := by cases b <;> simp [boolK, strB]
theorem thK_len {x : Th} (h : x.U) : (thK x).length ≤ 60 := by
  have h1 := numK_len h.1
  have h2 := numK_len h.2
  have h3 := boolK_len x.se
  have h4 := boolK_len x.op
  have h5 := boolK_len x.mo
  simp only [thK, List.length_append]; omega
theorem flat_len {α : Type} (f : α → List UInt8) (c : Nat) : ∀ (l : List α), (∀ x ∈ l, (f x).length ≤ c) → (l.flatMap f).length ≤ c * l.length
  | [], _ => by simp
  | x :: l, h => by
    have h1 := flat_len f c l (fun y hy => h y (by simp [hy]))
    have h2 := h x (by simp)
    rw [List.flatMap_cons, List.length_append, List.length_cons, Nat.mul_succ]; omega
theorem take_flat {α : Type} (f : α → List UInt8) {l : List α} {k : Nat} {x : α} (h : l[k]? = some x) : (l.take (k + 1)).flatMap f = (l.take k).flatMap f ++ f x := by
  obtain ⟨p, e⟩ := List.getElem?_eq_some_iff.1 h
  rw [List.take_succ_eq_append_getElem p, e]; simp
-- worlds that hold a builder
theorem Ok5.refl (b : Nat) (w : World) : Ok5 b w w := Lib.OthersKept.refl _ _ w
theorem Ok5.of_nw {b : Nat} {w w' : World} (h : Nw w w') : Ok5 b w w' := fun k o hk _ _ => by
  rw [h.grown.block k (Array.getElem?_eq_some_iff.1 hk).1 (by simp)]; exact hk
theorem Bd.nw {B b : Nat} {bs : List UInt8} {w w' : World} (h : Bd B b bs w) (hn : Nw w w') : Bd B b bs w' := by
  have aux : ∀ p, Lib.BuilderAtF 91 5 B b p (Lib.byteCells bs) w → Lib.BuilderAtF 91 5 B b p (Lib.byteCells bs) w' := by
    rintro p ⟨hB, v, hb, hown, hne⟩
    exact ⟨hB, v, (hn.grown.block b (Array.getElem?_eq_some_iff.1 hb).1 (by simp)).trans hb, hown.kept hn.grown (by cases hv : v.ownBlock <;> simp), hne⟩
  exact h.elim (fun x => .inl (aux _ x)) (fun x => .inr (aux _ x))
theorem nw_bel {w W W' : World} (h : Nw w W) (hb : Below w.heap.size W W') : Nw w W' := .of_below (h.below.trans hb)
theorem bel_nw {B : Nat} {w w' : World} (h : Nw w w') (hB : B ≤ w.heap.size) : Below B w w' := h.below.mono hB
theorem Bd.zero (w : World) : Bd w.heap.size w.heap.size [] (w.alloc (.cells #[.pointer none, .slice none 0 0] 91)) :=
  .inl ⟨Nat.le_refl _, _, heap_alloc_new w _, World.ownsRowF_nil _ _ _ _, by simp [Value.ownBlock]⟩
theorem Ok5.cells {b : Nat} {w w' : World} (h : Ok5 b w w') {k : Nat} {c : Array Value} {T : TypeId} {fz : Nat × Nat} (hk : w.heap[k]? = some (.cells c T fz)) (hb : k ≠ b) (hT : T ≠ 5) : w'.heap[k]? = some (.cells c T fz) :=
  h k _ hk (fun e => hb (Option.some.inj e)) (fun c' fz' e => by injection e with _ e _; exact hT e)
theorem nw_cells {w w' : World} (h : Nw w w') {k : Nat} {o : Obj} (hk : w.heap[k]? = some o) : w'.heap[k]? = some o := by
  rw [h.grown.block k (Array.getElem?_eq_some_iff.1 hk).1 (by simp)]; exact hk
theorem ifbool_any (b : Bool) (w : World) : Calls Tryz.prog 73 #[.bool b] w fun e w' => e = .returned (.string ⟨(strB b).toArray⟩) ∧ w' = w := by
  cases b <;>
  · go_enter Tryz.func73, Tryz.ntmps73
    go_wp2
    go_ret
    exact ⟨rfl, rfl⟩
theorem fbool_any (b : Bool) (w : World) : Calls Tryz.prog 36 #[.bool b] w fun e w' => e = .returned (.string ⟨(strB b).toArray⟩) ∧ w' = w := by
  go_enter Tryz.func36, Tryz.ntmps36
  go_wp2_with fail
  refine (ifbool_any b w).mono ?_
  rintro e w' ⟨rfl, rfl⟩
  go_wp2
  go_ret
  exact ⟨rfl, rfl⟩
/-- One number and a blank. -/
theorem number_any (B b : Nat) (bs : List UInt8) (n : Nat) (w : World) (h : Bd B b bs w) (hn : n < 18446744073709551616) (hl : bs.length ≤ 1000000000000) (H : FmtAt w) (hB : B ≤ w.heap.size) :
    Calls Tryz.prog 32 #[.int .u64 n, .pointer (some ⟨b, 0, none⟩)] w fun e w' => e = .returned (.tuple #[]) ∧ Bd B b (bs ++ numK n) w' ∧ Below B w w' ∧ Ok5 b w w' := by
  have hd := dec_len n hn
  have HF := Lib.hid (fmt_any w H n hn)
  have HB := Lib.hid h
  clear H h
  go_enter Tryz.func32, Tryz.ntmps32
  go_wp2_with fail
  refine HF.out.mono ?_
  rintro e w1 ⟨rfl, hn1⟩
  have h1 := HB.out.nw hn1
  have l1 := bel_nw hn1 hB
  have o1 : Ok5 b w w1 := Ok5.of_nw hn1
  have H1 := Lib.hid h1
  clear h1
  go_wp2_with fail
  refine (bstr B b bs _ w1 H1.out (by omega) (by have := l1.size; omega)).mono ?_
  rintro e w2 ⟨rfl, h2, l2, o2⟩
  have H2 := Lib.hid h2
  clear h2
  go_wp2_with fail
  have c3 := bbyte B b _ 32 w2 H2.out (by simp; omega) (by have := l1.size; have := l2.size; omega)
  refine Calls.mono (by exact c3) ?_
  rintro e w3 ⟨rfl, h3, l3, o3⟩
  have H3 := Lib.hid h3
  clear h3
  go_wp2
  go_end0
  refine ⟨rfl, ?_, (l1.trans l2).trans l3, (o1.trans o2).trans o3⟩
  rw [numK_nat, ← List.append_assoc]
  exact H3.out
end Go.Proofs.YtahagplegmcaaaaGreatDoor
namespace Go.Proofs.YtahagplegmcaaaaGreatDoor
open Go.RowKit Go.Xt
/-! Key. -/
theorem own_ok5 {b base : Nat} {w w' : World} {e : TypeId} {size n : Nat} {v : Value} {xs : List Value} (h : w.ownsRow base e size v n xs) (ho : Ok5 b w w') (hb : b < base) (he : e ≠ 5) : w'.ownsRow base e size v n xs := by
  refine ⟨h.1, ?_⟩
  rcases h.2 with h1 | ⟨g, cap, cur, h1, h2, h3, h4⟩
  · exact .inl h1
  · exact .inr ⟨g, cap, cur, h1, h2, ho.cells h3 (by omega) he, h4⟩
theorem Bd.lt {B b : Nat} {bs : List UInt8} {w : World} (h : Bd B b bs w) : b < w.heap.size := h.elim (fun x => x.lt) (fun x => x.lt)
theorem cell3 {w : World} {q : Nat} {a b c : Bool} {T : TypeId} {fz : Nat × Nat} (h : w.heap[q]? = some (.cells #[.bool a, .bool b, .bool c] T fz)) {j : Nat} {v : Bool} (hj : [a, b, c][j]? = some v) : w.cell? ⟨q, j, none⟩ = some (.bool v) := by
  rw [Lib.cell_of_heap h]
  match j, hj with
  | 0, hj => simp at hj; subst hj; rfl
  | 1, hj => simp at hj; subst hj; rfl
  | 2, hj => simp at hj; subst hj; rfl
set_option maxRecDepth 20000 in
set_option maxHeartbeats 8000000 in
theorem key_M (w : World) (p : Pl) (s : Md) (h : MAt w p s) {N : Nat} (hok : s.Ok N) (hN : N ≤ 500000) (hnu : s.Nums) (H : FmtAt w) :
    Calls Tryz.prog 11 #[.pointer (some ⟨p.gm, 0, none⟩)] w fun e w' => e = .returned (.string ⟨(keyB s).toArray⟩) ∧ Nw w w' := by
  obtain ⟨gm, gt, gp, v⟩ := p
  obtain ⟨sl, l, th⟩ := s
  have m0 : w.cell? ⟨gm, 0, none⟩ = some (.int .i64 sl) := h.m0
  have m1 : w.cell? ⟨gm, 1, none⟩ = some (.pointer (some ⟨gp, 0, none⟩)) := h.m1
  obtain ⟨ct, m2⟩ : ∃ ct, w.cell? ⟨gm, 2, none⟩ = some (.slice (some ⟨gt, 0, none⟩) th.length ct) := h.m2
  have hll : l.length ≤ 500000 := Nat.le_trans hok.len hN
  have hlt : th.length ≤ 1000 := hok.thn
  have HP := Lib.hid (fun W (hw : Nw w W) => opairs_M (h.om.nw hw : OM W gp v l) (by show l.length ≤ 1000000; omega))
  have HT := Lib.hid (h.th : ThR w gt th)
  have HNU := Lib.hid hnu
  have HU6 := Lib.hid (hok.u64 : U64s l)
  have HF := Lib.hid H
  obtain ⟨sl, rfl⟩ : ∃ z : Nat, sl = (z : Int) := ⟨sl.toNat, by have h0 : 0 ≤ sl := hnu.1.1; omega⟩
  have hsl : sl < 9223372036854775808 := by have : (sl : Int) < _ := hnu.1.2; omega
  haveI : In gm w := ⟨h.im⟩
  haveI : In gt w := ⟨h.it⟩
  obtain ⟨n, hn⟩ : ∃ n, n = th.length := ⟨_, rfl⟩
  have HN := Lib.hid hn
  have hn9 : n ≤ 1000 := by omega
  rw [← hn] at m2
  have HLL := Lib.hid hll
  have HSL := Lib.hid hsl
  have isl : (sl : Int) < 9223372036854775808 := by omega
  have isl0 : (0 : Int) ≤ (sl : Int) := by omega
  have in9 : (n : Int) ≤ 1000 := by omega
  have in0 : (0 : Int) ≤ (n : Int) := by omega
  simp only
  clear h hok hnu H hn hlt hll hsl
  go_enter Tryz.func11, Tryz.ntmps11
  go_wp2_with fail
  refine (number_any w.heap.size w.heap.size [] sl _ (Bd.zero w) (by omega) (by simp) (HF.out.nw ((by repeat (first | exact Xt.Nw.refl _ | refine Xt.Nw.drew ?_ | refine Xt.Nw.drewN ?_ _ | refine Xt.Nw.alloc ?_ _ | refine Xt.Nw.joined ?_ | refine Xt.Nw.drewd ?_ | refine Xt.Nw.drewdN ?_ | refine Xt.Nw.ext ?_ | refine Xt.Nw.ext_some ?_ (by assumption) | refine Xt.Nw.setCell ?_ (by simp [go_sem] <;> omega) _)))) (by simp)).mono ?_
  rintro e w1 ⟨rfl, b1, l1, o1⟩
  obtain ⟨d1, rfl⟩ : Nw w w1 := nw_bel (by exact (by repeat (first | exact Xt.Nw.refl _ | refine Xt.Nw.drew ?_ | refine Xt.Nw.drewN ?_ _ | refine Xt.Nw.alloc ?_ _ | refine Xt.Nw.joined ?_ | refine Xt.Nw.drewd ?_ | refine Xt.Nw.drewdN ?_ | refine Xt.Nw.ext ?_ | refine Xt.Nw.ext_some ?_ (by assumption) | refine Xt.Nw.setCell ?_ (by simp [go_sem] <;> omega) _))) l1
  have B1 := Lib.hid b1
  have hk1 := numK_len (z := (sl : Int)) (by omega)
  have hk2 := numK_len (z := (n : Int)) (by omega)
  clear b1 l1 o1
  go_wp2_with fail
  refine (number_any w.heap.size w.heap.size _ n _ B1.out (by omega) (by simp; omega) (HF.out.nw ((by repeat (first | exact Xt.Nw.refl _ | refine Xt.Nw.drew ?_ | refine Xt.Nw.drewN ?_ _ | refine Xt.Nw.alloc ?_ _ | refine Xt.Nw.joined ?_ | refine Xt.Nw.drewd ?_ | refine Xt.Nw.drewdN ?_ | refine Xt.Nw.ext ?_ | refine Xt.Nw.ext_some ?_ (by assumption) | refine Xt.Nw.setCell ?_ (by simp [go_sem] <;> omega) _)))) (by exact (gext w none d1).size)).mono ?_
  rintro e w2 ⟨rfl, b2, l2, o2⟩
  obtain ⟨d2, rfl⟩ : Nw w w2 := nw_bel ⟨_, rfl⟩ l2
  have B2 := Lib.hid b2
  clear b2 l2 o2 B1
  go_wp2_with fail
  go_loopw [34] (fun a wr => ∃ m : Nat, m ≤ n ∧ a = .int .i64 m ∧ Nw w wr ∧ Hid (Bd w.heap.size w.heap.size (numK sl ++ numK n ++ (th.take m).flatMap thK) wr)) (fun a _ => n - (intOf a).toNat)
  case atStart => exact ⟨0, by omega, rfl, ⟨_, rfl⟩, by simpa using B2⟩
  case round =>
    obtain ⟨m, hm, rfl, ⟨d, rfl⟩, HB⟩ := hrel
    clear B2
    by_cases hmn : m < n
    · obtain ⟨x, hx⟩ : ∃ x, th[m]? = some x := ⟨_, List.getElem?_eq_getElem (by have := HN.out; omega)⟩
      have hU := HNU.out.2 x (List.mem_of_getElem? hx)
      obtain ⟨xo, xm, xl, xh, xs⟩ := x
      obtain ⟨xl, rfl⟩ : ∃ z : Nat, xl = (z : Int) := ⟨xl.toNat, by have h0 : 0 ≤ xl := hU.1.1; omega⟩
      obtain ⟨xh, rfl⟩ : ∃ z : Nat, xh = (z : Int) := ⟨xh.toNat, by have h0 : 0 ≤ xh := hU.2.1; omega⟩
      have hxl : xl < 18446744073709551616 := by have h0 : (xl : Int) < _ := hU.1.2; omega
      have hxh : xh < 18446744073709551616 := by have h0 : (xh : Int) < _ := hU.2.2; omega
      obtain ⟨c0, c1, c2, c3, c4⟩ := HT.out.cells hx
      simp only at c0 c1 c2 c3 c4
      have HX := Lib.hid hx
      have i1 : (m : Int) < (n : Int) := by omega
      have i0 : (0 : Int) ≤ (m : Int) := by omega
      have HMN := Lib.hid hmn
      have HXL := Lib.hid hxl
      have HXH := Lib.hid hxh
      have hpre : (numK sl ++ numK n ++ (th.take m).flatMap thK).length ≤ 100000 := by
        have h1 := flat_len thK 60 (th.take m) (fun x hx => thK_len (HNU.out.2 x (List.mem_of_mem_take hx)))
        have h2 := List.length_take_le m th
        rw [List.length_append, List.length_append]; omega
      have HPRE := Lib.hid hpre
      clear hx hmn hm hU hxl hxh hpre
      go_wp2_with fail
      clear c0 c1 c2 c3 c4
      obtain ⟨q, hq⟩ : ∃ q, q = (w.ext none d).heap.size := ⟨_, rfl⟩
      have hqB : w.heap.size < q := by rw [hq]; exact HB.out.lt
      obtain ⟨W3, hW3⟩ : ∃ W3, W3 = ((w.ext none d).alloc (.cells #[.bool xo, .bool xm, .int .u64 xl, .int .u64 xh, .bool xs] 101)).alloc (.cells #[.bool xs, .bool xo, .bool xm] 4) := ⟨_, rfl⟩
      have hn3 : Nw (w.ext none d) W3 := by rw [hW3]; exact ((Nw.refl _).alloc _).alloc _
      have b3 := HB.out.nw hn3
      have k6 : W3.heap[q]? = some (.cells #[.bool xo, .bool xm, .int .u64 xl, .int .u64 xh, .bool xs] 101) := by rw [hW3, hq, Lib.alloc_old _ _ _ (by simp)]; exact heap_alloc_new _ _
      have k8 : W3.heap[q + 1]? = some (.cells #[.bool xs, .bool xo, .bool xm] 4) := by
        rw [hW3, hq, show (w.ext none d).heap.size + 1 = ((w.ext none d).alloc (.cells #[.bool xo, .bool xm, .int .u64 xl, .int .u64 xh, .bool xs] 101)).heap.size by simp]
        exact heap_alloc_new _ _
      have HS := Lib.hid (⟨Nw.trans ⟨d, rfl⟩ hn3, b3, k6, k8⟩ : Nw w W3 ∧ Bd w.heap.size w.heap.size (numK sl ++ numK n ++ (th.take m).flatMap thK) W3 ∧ W3.heap[q]? = some (.cells #[.bool xo, .bool xm, .int .u64 xl, .int .u64 xh, .bool xs] 101) ∧ W3.heap[q + 1]? = some (.cells #[.bool xs, .bool xo, .bool xm] 4))
      rw [← hq, ← hW3]
      clear hW3 hq hn3 b3 k6 k8
      go_loopw [8, 48] (fun _ a wr => ∃ j : Nat, j ≤ 3 ∧ a = .int .i64 j ∧ Nw w wr ∧ Hid (Bd w.heap.size w.heap.size (numK sl ++ numK n ++ (th.take m).flatMap thK ++ ([xs, xo, xm].take j).flatMap boolK) wr ∧ wr.heap[q]? = some (.cells #[.bool xo, .bool xm, .int .u64 xl, .int .u64 xh, .bool xs] 101) ∧ wr.heap[q + 1]? = some (.cells #[.bool xs, .bool xo, .bool xm] 4))) (fun _ a _ => 3 - (intOf a).toNat)
      case atStart => exact ⟨0, by omega, rfl, HS.out.1, Lib.hid ⟨by simpa using HS.out.2.1, HS.out.2.2.1, HS.out.2.2.2⟩⟩
      case round =>
        obtain ⟨j, hj, rfl, ⟨dd, rfl⟩, HJ⟩ := hrel
        by_cases hj3 : j < 3
        · obtain ⟨bv, hbv⟩ : ∃ bv, [xs, xo, xm][j]? = some bv := ⟨_, List.getElem?_eq_getElem (by simpa using hj3)⟩
          have cj := cell3 HJ.out.2.2 hbv
          have HBV := Lib.hid hbv
          have j0 : (0 : Int) ≤ (j : Int) := by omega
          have j1 : (j : Int) < 3 := by omega
          have HJ3 := Lib.hid hj3
          clear hbv hj3
          go_wp2_with fail
          refine (fbool_any bv _).mono ?_
          rintro e w4 ⟨rfl, rfl⟩
          go_wp2_with fail
          have hlen : (numK sl ++ numK n ++ (th.take m).flatMap thK ++ ([xs, xo, xm].take j).flatMap boolK).length ≤ 200000 := by
            have h1 := HPRE.out
            have h2 := flat_len boolK 6 ([xs, xo, xm].take j) (fun b _ => boolK_len b)
            have h3 := List.length_take_le j [xs, xo, xm]
            have h4 := HJ3.out
            rw [List.length_append]; omega
          have hsb : (strB bv).length ≤ 5 := by cases bv <;> decide
          have hw0 : w.heap.size ≤ (w.ext none dd).heap.size := (gext w none dd).size
          refine (bstr w.heap.size w.heap.size _ (strB bv) _ HJ.out.1 (by omega) hw0).mono ?_
          rintro e w5 ⟨rfl, b5, l5, o5⟩
          have s5 := l5.size
          have H5 := Lib.hid (⟨b5, l5, o5⟩ : Bd w.heap.size w.heap.size _ w5 ∧ Below w.heap.size (w.ext none dd) w5 ∧ Ok5 w.heap.size (w.ext none dd) w5)
          have hlen2 : ((numK sl ++ numK n ++ (th.take m).flatMap thK ++ ([xs, xo, xm].take j).flatMap boolK) ++ strB bv).length + 1 ≤ 140737488355328 := by rw [List.length_append]; omega
          have hw5 : w.heap.size ≤ w5.heap.size := by omega
          clear b5 l5 o5
          go_wp2_with fail
          have c6 := bbyte w.heap.size w.heap.size _ 32 w5 H5.out.1 hlen2 hw5
          refine Calls.mono (by exact c6) ?_
          rintro e w6 ⟨rfl, b6, l6, o6⟩
          have hn6 : Nw w w6 := nw_bel ⟨_, rfl⟩ (H5.out.2.1.trans l6)
          have oo : Ok5 w.heap.size (w.ext none dd) w6 := H5.out.2.2.trans o6
          have b6' : Bd w.heap.size w.heap.size (numK sl ++ numK n ++ (th.take m).flatMap thK ++ ([xs, xo, xm].take (j + 1)).flatMap boolK) w6 := by
            rw [take_flat boolK HBV.out, boolK]
            simpa only [List.append_assoc] using b6
          have HZ := Lib.hid (⟨b6', oo.cells HJ.out.2.1 (by omega) (by decide), oo.cells HJ.out.2.2 (by omega) (by decide)⟩ : Bd w.heap.size w.heap.size (numK sl ++ numK n ++ (th.take m).flatMap thK ++ ([xs, xo, xm].take (j + 1)).flatMap boolK) w6 ∧ w6.heap[q]? = some (.cells #[.bool xo, .bool xm, .int .u64 xl, .int .u64 xh, .bool xs] 101) ∧ w6.heap[q + 1]? = some (.cells #[.bool xs, .bool xo, .bool xm] 4))
          clear b6 l6 o6 oo b6'
          go_wp2
          exact ⟨⟨j + 1, by have := HJ3.out; omega, by go_num, hn6, HZ⟩, by have := HJ3.out; simp [intOf]; omega⟩
        · have e3 : j = 3 := by omega
          subst e3
          clear hj hj3
          have d2 : (w.ext none dd).cell? ⟨q, 2, none⟩ = some (.int .u64 xl) := by rw [Lib.cell_of_heap HJ.out.2.1]; rfl
          have hw0 : w.heap.size ≤ (w.ext none dd).heap.size := (gext w none dd).size
          have hlen : (numK sl ++ numK n ++ (th.take m).flatMap thK ++ ([xs, xo, xm].take 3).flatMap boolK).length ≤ 200000 := by
            have h1 := HPRE.out
            have h2 := flat_len boolK 6 ([xs, xo, xm].take 3) (fun b _ => boolK_len b)
            have h3 := List.length_take_le 3 [xs, xo, xm]
            rw [List.length_append]; omega
          go_wp2_with fail
          refine (number_any w.heap.size w.heap.size _ xl _ HJ.out.1 HXL.out (by omega) (HF.out.nw ⟨_, rfl⟩) hw0).mono ?_
          rintro e w7 ⟨rfl, b7, l7, o7⟩
          have d3 : w7.cell? ⟨q, 3, none⟩ = some (.int .u64 xh) := by rw [Lib.cell_of_heap (o7.cells HJ.out.2.1 (by omega) (by decide))]; rfl
          have hk7 := numK_len (z := (xl : Int)) (by have := HXL.out; omega)
          have hlen7 : (numK sl ++ numK n ++ (th.take m).flatMap thK ++ ([xs, xo, xm].take 3).flatMap boolK ++ numK xl).length ≤ 1000000000000 := by rw [List.length_append]; omega
          have hn7 : Nw w w7 := nw_bel ⟨_, rfl⟩ l7
          have hw7 : w.heap.size ≤ w7.heap.size := hn7.grown.size
          have H7 := Lib.hid b7
          have HN7 := Lib.hid hn7
          clear b7 l7 o7 hn7 d2 hlen
          go_wp2_with fail
          refine (number_any w.heap.size w.heap.size _ xh _ H7.out HXH.out hlen7 (HF.out.nw HN7.out) hw7).mono ?_
          rintro e w8 ⟨rfl, b8, l8, o8⟩
          have hn8 : Nw w w8 := nw_bel HN7.out l8
          have b8' : Bd w.heap.size w.heap.size (numK sl ++ numK n ++ (th.take (m + 1)).flatMap thK) w8 := by
            rw [take_flat thK HX.out, thK]
            simpa [List.append_assoc] using b8
          have H8 := Lib.hid b8'
          clear b8 b8' l8 o8 d3
          go_wp2
          exact ⟨⟨m + 1, by have := HMN.out; omega, by go_num, hn8, H8⟩, by have := HMN.out; simp [intOf]; omega⟩
    · have em : m = n := by omega
      subst em
      have hb9 : Bd w.heap.size w.heap.size (numK sl ++ numK m ++ th.flatMap thK) (w.ext none d) := by
        have h := HB.out
        rw [List.take_of_length_le (by have := HN.out; omega)] at h; exact h
      have hlen9 : (numK sl ++ numK m ++ th.flatMap thK).length ≤ 100000 := by
        have h1 := flat_len thK 60 th (fun x hx => thK_len (HNU.out.2 x hx))
        have h2 := HN.out
        rw [List.length_append, List.length_append]; omega
      have H9 := Lib.hid hb9
      have HL9 := Lib.hid hlen9
      clear HB hb9 hlen9 hmn hm
      go_wp2_with fail
      refine (HP.out _ ⟨_, rfl⟩).mono ?_
      rintro e w10 ⟨v', rfl, hown, hn10⟩
      have hBn : w.heap.size < (w.ext none d).heap.size := H9.out.lt
      have b10 := H9.out.nw hn10
      obtain ⟨B2, hB2⟩ : ∃ z, z = (w.ext none d).heap.size := ⟨_, rfl⟩
      rw [← hB2] at hown hBn
      obtain ⟨A, c, rfl⟩ : ∃ A c, v' = .slice A l.length c := by
        rcases own_forms hown with ⟨h1, h2⟩ | ⟨g, cap, h1, _⟩
        · exact ⟨none, 0, by rw [h1, h2]⟩
        · exact ⟨_, _, h1⟩
      obtain ⟨k9, hk9⟩ : ∃ z, z = l.length := ⟨_, rfl⟩
      rw [← hk9] at hown
      have HK9 := Lib.hid hk9
      have hn11 : Nw w w10 := Nw.trans ⟨d, rfl⟩ hn10
      have H10 := Lib.hid (⟨b10, hown⟩ : Bd w.heap.size w.heap.size (numK sl ++ numK m ++ th.flatMap thK) w10 ∧ w10.ownsRow B2 106 2 (.slice A k9 c) k9 (pcells l))
      rw [← hk9]
      have hk10 : (k9 : Int) ≤ 500000 := by have := HLL.out; omega
      have hk11 : (0 : Int) ≤ (k9 : Int) := by omega
      clear hown hn10 b10 hk9 hB2
      go_wp2_with fail
      go_loopw [76] (fun a wr => ∃ k : Nat, k ≤ k9 ∧ a = .int .i64 k ∧ Nw w wr ∧ Hid (Bd w.heap.size w.heap.size (numK sl ++ numK m ++ th.flatMap thK ++ (l.take k).flatMap prK) wr ∧ wr.ownsRow B2 106 2 (.slice A k9 c) k9 (pcells l))) (fun a _ => k9 - (intOf a).toNat)
      case atStart => exact ⟨0, by omega, rfl, hn11, Lib.hid ⟨by simpa using H10.out.1, H10.out.2⟩⟩
      case round =>
        clear hn11
        obtain ⟨k, hk, rfl, ⟨dk, rfl⟩, HK⟩ := hrel
        clear H10
        have hw0 : w.heap.size ≤ (w.ext none dk).heap.size := (gext w none dk).size
        have hlk : (numK sl ++ numK m ++ th.flatMap thK ++ (l.take k).flatMap prK).length ≤ 100000 + 42 * 500000 := by
          have h1 := HL9.out
          have h2 := flat_len prK 42 (l.take k) (fun q hq => by
            have hu := HU6.out q (List.mem_of_mem_take hq)
            have a1 := numK_len hu.1
            have a2 := numK_len hu.2
            rw [prK, List.length_append]; omega)
          have h3 := List.length_take_le k l
          have h4 := HLL.out
          have h5 := HK9.out
          have h6 := List.length_take_le' k l
          rw [List.length_append]; omega
        by_cases hkk : k < k9
        · obtain ⟨⟨qk, qv⟩, hq⟩ : ∃ q, l[k]? = some q := ⟨_, List.getElem?_eq_getElem (by have := HK9.out; omega)⟩
          have hu := HU6.out _ (List.mem_of_getElem? hq)
          obtain ⟨g, rfl, hg⟩ : ∃ g, A = some ⟨g, 0, none⟩ ∧ g < (w.ext none dk).heap.size := by
            rcases own_forms HK.out.2 with ⟨h1, h2⟩ | ⟨g, cap, h1, _, h3, _⟩
            · omega
            · injection h1 with h1 _ _; exact ⟨g, h1, h3.lt⟩
          have hc := pcells_get l k _ hq
          obtain ⟨qk, rfl⟩ : ∃ z : Nat, qk = (z : Int) := ⟨qk.toNat, by have h0 : 0 ≤ qk := hu.1.1; omega⟩
          obtain ⟨qv, rfl⟩ : ∃ z : Nat, qv = (z : Int) := ⟨qv.toNat, by have h0 : 0 ≤ qv := hu.2.1; omega⟩
          have hqk : qk < 18446744073709551616 := by have h0 : (qk : Int) < _ := hu.1.2; omega
          have hqv : qv < 18446744073709551616 := by have h0 : (qv : Int) < _ := hu.2.2; omega
          have c0 : (w.ext none dk).cell? ⟨g, k * 2, none⟩ = some (.int .u64 qk) := (World.ownsRow.cellAt HK.out.2 _ (by omega)).trans hc.1
          have c1 : (w.ext none dk).cell? ⟨g, k * 2 + 1, none⟩ = some (.int .u64 qv) := (World.ownsRow.cellAt HK.out.2 _ (by omega)).trans hc.2
          have HQ := Lib.hid hq
          have HKK := Lib.hid hkk
          have HQV := Lib.hid hqv
          have j0 : (0 : Int) ≤ (k : Int) := by omega
          have j1 : (k : Int) < (k9 : Int) := by omega
          clear hq hc hu hkk hqv hk
          go_wp2_with fail
          clear c0 c1
          obtain ⟨W3, hW3⟩ : ∃ W3, W3 = (w.ext none dk).alloc (.cells #[.int .u64 qk, .int .u64 qv] 106) := ⟨_, rfl⟩
          obtain ⟨q, hq⟩ : ∃ q, q = (w.ext none dk).heap.size := ⟨_, rfl⟩
          have hn3 : Nw (w.ext none dk) W3 := by rw [hW3]; exact (Nw.refl _).alloc _
          have b3 := HK.out.1.nw hn3
          have r3 := own_nw HK.out.2 hn3
          have hqB : q ≠ w.heap.size := by have := HK.out.1.lt; omega
          have k3 : W3.heap[q]? = some (.cells #[.int .u64 qk, .int .u64 qv] 106) := by rw [hW3, hq]; exact heap_alloc_new _ _
          have hw3 : w.heap.size ≤ W3.heap.size := Nat.le_trans hw0 hn3.grown.size
          have hnw3 : Nw w W3 := Nw.trans ⟨dk, rfl⟩ hn3
          rw [← hq, ← hW3]
          clear hW3 hq hn3
          refine (number_any w.heap.size w.heap.size _ qk W3 b3 hqk (by omega) (HF.out.nw hnw3) hw3).mono ?_
          rintro e w7 ⟨rfl, b7, l7, o7⟩
          have d3 : w7.cell? ⟨q, 1, none⟩ = some (.int .u64 qv) := by rw [Lib.cell_of_heap (o7.cells k3 hqB (by decide))]; rfl
          have hk7 := numK_len (z := (qk : Int)) (by omega)
          have hlen7 : (numK sl ++ numK m ++ th.flatMap thK ++ (l.take k).flatMap prK ++ numK qk).length ≤ 1000000000000 := by rw [List.length_append]; omega
          have hn7 : Nw w w7 := nw_bel hnw3 l7
          have hw7 : w.heap.size ≤ w7.heap.size := hn7.grown.size
          have H7 := Lib.hid b7
          have HN7 := Lib.hid hn7
          have HR7 := Lib.hid (own_ok5 r3 o7 hBn (by decide))
          clear b7 l7 o7 hn7 b3 r3 k3 hnw3
          go_wp2_with fail
          refine (number_any w.heap.size w.heap.size _ qv _ H7.out HQV.out hlen7 (HF.out.nw HN7.out) hw7).mono ?_
          rintro e w8 ⟨rfl, b8, l8, o8⟩
          have hn8 : Nw w w8 := nw_bel HN7.out l8
          have b8' : Bd w.heap.size w.heap.size (numK sl ++ numK m ++ th.flatMap thK ++ (l.take (k + 1)).flatMap prK) w8 := by
            rw [take_flat prK HQ.out, prK]
            simpa [List.append_assoc] using b8
          have H8 := Lib.hid (⟨b8', own_ok5 HR7.out o8 hBn (by decide)⟩ : Bd w.heap.size w.heap.size (numK sl ++ numK m ++ th.flatMap thK ++ (l.take (k + 1)).flatMap prK) w8 ∧ w8.ownsRow B2 106 2 (.slice (some ⟨g, 0, none⟩) k9 c) k9 (pcells l))
          clear b8 b8' l8 o8 d3
          go_wp2
          exact ⟨⟨k + 1, by have := HKK.out; omega, by go_num, hn8, H8⟩, by have := HKK.out; simp [intOf]; omega⟩
        · have ek : k = k9 := by omega
          subst ek
          have hbz : Bd w.heap.size w.heap.size (keyB ⟨sl, l, th⟩) (w.ext none dk) := by
            have h := HK.out.1
            rw [List.take_of_length_le (by have := HK9.out; omega)] at h
            have e : numK (th.length : Int) = numK (m : Int) := by rw [← HN.out]
            unfold keyB
            simp only
            rw [e]; exact h
          have hne : keyB ⟨sl, l, th⟩ ≠ [] := by
            intro h
            have : (keyB ⟨sl, l, th⟩).length = 0 := by rw [h]; rfl
            unfold keyB numK at this
            simp at this
          go_wp2_with fail
          refine (bget w.heap.size w.heap.size _ _ hbz hne).mono ?_
          rintro e w12 ⟨rfl, l12⟩
          have hn12 : Nw w w12 := nw_bel ⟨_, rfl⟩ l12
          go_wp2
          exact bodyPost_ret (results_tmp rfl _ _ _) rfl ⟨rfl, hn12⟩
end Go.Proofs.YtahagplegmcaaaaGreatDoor
