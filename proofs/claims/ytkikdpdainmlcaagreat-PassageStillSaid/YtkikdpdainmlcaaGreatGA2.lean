import Derived.Test.YtkikdpdainmlcaaGreatGA
import Derived.Deep.MidRow
import Derived.Deep.WholeRow
import Derived.Deep.RegionHeld3
import Derived.Deep.DeepCutAuto
import Derived.RangeFuncNested
import Derived.RangeFuncBound
import Derived.RangeFuncCalls
import Derived.RangeFuncLeaves
import Derived.RangeFuncBox
import Derived.OwnWalkIn
import Derived.TacticsInMore
import Derived.LoopNIn
import Derived.LoopIn
set_option linter.unusedVariables false
set_option linter.unusedSimpArgs false
set_option linter.unnecessarySimpa false
namespace Go.Proofs.YtkikdpdainmlcaaGreat
open Go.RowKit Go.Xt
theorem boxed (w : World) (c : Cl) (T : TypeId) : AtC (w.alloc (.cells #[.int .i64 c.th, .int .i64 c.ix, .int .u8 c.kd, .int .u64 c.ka, .int .u64 c.kb, .int .u64 c.kc, .int .u64 c.kx, .int .u64 c.ky, .int .u64 c.kz, .int .i64 c.inv, .int .i64 c.took, .int .i64 c.ans, .int .i64 c.st, .int .i64 c.re, .bool c.rf, .int .u64 c.rk, .int .u64 c.rv, .int .i64 c.rc] T)) w.heap.size 0 c := by
  unfold AtC
  refine ⟨?_, ?_, ?_, ?_, ?_, ?_, ?_, ?_, ?_, ?_, ?_, ?_, ?_, ?_, ?_, ?_, ?_, ?_⟩ <;> (rw [World.cell?_alloc_new]; rfl)
theorem AtC.alloc {w : World} {b o : Nat} {c : Cl} (h : AtC w b o c) (hb : b < w.heap.size) (x : Obj) : AtC (w.alloc x) b o c := by
  have e : ∀ i, (w.alloc x).cell? ⟨b, i, none⟩ = w.cell? ⟨b, i, none⟩ := fun i => World.cell?_of_block (RowKit.Below.heap_alloc w x b hb)
  simpa only [AtC, e] using h
theorem AtC.range {w : World} {b o : Nat} {c : Cl} (h : AtC w b o c) : w.rangeAt b o (cl c) := by
  obtain ⟨a0, a1, a2, a3, a4, a5, a6, a7, a8, a9, a10, a11, a12, a13, a14, a15, a16, a17⟩ := h
  intro j v hv
  match j, hv with
  | 0, hv => cases hv; exact a0
  | 1, hv => cases hv; exact a1
  | 2, hv => cases hv; exact a2
  | 3, hv => cases hv; exact a3
  | 4, hv => cases hv; exact a4
  | 5, hv => cases hv; exact a5
  | 6, hv => cases hv; exact a6
  | 7, hv => cases hv; exact a7
  | 8, hv => cases hv; exact a8
  | 9, hv => cases hv; exact a9
  | 10, hv => cases hv; exact a10
  | 11, hv => cases hv; exact a11
  | 12, hv => cases hv; exact a12
  | 13, hv => cases hv; exact a13
  | 14, hv => cases hv; exact a14
  | 15, hv => cases hv; exact a15
  | 16, hv => cases hv; exact a16
  | 17, hv => cases hv; exact a17
  | j + 18, hv => cases hv
theorem sizeCall : (Tryz.prog.info? 45).map (·.size) = some 18 := by kernel_rfl
class CallAt (w : World) (b o : Nat) (c : outParam Cl) : Prop where
  at_ : AtC w b o c
  lt : b < w.heap.size
instance {w d : World} {b o : Nat} {c : Cl} [h : CallAt w b o c] : CallAt (w.ext none d) b o c := ⟨h.at_.ext h.lt d, Nat.lt_of_lt_of_le h.lt (le_size _ _ _)⟩
instance {w : World} {b o : Nat} {c : Cl} {x : Obj} [h : CallAt w b o c] : CallAt (w.alloc x) b o c := ⟨h.at_.alloc h.lt x, by have := h.lt; simp; omega⟩
instance {w : World} {b o : Nat} {c : Cl} [h : CallAt w b o c] : CallAt w.drew b o c := ⟨h.at_, h.lt⟩
instance {w : World} {b o n : Nat} {c : Cl} [h : CallAt w b o c] : CallAt (w.drewN n) b o c := ⟨h.at_, h.lt⟩
instance {w d : World} {b o : Nat} {c : Cl} [h : CallAt w b o c] : CallAt (w.reg d) b o c := ⟨h.at_.ext h.lt d, Nat.lt_of_lt_of_le h.lt (le_size _ _ _)⟩
instance {w : World} {c : Cl} {T : TypeId} : CallAt (w.alloc (.cells #[.int .i64 c.th, .int .i64 c.ix, .int .u8 c.kd, .int .u64 c.ka, .int .u64 c.kb, .int .u64 c.kc, .int .u64 c.kx, .int .u64 c.ky, .int .u64 c.kz, .int .i64 c.inv, .int .i64 c.took, .int .i64 c.ans, .int .i64 c.st, .int .i64 c.re, .bool c.rf, .int .u64 c.rk, .int .u64 c.rv, .int .i64 c.rc] T)) w.heap.size 0 c := ⟨boxed w c T, by simp⟩
def loadCall (p : Value) : Sem Value := Instr.loadAt 45 p
def storeCall (p v : Value) : Sem Unit := Instr.storeAt 45 p v
@[go_sem ↓] theorem loadCall_in (p : Value) : Instr.loadAt 45 p = loadCall p := rfl
@[go_sem ↓] theorem storeCall_in (p v : Value) : Instr.storeAt 45 p v = storeCall p v := rfl
@[go_sem] theorem run_loadCall {w : World} {b o : Nat} {c : Cl} [h : CallAt w b o c] : (loadCall (.pointer (some ⟨b, o, none⟩))).run Tryz.prog w = .ok (cv c) w :=
  run_loadAt_mid w b o 45 (cl c) _ h.at_.range Tryz.underlying45 rfl sizeCall
@[go_sem] theorem run_storeCall {w : World} {c : Cl} {z : Array Value} (hz : z.size = 18) :
    (storeCall (.pointer (some ⟨w.heap.size, 0, none⟩)) (cv c)).run Tryz.prog (w.alloc (.cells z 45)) = .ok () (w.alloc (.cells #[.int .i64 c.th, .int .i64 c.ix, .int .u8 c.kd, .int .u64 c.ka, .int .u64 c.kb, .int .u64 c.kc, .int .u64 c.kx, .int .u64 c.ky, .int .u64 c.kz, .int .i64 c.inv, .int .i64 c.took, .int .i64 c.ans, .int .i64 c.st, .int .i64 c.re, .bool c.rf, .int .u64 c.rk, .int .u64 c.rv, .int .i64 c.rc] 45)) := by
  unfold storeCall Instr.storeAt
  simp only [Instr.sureAddr, Sem.run_bind, Sem.run_pure, Result.andThen]
  exact run_storeVar_new w 45 z #[.int .i64 c.th, .int .i64 c.ix, .int .u8 c.kd, .int .u64 c.ka, .int .u64 c.kb, .int .u64 c.kc, .int .u64 c.kx, .int .u64 c.ky, .int .u64 c.kz, .int .i64 c.inv, .int .i64 c.took, .int .i64 c.ans, .int .i64 c.st, .int .i64 c.re, .bool c.rf, .int .u64 c.rk, .int .u64 c.rv, .int .i64 c.rc] sizeCall (by rw [hz]; rfl) (by simp [Value.oneCell'])
end Go.Proofs.YtkikdpdainmlcaaGreat
namespace Go.Proofs.YtkikdpdainmlcaaGreat
open Go.RowKit Go.Xt
end Go.Proofs.YtkikdpdainmlcaaGreat
namespace Go.Proofs.YtkikdpdainmlcaaGreat
open Go.RowKit Go.Xt
def ofT (t : Int) (l : List Cl) : List Cl := l.filter fun c => c.th == t
theorem ofT_succ (t : Int) {l : List Cl} {k : Nat} {x : Cl} (hx : l[k]? = some x) : ofT t (l.take (k + 1)) = ofT t (l.take k) ++ if x.th = t then [x] else [] := by
  rw [ofT, ftake _ hx]; simp [ofT]
def lastAt (t : Int) (l : List Cl) : Nat → Int
  | 0 => -1
  | k + 1 => if (l[k]?.map Cl.th) = some t then (k : Int) else lastAt t l k
theorem lastAt_succ (t : Int) {l : List Cl} {k : Nat} {x : Cl} (hx : l[k]? = some x) : lastAt t l (k + 1) = if x.th = t then (k : Int) else lastAt t l k := by
  rw [lastAt, hx]; simp
end Go.Proofs.YtkikdpdainmlcaaGreat
namespace Go.Proofs.YtkikdpdainmlcaaGreat
open Go.RowKit Go.Xt
def ordF (p : List Cl) (x : Cl) : Bool := decide (0 ≤ x.th) && (decide (x.th < 64) && (decide (x.ix = ((ofT x.th p).length : Nat)) && (decide (0 ≤ x.inv) && match p.getLast? with | some z => decide (z.inv < x.inv) | none => true)))
def aftF (p : List Cl) (x : Cl) : Bool := match (ofT x.th p).getLast? with | some z => bf z x | none => true
def apaF (p : List Cl) (x : Cl) : Bool := p.all fun y => y.th == x.th || !meetF y x
def goodP (p : List Cl) (x : Cl) : Bool := ordF p x && (effF x && (endF x && (aftF p x && apaF p x)))
theorem take_last {l : List Cl} {j : Nat} {z : Cl} (h : l[j]? = some z) : (l.take (j + 1)).getLast? = some z := by
  obtain ⟨p1, q1⟩ := List.getElem?_eq_some_iff.1 h
  rw [List.take_succ_eq_append_getElem p1, q1]; simp
end Go.Proofs.YtkikdpdainmlcaaGreat
namespace Go.Proofs.YtkikdpdainmlcaaGreat
open Go.RowKit Go.Xt
def badFrom (l : List Cl) : Nat → Nat → Option Nat
  | _, 0 => none
  | i, f + 1 => match l[i]? with
    | none => none
    | some x => if goodP (l.take i) x then badFrom l (i + 1) f else some i
def bad (l : List Cl) : Option Nat := badFrom l 0 l.length
def chkV (l : List Cl) : Value := match bad l with | some i => .tuple #[.int .i64 (i : Int), .int .i64 15] | none => .tuple #[.int .i64 0, .int .i64 0]
theorem badFrom_none (l : List Cl) : ∀ (f i : Nat), i + f = l.length → (badFrom l i f = none ↔ ∀ (j : Nat) (x : Cl), i ≤ j → l[j]? = some x → goodP (l.take j) x = true)
  | 0, i, h => by
    simp only [badFrom, true_iff]
    intro j x hj hx
    have := (List.getElem?_eq_some_iff.1 hx).1
    omega
  | f + 1, i, h => by
    obtain ⟨x, hx⟩ : ∃ x, l[i]? = some x := ⟨l[i], List.getElem?_eq_getElem (by omega)⟩
    rw [badFrom, hx]
    simp only
    by_cases hg : goodP (l.take i) x = true
    · rw [if_pos hg, badFrom_none l f (i + 1) (by omega)]
      constructor
      · intro h2 j y hj hy
        rcases Nat.eq_or_lt_of_le hj with rfl | hj'
        · rw [hx] at hy; injection hy with hy; subst hy; exact hg
        · exact h2 j y hj' hy
      · intro h2 j y hj hy
        exact h2 j y (by omega) hy
    · rw [if_neg hg]
      constructor
      · intro h2; cases h2
      · intro h2; exact absurd (h2 i x (Nat.le_refl _) hx) hg
theorem bad_step {l : List Cl} {i : Nat} {x : Cl} (hx : l[i]? = some x) (h : goodP (l.take i) x = true) : badFrom l i (l.length - i) = badFrom l (i + 1) (l.length - (i + 1)) := by
  have hl := (List.getElem?_eq_some_iff.1 hx).1
  rw [show l.length - i = (l.length - (i + 1)) + 1 by omega, badFrom, hx]
  simp only [if_pos h]
theorem bad_stop {l : List Cl} {i : Nat} {x : Cl} (hx : l[i]? = some x) (h : goodP (l.take i) x = false) : badFrom l i (l.length - i) = some i := by
  have hl := (List.getElem?_eq_some_iff.1 hx).1
  rw [show l.length - i = (l.length - (i + 1)) + 1 by omega, badFrom, hx]
  simp [h]
end Go.Proofs.YtkikdpdainmlcaaGreat
namespace Go.Proofs.YtkikdpdainmlcaaGreat
open Go.RowKit Go.Xt
attribute [local go_sem] Oper.semAt_some
def KT (n₀ Bt : Nat) (A B : World) : Prop := Below n₀ A B ∧ B.heap[Bt]? = A.heap[Bt]?
theorem KT.refl (n₀ Bt : Nat) (A : World) : KT n₀ Bt A A := ⟨Below.refl _ _, rfl⟩
theorem KT.trans {n₀ Bt : Nat} {A B C : World} (h : KT n₀ Bt A B) (k : KT n₀ Bt B C) : KT n₀ Bt A C := ⟨h.1.trans k.1, k.2.trans h.2⟩
theorem KT.alloc {n₀ Bt : Nat} {A B : World} (h : KT n₀ Bt A B) (hn : n₀ ≤ B.heap.size) (hB : Bt < B.heap.size) (o : Obj) : KT n₀ Bt A (B.alloc o) :=
  ⟨h.1.alloc hn o, (RowKit.Below.heap_alloc B o Bt hB).trans h.2⟩
theorem KT.put {n₀ Bt : Nat} {w : World} (hn : n₀ ≤ w.heap.size) (hB : Bt < w.heap.size) (W : World) (l : Nat) (o o' : Obj) (hl : w.heap.size ≤ l) (h : W.heap[l]? = some o) (hc : o.isCells = false) (hw : o.isWalk = false) : KT n₀ Bt W (W.putObj l o') :=
  ⟨belowK_b hn W l o o' hl h hc hw, (grownBy_putObj' W l o').block Bt (by have := (Array.getElem?_eq_some_iff.1 h).1; omega) (by intro e; injection e with e; omega)⟩
def ofK (t : Int) (l : List Cl) : Nat → List (Nat × Cl)
  | 0 => []
  | k + 1 => match l[k]? with
    | none => ofK t l k
    | some x => if x.th = t then ofK t l k ++ [(k, x)] else ofK t l k
theorem ofK_len (t : Int) (l : List Cl) : ∀ k : Nat, (ofK t l k).length ≤ k
  | 0 => by simp [ofK]
  | k + 1 => by
    have := ofK_len t l k
    rw [ofK]; split
    · omega
    · split <;> simp <;> omega
theorem ofK_of (t : Int) (l : List Cl) : ∀ k : Nat, k ≤ l.length → (ofK t l k).map (·.2) = ofT t (l.take k)
  | 0, _ => by simp [ofK, ofT]
  | k + 1, h => by
    obtain ⟨x, hx⟩ : ∃ x, l[k]? = some x := ⟨l[k], List.getElem?_eq_getElem (by omega)⟩
    rw [ofT_succ t hx, ofK, hx, ← ofK_of t l k (by omega)]
    simp only
    split <;> simp
set_option maxRecDepth 100000 in
set_option maxHeartbeats 4000000 in
theorem of1_in (F : Fence) (n : Nat) (h48 : F.fn 76) (hro : F.round = none) (hn : 1 ≤ n) (l Bs Bt n₀ : Nat) (t : Int) (A : Option Addr) (len cap : Nat) (zs : List Cl) (hlen : len ≤ 1000) (J Jx : List (Nat × Cl) → World → Prop)
    (hY : ∀ pre x W, J pre W → pre.length < len → YieldAt F (n - 1) Tryz.prog l #[.int .i64 (x.1 : Int), cv x.2] W fun e W' =>
      (e = .returned (.bool true) ∧ J (pre ++ [x]) W' ∧ KT n₀ Bt W W') ∨ (e = .returned (.bool false) ∧ Jx (pre ++ [x]) W'))
    (W : World) (hJ : AbidesFrom W.heap.size J) (hn₀ : n₀ ≤ W.heap.size) (hA : 0 < len → ∀ b o, A = some ⟨b, o, none⟩ → b < n₀) (hBs : W.cell? ⟨Bs, 0, none⟩ = some (.slice A len cap)) (hBt : W.cell? ⟨Bt, 0, none⟩ = some (.int .i64 t)) (hc : Cs W A len zs) (h0 : J [] W) :
    CallsIn F n Tryz.prog 76 #[.func (.yield l) #[] #[], .pointer (some ⟨Bs, 0, none⟩), .pointer (some ⟨Bt, 0, none⟩)] W fun e W' => (∃ v, e = .returned v) ∧
      ((∃ ys, ys = ofK t zs len ∧ J ys W') ∨ (∃ pre, (∃ k, k ≤ len ∧ pre = ofK t zs k) ∧ Jx pre W')) := by
  have hBtl : Bt < W.heap.size := World.block_lt_of_cell? W _ hBt
  refine callsIn_of_wp Tryz.func76 rfl h48 ?_ hro
  simp only [Tryz.ntmps76, List.size_toArray, List.length_cons, List.length_nil, Nat.reduceAdd, Nat.reduceSub, Array.replicate_succ, Array.replicate_zero, List.push_toArray, List.append_toArray, List.nil_append, List.cons_append]
  gi_wp2
  gi_loopw [4, 5, 8] (fun _ _ i wr => ∃ k : Nat, k ≤ len ∧ i = .int .i64 k ∧ J (ofK t zs k) wr ∧ KT n₀ Bt W wr)
    (fun _ _ i _ => len - (intOf i).toNat)
  case atStart => exact ⟨0, Nat.zero_le _, rfl, h0, KT.refl _ _ _⟩
  case round =>
    obtain ⟨k, hk, rfl, hJs, hkt⟩ := hrel
    have hsz := hkt.1.size
    have hBt' : wr.cell? ⟨Bt, 0, none⟩ = some (.int .i64 t) := (World.cell?_of_block hkt.2).trans hBt
    by_cases hlt : k < len
    · obtain ⟨b, o, x, rfl, hb, hx, hcx⟩ := hc.get hlt
      have hbn := hA (by omega) b o rfl
      have hcx' : AtC wr b (o + k * 18) x := by
        have e : ∀ i, wr.cell? ⟨b, i, none⟩ = W.cell? ⟨b, i, none⟩ := fun i => hkt.1.cell (p := ⟨b, i, none⟩) hbn
        simpa only [AtC, e] using hcx
      haveI : CallAt wr b (o + k * 18) x := ⟨hcx', by omega⟩
      have HC := Lib.hid hc
      have HX := Lib.hid hx
      clear hc hx hcx hcx'
      by_cases he : x.th = t
      · have he' : (x.th == t) = true := by simpa using he
        have hstep : Hid (ofK t zs (k + 1) = ofK t zs k ++ [(k, x)]) := by show _ = _; rw [ofK, HX.out]; simp [he]
        have hpl : (ofK t zs k).length < len := Nat.lt_of_le_of_lt (ofK_len t zs k) hlt
        have HE := Lib.hid he
        clear he
        have hJb : J (ofK t zs k) (wr.alloc (.cells #[.int .i64 x.th, .int .i64 x.ix, .int .u8 x.kd, .int .u64 x.ka, .int .u64 x.kb, .int .u64 x.kc, .int .u64 x.kx, .int .u64 x.ky, .int .u64 x.kz, .int .i64 x.inv, .int .i64 x.took, .int .i64 x.ans, .int .i64 x.st, .int .i64 x.re, .bool x.rf, .int .u64 x.rk, .int .u64 x.rv, .int .i64 x.rc] 45)) := hJ _ _ _ none hJs (World.grownBy_alloc wr _ none) (fun r e => by cases e)
        have hktb : KT n₀ Bt W (wr.alloc (.cells #[.int .i64 x.th, .int .i64 x.ix, .int .u8 x.kd, .int .u64 x.ka, .int .u64 x.kb, .int .u64 x.kc, .int .u64 x.kx, .int .u64 x.ky, .int .u64 x.kz, .int .i64 x.inv, .int .i64 x.took, .int .i64 x.ans, .int .i64 x.st, .int .i64 x.re, .bool x.rf, .int .u64 x.rk, .int .u64 x.rv, .int .i64 x.rc] 45)) := hkt.alloc (by omega) (by omega) _
        have hBb : (wr.alloc (.cells #[.int .i64 x.th, .int .i64 x.ix, .int .u8 x.kd, .int .u64 x.ka, .int .u64 x.kb, .int .u64 x.kc, .int .u64 x.kx, .int .u64 x.ky, .int .u64 x.kz, .int .i64 x.inv, .int .i64 x.took, .int .i64 x.ans, .int .i64 x.st, .int .i64 x.re, .bool x.rf, .int .u64 x.rk, .int .u64 x.rv, .int .i64 x.rc] 45)).cell? ⟨Bt, 0, none⟩ = some (.int .i64 t) := (World.cell?_of_block (RowKit.Below.heap_alloc wr _ Bt (by omega))).trans hBt'
        obtain ⟨fn, tmps, assign, body, hy, hR⟩ := hY _ (k, x) _ hJb hpl
        dsimp only at hy
        have HKT := Lib.hid hktb
        clear hktb hJb hJs
        gi_wp2
        refine hR.mono ?_
        rintro e W3 (⟨rfl, hJ3, hk3⟩ | ⟨rfl, hJx3⟩)
        · gi_wp2
          go_roundw
          case rel => exact ⟨k + 1, by omega, by simp, by rw [hstep.out]; exact hJ3, HKT.out.trans hk3⟩
          case measure => simp [intOf]; omega
        · gi_wp2
          refine bodyPost_ret (results_none rfl _ _ _) rfl ?_
          exact ⟨⟨_, rfl⟩, .inr ⟨_, ⟨k + 1, by omega, hstep.out.symm⟩, hJx3⟩⟩
      · have he' : (x.th == t) = false := by simpa using he
        have hstep : Hid (ofK t zs (k + 1) = ofK t zs k) := by show _ = _; rw [ofK, HX.out]; simp [he]
        have hJb : J (ofK t zs k) (wr.alloc (.cells #[.int .i64 x.th, .int .i64 x.ix, .int .u8 x.kd, .int .u64 x.ka, .int .u64 x.kb, .int .u64 x.kc, .int .u64 x.kx, .int .u64 x.ky, .int .u64 x.kz, .int .i64 x.inv, .int .i64 x.took, .int .i64 x.ans, .int .i64 x.st, .int .i64 x.re, .bool x.rf, .int .u64 x.rk, .int .u64 x.rv, .int .i64 x.rc] 45)) := hJ _ _ _ none hJs (World.grownBy_alloc wr _ none) (fun r e => by cases e)
        have hktb : KT n₀ Bt W (wr.alloc (.cells #[.int .i64 x.th, .int .i64 x.ix, .int .u8 x.kd, .int .u64 x.ka, .int .u64 x.kb, .int .u64 x.kc, .int .u64 x.kx, .int .u64 x.ky, .int .u64 x.kz, .int .i64 x.inv, .int .i64 x.took, .int .i64 x.ans, .int .i64 x.st, .int .i64 x.re, .bool x.rf, .int .u64 x.rk, .int .u64 x.rv, .int .i64 x.rc] 45)) := hkt.alloc (by omega) (by omega) _
        have hBb : (wr.alloc (.cells #[.int .i64 x.th, .int .i64 x.ix, .int .u8 x.kd, .int .u64 x.ka, .int .u64 x.kb, .int .u64 x.kc, .int .u64 x.kx, .int .u64 x.ky, .int .u64 x.kz, .int .i64 x.inv, .int .i64 x.took, .int .i64 x.ans, .int .i64 x.st, .int .i64 x.re, .bool x.rf, .int .u64 x.rk, .int .u64 x.rv, .int .i64 x.rc] 45)).cell? ⟨Bt, 0, none⟩ = some (.int .i64 t) := (World.cell?_of_block (RowKit.Below.heap_alloc wr _ Bt (by omega))).trans hBt'
        have HE := Lib.hid he
        have HKT := Lib.hid hktb
        have HJB := Lib.hid hJb
        clear he hktb hJb hJs
        gi_wp2
        refine ⟨fun _ h => (by cases h), ?_⟩
        gi_wp2
        go_roundw
        case rel => exact ⟨k + 1, by omega, by simp, by rw [hstep.out]; exact HJB.out, HKT.out⟩
        case measure => simp [intOf]; omega
    · obtain rfl : k = len := by omega
      gi_wp2
      go_end0
      exact ⟨⟨_, rfl⟩, .inl ⟨_, rfl, hJs⟩⟩
theorem of_in (F : Fence) (n : Nat) (h39 : F.fn 62) (hro : F.round = none) (t : Int) (A : Option Addr) (len cap : Nat) (w : World) :
    CallsIn F n Tryz.prog 62 #[.int .i64 t, .slice A len cap] w fun e w' => e = .returned (.func (.func 76) #[] #[.pointer (some ⟨w.heap.size + 1, 0, none⟩), .pointer (some ⟨w.heap.size, 0, none⟩)]) ∧ w' = (w.alloc (.cells #[.int .i64 t] 3)).alloc (.cells #[.slice A len cap] 28) := by
  refine callsIn_of_wp Tryz.func62 rfl h39 ?_ hro
  simp only [Tryz.ntmps62, List.size_toArray, List.length_cons, List.length_nil, Nat.reduceAdd, Nat.reduceSub, Array.replicate_succ, Array.replicate_zero, List.push_toArray, List.append_toArray, List.nil_append, List.cons_append]
  gi_wp2
  go_ret
  exact ⟨rfl, rfl⟩
theorem hof_any (t : Int) (A : Option Addr) (len cap : Nat) (w : World) :
    Calls Tryz.prog 62 #[.int .i64 t, .slice A len cap] w fun e w' => e = .returned (.func (.func 76) #[] #[.pointer (some ⟨w.heap.size + 1, 0, none⟩), .pointer (some ⟨w.heap.size, 0, none⟩)]) ∧ w' = (w.alloc (.cells #[.int .i64 t] 3)).alloc (.cells #[.slice A len cap] 28) :=
  (callsIn_wide (n := 1)).1 (of_in Fence.wide 1 trivial rfl t A len cap w)
theorem of_stops (F : Fence) (n : Nat) (h48 : F.fn 76) (hro : F.round = none) (hn : 1 ≤ n) (Bs Bt n₀ : Nat) (t : Int) (A : Option Addr) (len cap : Nat) (zs : List Cl) (hlen : len ≤ 1000) (w : World) (hn₀ : n₀ ≤ w.heap.size)
    (hA : 0 < len → ∀ b o, A = some ⟨b, o, none⟩ → b < n₀) (hBs : w.cell? ⟨Bs, 0, none⟩ = some (.slice A len cap)) (hBt : w.cell? ⟨Bt, 0, none⟩ = some (.int .i64 t)) (hc : Cs w A len zs) :
    SeqStopsK F n Tryz.prog 76 #[.pointer (some ⟨Bs, 0, none⟩), .pointer (some ⟨Bt, 0, none⟩)] (fun x : Nat × Cl => #[Value.int .i64 (x.1 : Int), cv x.2]) (KT n₀ Bt) (fun ys => ys = ofK t zs len)
      (fun pre => ∃ k, k ≤ len ∧ pre = ofK t zs k) len w := fun l J Jx W hW hJ _ hY h0 => by
  have hbs := World.block_lt_of_cell? w _ hBs
  have hbt := World.block_lt_of_cell? w _ hBt
  have hnw : Nw w W := Nw.of_below hW
  exact of1_in F n h48 hro hn l Bs Bt n₀ t A len cap zs hlen J Jx hY W hJ (Nat.le_trans hn₀ hW.size) hA ((hW.cell (p := ⟨Bs, 0, none⟩) hbs).trans hBs) ((hW.cell (p := ⟨Bt, 0, none⟩) hbt).trans hBt) (hc.nw hnw) h0
end Go.Proofs.YtkikdpdainmlcaaGreat
