import Derived.Test.YtjpgechcfkhoaaaG
import Derived.RangeFuncNested
import Derived.RangeFuncBound
import Derived.RangeFuncCalls
import Derived.RangeFuncLeaves
import Derived.RangeFuncBox
import Derived.OwnWalkIn
import Derived.TacticsInMore
import Derived.LoopNIn
import Derived.LoopIn
namespace Go.Proofs.Ytjpgechcfkhoaaa
open Go.RowKit Go.Xt
attribute [local go_sem] Oper.semAt_some
/-- What the rounds of a range over a thread's calls keep: what lay below n₀, and block Bt. -/
def KT (n₀ Bt : Nat) (A B : World) : Prop := Below n₀ A B ∧ B.heap[Bt]? = A.heap[Bt]?
theorem KT.refl (n₀ Bt : Nat) (A : World) : KT n₀ Bt A A := ⟨Below.refl _ _, rfl⟩
theorem KT.trans {n₀ Bt : Nat} {A B C : World} (h : KT n₀ Bt A B) (k : KT n₀ Bt B C) : KT n₀ Bt A C := ⟨h.1.trans k.1, k.2.trans h.2⟩
theorem KT.alloc {n₀ Bt : Nat} {A B : World} (h : KT n₀ Bt A B) (hn : n₀ ≤ B.heap.size) (hB : Bt < B.heap.size) (o : Obj) : KT n₀ Bt A (B.alloc o) :=
  ⟨h.1.alloc hn o, (RowKit.Below.heap_alloc B o Bt hB).trans h.2⟩
theorem KT.put {n₀ Bt : Nat} {w : World} (hn : n₀ ≤ w.heap.size) (hB : Bt < w.heap.size) (W : World) (l : Nat) (o o' : Obj) (hl : w.heap.size ≤ l) (h : W.heap[l]? = some o) (hc : o.isCells = false) (hw : o.isWalk = false) : KT n₀ Bt W (W.putObj l o') :=
  ⟨belowK_b hn W l o o' hl h hc hw, (grownBy_putObj' W l o').block Bt (by have := (Array.getElem?_eq_some_iff.1 h).1; omega) (by intro e; injection e with e; omega)⟩
/-- The calls of a thread among the first k, with their indices. -/
def ofK (t : Int) (l : List Cl) : Nat → List (Nat × Cl)
  | 0 => []
  | k + 1 => match l[k]? with
    | none => ofK t l k
    | some x => if x.th = t then ofK t l k ++ [(k, x)] else ofK t l k
theorem ofK_len (t : Int) (l : List Cl) : ∀ k : Nat, (ofK t l k).length ≤ k
  | 0 => by simp [ofK]
  | k + 1 => by
    have := ofK_len t l k
    rw [ofK]; split
    · omega
    · split <;> simp <;> omega
theorem ofK_of (t : Int) (l : List Cl) : ∀ k : Nat, k ≤ l.length → (ofK t l k).map (·.2) = ofT t (l.take k)
  | 0, _ => by simp [ofK, ofT]
  | k + 1, h => by
    obtain ⟨x, hx⟩ : ∃ x, l[k]? = some x := ⟨l[k], List.getElem?_eq_getElem (by omega)⟩
    rw [ofT_succ t hx, ofK, hx, ← ofK_of t l k (by omega)]
    simp only
    split <;> simp
set_option maxRecDepth 100000 in
set_option maxHeartbeats 4000000 in
theorem of1_in (F : Fence) (n : Nat) (h48 : F.fn 48) (hro : F.round = none) (hn : 1 ≤ n) (l Bs Bt n₀ : Nat) (t : Int) (A : Option Addr) (len cap : Nat) (zs : List Cl) (hlen : len ≤ 1000) (J Jx : List (Nat × Cl) → World → Prop)
    (hY : ∀ pre x W, J pre W → pre.length < len → YieldAt F (n - 1) Try.prog l #[.int .i64 (x.1 : Int), cv x.2] W fun e W' =>
      (e = .returned (.bool true) ∧ J (pre ++ [x]) W' ∧ KT n₀ Bt W W') ∨ (e = .returned (.bool false) ∧ Jx (pre ++ [x]) W'))
    (W : World) (hJ : AbidesFrom W.heap.size J) (hn₀ : n₀ ≤ W.heap.size) (hA : 0 < len → ∀ b o, A = some ⟨b, o, none⟩ → b < n₀) (hBs : W.cell? ⟨Bs, 0, none⟩ = some (.slice A len cap)) (hBt : W.cell? ⟨Bt, 0, none⟩ = some (.int .i64 t)) (hc : Cs W A len zs) (h0 : J [] W) :
    CallsIn F n Try.prog 48 #[.func (.yield l) #[] #[], .pointer (some ⟨Bs, 0, none⟩), .pointer (some ⟨Bt, 0, none⟩)] W fun e W' => (∃ v, e = .returned v) ∧
      ((∃ ys, ys = ofK t zs len ∧ J ys W') ∨ (∃ pre, (∃ k, k ≤ len ∧ pre = ofK t zs k) ∧ Jx pre W')) := by
  have hBtl : Bt < W.heap.size := World.block_lt_of_cell? W _ hBt
  refine callsIn_of_wp Try.func48 rfl h48 ?_ hro
  simp only [Try.ntmps48, List.size_toArray, List.length_cons, List.length_nil, Nat.reduceAdd, Nat.reduceSub, Array.replicate_succ, Array.replicate_zero, List.push_toArray, List.append_toArray, List.nil_append, List.cons_append]
  gi_wp2
  gi_loopw [4, 5, 8] (fun _ _ i wr => ∃ k : Nat, k ≤ len ∧ i = .int .i64 k ∧ J (ofK t zs k) wr ∧ KT n₀ Bt W wr)
    (fun _ _ i _ => len - (intOf i).toNat)
  case atStart => exact ⟨0, Nat.zero_le _, rfl, h0, KT.refl _ _ _⟩
  case round =>
    obtain ⟨k, hk, rfl, hJs, hkt⟩ := hrel
    have hsz := hkt.1.size
    have hBt' : wr.cell? ⟨Bt, 0, none⟩ = some (.int .i64 t) := (World.cell?_of_block hkt.2).trans hBt
    by_cases hlt : k < len
    · obtain ⟨b, o, x, rfl, hb, hx, hcx⟩ := hc.get hlt
      have hbn := hA (by omega) b o rfl
      have hcx' : AtC wr b (o + k * 18) x := by
        have e : ∀ i, wr.cell? ⟨b, i, none⟩ = W.cell? ⟨b, i, none⟩ := fun i => hkt.1.cell (p := ⟨b, i, none⟩) hbn
        simpa only [AtC, e] using hcx
      haveI : CallAt wr b (o + k * 18) x := ⟨hcx', by omega⟩
      have HC := Lib.hid hc
      have HX := Lib.hid hx
      clear hc hx hcx hcx'
      by_cases he : x.th = t
      · have he' : (x.th == t) = true := by simpa using he
        have hstep : Hid (ofK t zs (k + 1) = ofK t zs k ++ [(k, x)]) := by show _ = _; rw [ofK, HX.out]; simp [he]
        have hpl : (ofK t zs k).length < len := Nat.lt_of_le_of_lt (ofK_len t zs k) hlt
        have HE := Lib.hid he
        clear he
        have hJb : J (ofK t zs k) (wr.alloc (.cells #[.int .i64 x.th, .int .i64 x.ix, .int .u8 x.kd, .int .u64 x.ka, .int .u64 x.kb, .int .u64 x.kc, .int .u64 x.kx, .int .u64 x.ky, .int .u64 x.kz, .int .i64 x.inv, .int .i64 x.took, .int .i64 x.ans, .int .i64 x.st, .int .i64 x.re, .bool x.rf, .int .u64 x.rk, .int .u64 x.rv, .int .i64 x.rc] 47)) := hJ _ _ _ none hJs (World.grownBy_alloc wr _ none) (fun r e => by cases e)
        have hktb : KT n₀ Bt W (wr.alloc (.cells #[.int .i64 x.th, .int .i64 x.ix, .int .u8 x.kd, .int .u64 x.ka, .int .u64 x.kb, .int .u64 x.kc, .int .u64 x.kx, .int .u64 x.ky, .int .u64 x.kz, .int .i64 x.inv, .int .i64 x.took, .int .i64 x.ans, .int .i64 x.st, .int .i64 x.re, .bool x.rf, .int .u64 x.rk, .int .u64 x.rv, .int .i64 x.rc] 47)) := hkt.alloc (by omega) (by omega) _
        have hBb : (wr.alloc (.cells #[.int .i64 x.th, .int .i64 x.ix, .int .u8 x.kd, .int .u64 x.ka, .int .u64 x.kb, .int .u64 x.kc, .int .u64 x.kx, .int .u64 x.ky, .int .u64 x.kz, .int .i64 x.inv, .int .i64 x.took, .int .i64 x.ans, .int .i64 x.st, .int .i64 x.re, .bool x.rf, .int .u64 x.rk, .int .u64 x.rv, .int .i64 x.rc] 47)).cell? ⟨Bt, 0, none⟩ = some (.int .i64 t) := (World.cell?_of_block (RowKit.Below.heap_alloc wr _ Bt (by omega))).trans hBt'
        obtain ⟨fn, tmps, assign, body, hy, hR⟩ := hY _ (k, x) _ hJb hpl
        dsimp only at hy
        have HKT := Lib.hid hktb
        clear hktb hJb hJs
        gi_wp2
        refine hR.mono ?_
        rintro e W3 (⟨rfl, hJ3, hk3⟩ | ⟨rfl, hJx3⟩)
        · gi_wp2
          go_roundw
          case rel => exact ⟨k + 1, by omega, by simp, by rw [hstep.out]; exact hJ3, HKT.out.trans hk3⟩
          case measure => simp [intOf]; omega
        · gi_wp2
          refine bodyPost_ret (results_none rfl _ _ _) rfl ?_
          exact ⟨⟨_, rfl⟩, .inr ⟨_, ⟨k + 1, by omega, hstep.out.symm⟩, hJx3⟩⟩
      · have he' : (x.th == t) = false := by simpa using he
        have hstep : Hid (ofK t zs (k + 1) = ofK t zs k) := by show _ = _; rw [ofK, HX.out]; simp [he]
        have hJb : J (ofK t zs k) (wr.alloc (.cells #[.int .i64 x.th, .int .i64 x.ix, .int .u8 x.kd, .int .u64 x.ka, .int .u64 x.kb, .int .u64 x.kc, .int .u64 x.kx, .int .u64 x.ky, .int .u64 x.kz, .int .i64 x.inv, .int .i64 x.took, .int .i64 x.ans, .int .i64 x.st, .int .i64 x.re, .bool x.rf, .int .u64 x.rk, .int .u64 x.rv, .int .i64 x.rc] 47)) := hJ _ _ _ none hJs (World.grownBy_alloc wr _ none) (fun r e => by cases e)
        have hktb : KT n₀ Bt W (wr.alloc (.cells #[.int .i64 x.th, .int .i64 x.ix, .int .u8 x.kd, .int .u64 x.ka, .int .u64 x.kb, .int .u64 x.kc, .int .u64 x.kx, .int .u64 x.ky, .int .u64 x.kz, .int .i64 x.inv, .int .i64 x.took, .int .i64 x.ans, .int .i64 x.st, .int .i64 x.re, .bool x.rf, .int .u64 x.rk, .int .u64 x.rv, .int .i64 x.rc] 47)) := hkt.alloc (by omega) (by omega) _
        have hBb : (wr.alloc (.cells #[.int .i64 x.th, .int .i64 x.ix, .int .u8 x.kd, .int .u64 x.ka, .int .u64 x.kb, .int .u64 x.kc, .int .u64 x.kx, .int .u64 x.ky, .int .u64 x.kz, .int .i64 x.inv, .int .i64 x.took, .int .i64 x.ans, .int .i64 x.st, .int .i64 x.re, .bool x.rf, .int .u64 x.rk, .int .u64 x.rv, .int .i64 x.rc] 47)).cell? ⟨Bt, 0, none⟩ = some (.int .i64 t) := (World.cell?_of_block (RowKit.Below.heap_alloc wr _ Bt (by omega))).trans hBt'
        have HE := Lib.hid he
        have HKT := Lib.hid hktb
        have HJB := Lib.hid hJb
        clear he hktb hJb hJs
        gi_wp2
        refine ⟨fun _ h => (by cases h), ?_⟩
        gi_wp2
        go_roundw
        case rel => exact ⟨k + 1, by omega, by simp, by rw [hstep.out]; exact HJB.out, HKT.out⟩
        case measure => simp [intOf]; omega
    · obtain rfl : k = len := by omega
      gi_wp2
      go_end0
      exact ⟨⟨_, rfl⟩, .inl ⟨_, rfl, hJs⟩⟩
theorem of_in (F : Fence) (n : Nat) (h39 : F.fn 39) (hro : F.round = none) (t : Int) (A : Option Addr) (len cap : Nat) (w : World) :
    CallsIn F n Try.prog 39 #[.int .i64 t, .slice A len cap] w fun e w' => e = .returned (.func (.func 48) #[] #[.pointer (some ⟨w.heap.size + 1, 0, none⟩), .pointer (some ⟨w.heap.size, 0, none⟩)]) ∧ w' = (w.alloc (.cells #[.int .i64 t] 3)).alloc (.cells #[.slice A len cap] 22) := by
  refine callsIn_of_wp Try.func39 rfl h39 ?_ hro
  simp only [Try.ntmps39, List.size_toArray, List.length_cons, List.length_nil, Nat.reduceAdd, Nat.reduceSub, Array.replicate_succ, Array.replicate_zero, List.push_toArray, List.append_toArray, List.nil_append, List.cons_append]
  gi_wp2
  go_ret
  exact ⟨rfl, rfl⟩
theorem of_any (t : Int) (A : Option Addr) (len cap : Nat) (w : World) :
    Calls Try.prog 39 #[.int .i64 t, .slice A len cap] w fun e w' => e = .returned (.func (.func 48) #[] #[.pointer (some ⟨w.heap.size + 1, 0, none⟩), .pointer (some ⟨w.heap.size, 0, none⟩)]) ∧ w' = (w.alloc (.cells #[.int .i64 t] 3)).alloc (.cells #[.slice A len cap] 22) :=
  (callsIn_wide (n := 1)).1 (of_in Fence.wide 1 trivial rfl t A len cap w)
theorem of_stops (F : Fence) (n : Nat) (h48 : F.fn 48) (hro : F.round = none) (hn : 1 ≤ n) (Bs Bt n₀ : Nat) (t : Int) (A : Option Addr) (len cap : Nat) (zs : List Cl) (hlen : len ≤ 1000) (w : World) (hn₀ : n₀ ≤ w.heap.size)
    (hA : 0 < len → ∀ b o, A = some ⟨b, o, none⟩ → b < n₀) (hBs : w.cell? ⟨Bs, 0, none⟩ = some (.slice A len cap)) (hBt : w.cell? ⟨Bt, 0, none⟩ = some (.int .i64 t)) (hc : Cs w A len zs) :
    SeqStopsK F n Try.prog 48 #[.pointer (some ⟨Bs, 0, none⟩), .pointer (some ⟨Bt, 0, none⟩)] (fun x : Nat × Cl => #[Value.int .i64 (x.1 : Int), cv x.2]) (KT n₀ Bt) (fun ys => ys = ofK t zs len)
      (fun pre => ∃ k, k ≤ len ∧ pre = ofK t zs k) len w := fun l J Jx W hW hJ _ hY h0 => by
  have hbs := World.block_lt_of_cell? w _ hBs
  have hbt := World.block_lt_of_cell? w _ hBt
  have hnw : Nw w W := Nw.of_below hW
  exact of1_in F n h48 hro hn l Bs Bt n₀ t A len cap zs hlen J Jx hY W hJ (Nat.le_trans hn₀ hW.size) hA ((hW.cell (p := ⟨Bs, 0, none⟩) hbs).trans hBs) ((hW.cell (p := ⟨Bt, 0, none⟩) hbt).trans hBt) (hc.nw hnw) h0
end Go.Proofs.Ytjpgechcfkhoaaa
