import Derived.Test.YtjpgechcfkhoaaaA
import Derived.Deep.MidRow
import Derived.Deep.WholeRow
namespace Go.Proofs.Ytjpgechcfkhoaaa
open Go.RowKit Go.Xt
/-- A call just boxed. -/
theorem boxed (w : World) (c : Cl) (T : TypeId) : AtC (w.alloc (.cells #[.int .i64 c.th, .int .i64 c.ix, .int .u8 c.kd, .int .u64 c.ka, .int .u64 c.kb, .int .u64 c.kc, .int .u64 c.kx, .int .u64 c.ky, .int .u64 c.kz, .int .i64 c.inv, .int .i64 c.took, .int .i64 c.ans, .int .i64 c.st, .int .i64 c.re, .bool c.rf, .int .u64 c.rk, .int .u64 c.rv, .int .i64 c.rc] T)) w.heap.size 0 c := by
  unfold AtC
  refine ⟨?_, ?_, ?_, ?_, ?_, ?_, ?_, ?_, ?_, ?_, ?_, ?_, ?_, ?_, ?_, ?_, ?_, ?_⟩ <;> (rw [World.cell?_alloc_new]; rfl)
theorem AtC.alloc {w : World} {b o : Nat} {c : Cl} (h : AtC w b o c) (hb : b < w.heap.size) (x : Obj) : AtC (w.alloc x) b o c := by
  have e : ∀ i, (w.alloc x).cell? ⟨b, i, none⟩ = w.cell? ⟨b, i, none⟩ := fun i => World.cell?_of_block (RowKit.Below.heap_alloc w x b hb)
  simpa only [AtC, e] using h
theorem AtC.range {w : World} {b o : Nat} {c : Cl} (h : AtC w b o c) : w.rangeAt b o (cl c) := by
  obtain ⟨a0, a1, a2, a3, a4, a5, a6, a7, a8, a9, a10, a11, a12, a13, a14, a15, a16, a17⟩ := h
  intro j v hv
  match j, hv with
  | 0, hv => cases hv; exact a0
  | 1, hv => cases hv; exact a1
  | 2, hv => cases hv; exact a2
  | 3, hv => cases hv; exact a3
  | 4, hv => cases hv; exact a4
  | 5, hv => cases hv; exact a5
  | 6, hv => cases hv; exact a6
  | 7, hv => cases hv; exact a7
  | 8, hv => cases hv; exact a8
  | 9, hv => cases hv; exact a9
  | 10, hv => cases hv; exact a10
  | 11, hv => cases hv; exact a11
  | 12, hv => cases hv; exact a12
  | 13, hv => cases hv; exact a13
  | 14, hv => cases hv; exact a14
  | 15, hv => cases hv; exact a15
  | 16, hv => cases hv; exact a16
  | 17, hv => cases hv; exact a17
  | j + 18, hv => cases hv
theorem sizeCall : (Try.prog.info? 47).map (·.size) = some 18 := by kernel_rfl
/-- A load of a call. -/
theorem load_call {w : World} {b o : Nat} {c : Cl} (h : AtC w b o c) : (Instr.loadAt 47 (.pointer (some ⟨b, o, none⟩))).run Try.prog w = .ok (cv c) w :=
  run_loadAt_mid w b o 47 (cl c) _ h.range Try.underlying47 rfl sizeCall
/-- A call lies at the address: for the walk. -/
class CallAt (w : World) (b o : Nat) (c : outParam Cl) : Prop where
  at_ : AtC w b o c
  lt : b < w.heap.size
instance {w d : World} {b o : Nat} {c : Cl} [h : CallAt w b o c] : CallAt (w.ext none d) b o c := ⟨h.at_.ext h.lt d, Nat.lt_of_lt_of_le h.lt (le_size _ _ _)⟩
instance {w : World} {b o : Nat} {c : Cl} {x : Obj} [h : CallAt w b o c] : CallAt (w.alloc x) b o c := ⟨h.at_.alloc h.lt x, by have := h.lt; simp; omega⟩
instance {w : World} {b o : Nat} {c : Cl} [h : CallAt w b o c] : CallAt w.drew b o c := ⟨h.at_, h.lt⟩
instance {w : World} {b o n : Nat} {c : Cl} [h : CallAt w b o c] : CallAt (w.drewN n) b o c := ⟨h.at_, h.lt⟩
instance {w d : World} {b o : Nat} {c : Cl} [h : CallAt w b o c] : CallAt (w.reg d) b o c := ⟨h.at_.ext h.lt d, Nat.lt_of_lt_of_le h.lt (le_size _ _ _)⟩
instance {w : World} {c : Cl} {T : TypeId} : CallAt (w.alloc (.cells #[.int .i64 c.th, .int .i64 c.ix, .int .u8 c.kd, .int .u64 c.ka, .int .u64 c.kb, .int .u64 c.kc, .int .u64 c.kx, .int .u64 c.ky, .int .u64 c.kz, .int .i64 c.inv, .int .i64 c.took, .int .i64 c.ans, .int .i64 c.st, .int .i64 c.re, .bool c.rf, .int .u64 c.rk, .int .u64 c.rv, .int .i64 c.rc] T)) w.heap.size 0 c := ⟨boxed w c T, by simp⟩
/-- A load and a store of a whole call, kept shut in the walk. -/
def loadCall (p : Value) : Sem Value := Instr.loadAt 47 p
def storeCall (p v : Value) : Sem Unit := Instr.storeAt 47 p v
@[go_sem ↓] theorem loadCall_in (p : Value) : Instr.loadAt 47 p = loadCall p := rfl
@[go_sem ↓] theorem storeCall_in (p v : Value) : Instr.storeAt 47 p v = storeCall p v := rfl
@[go_sem] theorem run_loadCall {w : World} {b o : Nat} {c : Cl} [h : CallAt w b o c] : (loadCall (.pointer (some ⟨b, o, none⟩))).run Try.prog w = .ok (cv c) w :=
  run_loadAt_mid w b o 47 (cl c) _ h.at_.range Try.underlying47 rfl sizeCall
@[go_sem] theorem run_storeCall {w : World} {c : Cl} {z : Array Value} (hz : z.size = 18) :
    (storeCall (.pointer (some ⟨w.heap.size, 0, none⟩)) (cv c)).run Try.prog (w.alloc (.cells z 47)) = .ok () (w.alloc (.cells #[.int .i64 c.th, .int .i64 c.ix, .int .u8 c.kd, .int .u64 c.ka, .int .u64 c.kb, .int .u64 c.kc, .int .u64 c.kx, .int .u64 c.ky, .int .u64 c.kz, .int .i64 c.inv, .int .i64 c.took, .int .i64 c.ans, .int .i64 c.st, .int .i64 c.re, .bool c.rf, .int .u64 c.rk, .int .u64 c.rv, .int .i64 c.rc] 47)) := by
  unfold storeCall Instr.storeAt
  simp only [Instr.sureAddr, Sem.run_bind, Sem.run_pure, Result.andThen]
  exact run_storeVar_new w 47 z #[.int .i64 c.th, .int .i64 c.ix, .int .u8 c.kd, .int .u64 c.ka, .int .u64 c.kb, .int .u64 c.kc, .int .u64 c.kx, .int .u64 c.ky, .int .u64 c.kz, .int .i64 c.inv, .int .i64 c.took, .int .i64 c.ans, .int .i64 c.st, .int .i64 c.re, .bool c.rf, .int .u64 c.rk, .int .u64 c.rv, .int .i64 c.rc] sizeCall (by rw [hz]; rfl) (by simp [Value.oneCell'])
end Go.Proofs.Ytjpgechcfkhoaaa
