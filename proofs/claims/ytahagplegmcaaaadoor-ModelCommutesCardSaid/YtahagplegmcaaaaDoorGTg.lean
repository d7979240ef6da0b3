import Derived.Test.YtahagplegmcaaaaDoorGSf
set_option linter.unusedVariables false
set_option linter.unusedSimpArgs false
set_option linter.unnecessarySimpa false
namespace Go.Proofs.YtahagplegmcaaaaDoor
open Go.RowKit Go.Xt
/-! Results in boxes beside models. -/
abbrev r5 (r : Rs) : List Value := [.int .i64 r.err, .bool r.fd, .int .u64 r.key, .int .u64 r.val, .int .i64 r.cnt]
def ro (r : Rs) : Obj := .cells (r5 r).toArray 28
theorem Chg.sets (g : Nat) : ∀ (vs : List Value) (o : Nat) (w : World), Chg [g] w (w.setCells g o vs)
  | [], _, w => ⟨rfl, rfl, rfl, Nat.le_refl _, fun _ _ _ => rfl⟩
  | v :: r, o, w => (Chg.set1 w g o v).trans (Chg.sets g r (o + 1) (w.setCell ⟨g, o, none⟩ v))
theorem heap_sets_other (w : World) (g o : Nat) (vs : List Value) {i : Nat} (hi : i < w.heap.size) (hne : i ≠ g) : (w.setCells g o vs).heap[i]? = w.heap[i]? := (Chg.sets g vs o w).block i hi (by simpa using hne)
/-- A box of a result: for the walk. -/
class R5At (w : World) (b : Nat) : Prop where
  at_ : ∃ x y z u v, w.heap[b]? = some (.cells #[x, y, z, u, v] 28)
theorem R5At.lt {w : World} {b : Nat} (h : R5At w b) : b < w.heap.size := by
  obtain ⟨_, _, _, _, _, h⟩ := h.at_
  exact (Array.getElem?_eq_some_iff.1 h).1
theorem R5At.there {w : World} {b : Nat} (h : R5At w b) : w.there b 0 5 := by
  obtain ⟨x, y, z, u, v, h⟩ := h.at_
  intro j hj
  refine ⟨?_, Lib.frozen_of_heap h _⟩
  rw [Nat.zero_add, Lib.cell_of_heap h, List.getElem?_toArray, List.getElem?_eq_getElem (by simpa using hj)]; rfl
instance {w : World} {x y z u v : Value} : R5At (w.alloc (.cells #[x, y, z, u, v] 28)) w.heap.size := ⟨_, _, _, _, _, heap_alloc_new _ _⟩
instance {w : World} {x y z u v : Value} : R5At (w.drew.alloc (.cells #[x, y, z, u, v] 28)) w.heap.size := ⟨_, _, _, _, _, heap_alloc_new _ _⟩
instance {w : World} {o : Obj} {x y z u v : Value} : R5At ((w.alloc o).alloc (.cells #[x, y, z, u, v] 28)) (w.heap.size + 1) := ⟨_, _, _, _, _, by have := heap_alloc_new (w.alloc o) (.cells #[x, y, z, u, v] 28); rwa [show (w.alloc o).heap.size = w.heap.size + 1 by simp] at this⟩
instance {w : World} {o : Obj} {x y z u v : Value} : R5At ((w.drew.alloc o).alloc (.cells #[x, y, z, u, v] 28)) (w.heap.size + 1) := ⟨_, _, _, _, _, by have := heap_alloc_new (w.drew.alloc o) (.cells #[x, y, z, u, v] 28); rwa [show (w.drew.alloc o).heap.size = w.heap.size + 1 by simp] at this⟩
instance {w : World} {b : Nat} {o : Obj} [h : R5At w b] : R5At (w.alloc o) b := by
  have hl := h.lt
  obtain ⟨x, y, z, u, v, h⟩ := h.at_
  exact ⟨x, y, z, u, v, by rw [Lib.alloc_old _ _ _ hl]; exact h⟩
instance {w : World} {b : Nat} [h : R5At w b] : R5At w.drew b := ⟨h.at_⟩
theorem set5_same {w : World} {b : Nat} (h : R5At w b) (r : Rs) : (w.setCells b 0 (r5 r)).heap[b]? = some (ro r) := by
  obtain ⟨x, y, z, u, v, h⟩ := h.at_
  simp [World.setCells, World.setCell, Array.getElem?_modify, h, ro]
instance {w : World} {b g : Nat} {i : Int} {f : Bool} {k v c : Int} [h : R5At w b] : R5At (w.setCells g 0 [.int .i64 i, .bool f, .int .u64 k, .int .u64 v, .int .i64 c]) b := by
  by_cases e : b = g
  · subst e; exact ⟨_, _, _, _, _, set5_same h ⟨i, f, k, v, c⟩⟩
  · obtain ⟨x, y, z, u, t, h1⟩ := h.at_
    exact ⟨x, y, z, u, t, by rw [heap_sets_other _ _ _ _ h.lt e]; exact h1⟩
theorem sizeR5 : (Tryd.prog.info? 28).map (·.size) = some 5 := by kernel_rfl
/-- A store of a whole result, kept shut in the walk. -/
def storeR5 (p v : Value) : Sem Unit := Instr.storeAt 28 p v
@[go_sem ↓] theorem storeR5_in (p v : Value) : Instr.storeAt 28 p v = storeR5 p v := rfl
@[go_sem] theorem run_storeR5 {w : World} {b : Nat} {i : Int} {f : Bool} {k v c : Int} [h : R5At w b] : (storeR5 (.pointer (some ⟨b, 0, none⟩)) (.agg #[.int .i64 i, .bool f, .int .u64 k, .int .u64 v, .int .i64 c])).run Tryd.prog w = .ok () (w.setCells b 0 [.int .i64 i, .bool f, .int .u64 k, .int .u64 v, .int .i64 c]) :=
  run_storeAt_mid (P := Tryd.prog) w b 0 28 #[.int .i64 i, .bool f, .int .u64 k, .int .u64 v, .int .i64 c] h.there (by exact sizeR5) (all_oneCell_toArray (fun v hv => by simp at hv; rcases hv with rfl | rfl | rfl | rfl | rfl <;> rfl))
theorem nw_sets {w a : World} (h : Nw w a) {g : Nat} (hg : w.heap.size ≤ g) (vs : List Value) : Nw w (a.setCells g 0 vs) := nw_chg2 h (Chg.sets g vs 0 a) (fun k hk => by simp at hk; omega)
section
variable {w W E : World} {N : Nat} {ms : List (Nat × Md)} {K K0 : List (Nat × Obj)}
theorem memA {P : Prop} {g : Nat} {o : Obj} {L : List (Nat × Obj)} : P ∨ ∃ o', (g, o') ∈ (g, o) :: L := .inr ⟨o, List.mem_cons_self ..⟩
theorem memB {P : Prop} {g : Nat} {x : Nat × Obj} {o : Obj} {L : List (Nat × Obj)} : P ∨ ∃ o', (g, o') ∈ x :: (g, o) :: L := .inr ⟨o, List.mem_cons_of_mem _ (List.mem_cons_self ..)⟩
theorem memC {g : Nat} {L : List (Nat × Obj)} : g ≤ g ∨ ∃ o', (g, o') ∈ L := .inl (Nat.le_refl _)
theorem memD {g : Nat} {L : List (Nat × Obj)} : g ≤ g + 1 ∨ ∃ o', (g + 1, o') ∈ L := .inl (Nat.le_succ _)
/-- A kept box of a result. -/
theorem Lw.box (h : Lw w N ms K W) {b : Nat} {x y z u v : Value} (hb : (b, Obj.cells #[x, y, z, u, v] 28) ∈ K) : R5At W b := ⟨_, _, _, _, _, h.block hb⟩
theorem Lw.c5 (h : Lw w N ms K W) {b : Nat} {r : Rs} (hb : (b, ro r) ∈ K) : W.cell? ⟨b, 0, none⟩ = some (.int .i64 r.err) ∧ W.cell? ⟨b, 1, none⟩ = some (.bool r.fd) ∧ W.cell? ⟨b, 2, none⟩ = some (.int .u64 r.key) ∧ W.cell? ⟨b, 3, none⟩ = some (.int .u64 r.val) ∧ W.cell? ⟨b, 4, none⟩ = some (.int .i64 r.cnt) ∧ b < W.heap.size :=
  ⟨Lw.cell h (c := (r5 r).toArray) hb 0, Lw.cell h (c := (r5 r).toArray) hb 1, Lw.cell h (c := (r5 r).toArray) hb 2, Lw.cell h (c := (r5 r).toArray) hb 3, Lw.cell h (c := (r5 r).toArray) hb 4, (Array.getElem?_eq_some_iff.1 (h.block hb)).1⟩
/-- Two boxes written. -/
theorem Lw.two (h : Lw w N ms K W) (hn : Nw W E) {ga gb : Nat} (wa : w.heap.size ≤ ga) (wb : w.heap.size ≤ gb) (ha : W.heap.size ≤ ga ∨ ∃ o, (ga, o) ∈ K) (hb : W.heap.size ≤ gb ∨ ∃ o, (gb, o) ∈ K) (hne : ga ≠ gb) (ba : R5At E ga) (bb : R5At E gb) (ra rb : Rs) (hK : ∀ x ∈ K0, x ∈ K ∧ x.1 ≠ ga ∧ x.1 ≠ gb) :
    Lw w N ms ((ga, ro ra) :: (gb, ro rb) :: K0) ((E.setCells ga 0 (r5 ra)).setCells gb 0 (r5 rb)) := by
  have hc : Chg [ga, gb] E ((E.setCells ga 0 (r5 ra)).setCells gb 0 (r5 rb)) := ((Chg.sets ga _ 0 E).wide (by simp)).trans ((Chg.sets gb _ 0 _).wide (by simp))
  have b2 : R5At (E.setCells ga 0 (r5 ra)) gb := inferInstance
  obtain ⟨h0, ps, hl, hA, hD, hK9⟩ := h
  have hfr : ∀ b, (W.heap.size ≤ b ∨ ∃ o, (b, o) ∈ K) → ∀ p ∈ ps, b ∉ p.foot := fun b hb p hp hg => by
    rcases hb with h1 | ⟨o, h1⟩
    · have := Lw.low hl hA hp hg; omega
    · exact (hK9 _ h1).2 p hp hg
  refine ⟨nw_chg2 (h0.trans hn) hc (fun k hk => by simp at hk; rcases hk with rfl | rfl <;> assumption), ps, hl, fun i p m hp hm => ?_, hD, fun x hx => ?_⟩
  · obtain ⟨a, b, c, d, e, f⟩ := hA i p m hp hm
    refine ⟨a, (b.nw hn).chg hc (fun g hg hgX => ?_), c, d, e, f⟩
    simp at hgX
    rcases hgX with rfl | rfl
    · exact hfr _ ha p (List.mem_of_getElem? hp) hg
    · exact hfr _ hb p (List.mem_of_getElem? hp) hg
  · rcases List.mem_cons.1 hx with rfl | hx
    · exact ⟨by show (World.heap _)[ga]? = _; rw [heap_sets_other _ _ _ _ (by have := (inferInstance : R5At (E.setCells ga 0 (r5 ra)) ga).lt; exact this) hne]; exact set5_same ba ra, hfr _ ha⟩
    rcases List.mem_cons.1 hx with rfl | hx
    · exact ⟨set5_same b2 rb, hfr _ hb⟩
    obtain ⟨h1, h2, h3⟩ := hK x hx
    have h4 := nw_cells hn (hK9 x h1).1
    exact ⟨(hc.block _ (Array.getElem?_eq_some_iff.1 h4).1 (by simp [h2, h3])).trans h4, (hK9 x h1).2⟩
end
end Go.Proofs.YtahagplegmcaaaaDoor
