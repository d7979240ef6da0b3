import Derived.Test.YtjpgechcfkhoaaaO
namespace Go.Proofs.Ytjpgechcfkhoaaa
open Go.RowKit Go.Xt
theorem callInfo : (Try.prog.info? 47).map (fun i => (i.zero, i.size, i.bytes)) = some (some (cv zc), 18, 144) := by kernel_rfl
def cells (l : List Cl) : List Value := l.flatMap cl
theorem cells_app (a b : List Cl) : cells (a ++ b) = cells a ++ cells b := List.flatMap_append
theorem cells_len (l : List Cl) : (cells l).length = l.length * 18 := by
  induction l with
  | nil => rfl
  | cons x l ih => simp only [cells, List.flatMap_cons, List.length_append] at ih ⊢; rw [ih]; simp only [List.length_cons, List.length_nil]; omega
theorem cells_get : ∀ (l : List Cl) (i : Nat) (c : Cl), l[i]? = some c → ∀ j u, (cl c)[j]? = some u → (cells l)[i * 18 + j]? = some u
  | [], i, c, h => by simp at h
  | y :: l, 0, c, h => fun j u hu => by
    simp at h; subst h
    have hj : j < 18 := (List.getElem?_eq_some_iff.1 hu).1
    rw [Nat.zero_mul, Nat.zero_add]
    show (cl y ++ cells l)[j]? = some u
    rw [List.getElem?_append_left (by exact hj)]; exact hu
  | y :: l, i + 1, c, h => fun j u hu => by
    have := cells_get l i c (by simpa using h) j u hu
    rw [show (i + 1) * 18 + j = 18 + (i * 18 + j) by omega]
    show (cl y ++ cells l)[18 + (i * 18 + j)]? = some u
    rw [List.getElem?_append_right (show (cl y).length ≤ _ by show 18 ≤ _; omega)]
    show (cells l)[18 + (i * 18 + j) - 18]? = some u
    rw [Nat.add_sub_cancel_left]; exact this
theorem cl_one (c : Cl) : ∀ u ∈ cl c, u.oneCell' = true := by
  intro v hv; simp at hv; rcases hv with rfl | rfl | rfl | rfl | rfl | rfl | rfl | rfl | rfl | rfl | rfl | rfl | rfl | rfl | rfl | rfl | rfl | rfl <;> rfl
theorem cells_one (l : List Cl) : ∀ u ∈ cells l, u.oneCell' = true := by
  intro u hu
  simp only [cells, List.mem_flatMap] at hu
  obtain ⟨x, _, hx⟩ := hu
  exact cl_one x u hx
/-- A row of the call's own that holds the calls l. -/
def OwnC (w : World) (base : Nat) (v : Value) (l : List Cl) : Prop := w.ownsRow base 47 18 v l.length (cells l)
theorem OwnC.form {w : World} {base : Nat} {v : Value} {l : List Cl} (h : OwnC w base v l) : ∃ A c, v = .slice A l.length c ∧ Cs w A l.length l ∧ l.length ≤ c ∧ c ≤ 9223372036854775807 ∧ (∀ b o, A = some ⟨b, o, none⟩ → base ≤ b ∧ o = 0) := by
  rcases h.2 with ⟨rfl, h0⟩ | ⟨g, cap, cur, rfl, hb, hg, hn, hm, hcs, ht⟩
  · exact ⟨none, 0, by rw [h0], ⟨rfl, fun hp => absurd hp (by omega)⟩, by omega, by omega, fun b o e => by cases e⟩
  · refine ⟨_, cap, rfl, ⟨rfl, fun _ => ⟨g, 0, rfl, (Array.getElem?_eq_some_iff.1 hg).1, fun i x hx => ?_⟩⟩, hn, hm, fun b o e => by injection e with e; injection e with e1 e2; exact ⟨by omega, by omega⟩⟩
    refine AtC.of_range fun j u hu => ?_
    have hi : i < l.length := (List.getElem?_eq_some_iff.1 hx).1
    have hj : j < 18 := (List.getElem?_eq_some_iff.1 hu).1
    have k0 := World.ownsRow.cellAt h (i * 18 + j) (by omega)
    rw [cells_get l i x hx j u hu] at k0
    rw [show 0 + i * 18 + j = i * 18 + j by omega]
    exact k0
theorem OwnC.cast {w : World} {base : Nat} {v : Value} {l' : List Cl} {n : Nat} {xs : List Value} (h : w.ownsRow base 47 18 v n xs) (hl : l'.length = n) (hx : cells l' = xs) : OwnC w base v l' := by
  subst hl hx; exact h
theorem run_build1' (w : World) (c : Cl) : (Instr.buildSlice 22 1 #[(0, cv c)]).run Try.prog w = .ok (.slice (some ⟨w.heap.size, 0, none⟩) 1 1) (w.alloc (.cells #[.int .i64 c.th, .int .i64 c.ix, .int .u8 c.kd, .int .u64 c.ka, .int .u64 c.kb, .int .u64 c.kc, .int .u64 c.kx, .int .u64 c.ky, .int .u64 c.kz, .int .i64 c.inv, .int .i64 c.took, .int .i64 c.ans, .int .i64 c.st, .int .i64 c.re, .bool c.rf, .int .u64 c.rk, .int .u64 c.rv, .int .i64 c.rc] 47)) := by
  simp [go_sem, Try.underlying22, Try.sizeOf47, Try.zeroValue47]
/-- A slice of one call, kept shut in the walk. -/
def buildCalls (n : Nat) (ps : Array (Nat × Value)) : Sem Value := Instr.buildSlice 22 n ps
@[go_sem ↓] theorem buildCalls_in (n : Nat) (ps : Array (Nat × Value)) : Instr.buildSlice 22 n ps = buildCalls n ps := rfl
@[go_sem] theorem run_build1 (w : World) (c : Cl) : (buildCalls 1 #[(0, cv c)]).run Try.prog w = .ok (.slice (some ⟨w.heap.size, 0, none⟩) 1 1) (w.alloc (.cells #[.int .i64 c.th, .int .i64 c.ix, .int .u8 c.kd, .int .u64 c.ka, .int .u64 c.kb, .int .u64 c.kc, .int .u64 c.kx, .int .u64 c.ky, .int .u64 c.kz, .int .i64 c.inv, .int .i64 c.took, .int .i64 c.ans, .int .i64 c.st, .int .i64 c.re, .bool c.rf, .int .u64 c.rk, .int .u64 c.rv, .int .i64 c.rc] 47)) := run_build1' w c
/-- A slice value's cells, for append. -/
theorem Cs.rd {w : World} {A : Option Addr} {n : Nat} {l : List Cl} (h : Cs w A n l) : Rd w 18 A n (cells l) :=
  ⟨by rw [cells_len, h.1], fun hn => by
    obtain ⟨b, o, rfl, hb, hc⟩ := h.2 hn
    refine ⟨b, o, rfl, hb, fun j u hu => ?_⟩
    have hj : j < n * 18 := by have := (List.getElem?_eq_some_iff.1 hu).1; rw [cells_len, h.1] at this; exact this
    have hi : j / 18 < l.length := by rw [h.1]; omega
    have hr := (hc (j / 18) _ (List.getElem?_eq_getElem hi)).range
    have hjm : j % 18 < 18 := Nat.mod_lt _ (by omega)
    have hx := cells_get l (j / 18) _ (List.getElem?_eq_getElem hi) (j % 18) _ (List.getElem?_eq_getElem (show j % 18 < (cl l[j / 18]).length from hjm))
    rw [show j / 18 * 18 + j % 18 = j by omega] at hx
    rw [hu] at hx
    have := hr (j % 18) u (by rw [List.getElem?_eq_getElem (show j % 18 < (cl l[j / 18]).length from hjm)]; exact hx.symm)
    rw [show o + j / 18 * 18 + j % 18 = o + j by omega] at this
    exact this⟩
end Go.Proofs.Ytjpgechcfkhoaaa
