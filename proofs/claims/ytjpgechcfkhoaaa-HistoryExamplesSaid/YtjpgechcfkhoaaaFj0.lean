import Derived.Test.YtjpgechcfkhoaaaFi
import Derived.Test.YtjpgechcfkhoaaaFl0
import Derived.Test.YtjpgechcfkhoaaaEc
namespace Go.Proofs.Ytjpgechcfkhoaaa
open Go.RowKit Go.Xt
theorem EffP.unique {l : List Cl} {a b : List Nat} (ha : EffP l a) (hb : EffP l b) : a = b := by
  cases h : bad l with
  | none => exact (ha.1 h).unique (hb.1 h)
  | some i => rw [ha.2 (by rw [h]; simp), hb.2 (by rw [h]; simp)]
theorem EffP.len {l : List Cl} {a : List Nat} (ha : EffP l a) : a.length ≤ l.length := by
  cases h : bad l with
  | none => exact (ha.1 h).len
  | some i => rw [ha.2 (by rw [h]; simp)]; exact Nat.zero_le _
theorem filter_tw {s : Int} : ∀ {l : List Cl}, l.Pairwise (fun a b => a.inv < b.inv) → (l.filter fun x => decide (x.inv ≤ s)) = l.takeWhile fun x => decide (x.inv ≤ s)
  | [], _ => rfl
  | x :: l, h => by
    rw [List.pairwise_cons] at h
    rw [List.takeWhile_cons]
    by_cases hx : x.inv ≤ s
    · rw [List.filter_cons_of_pos (by simpa using hx), if_pos (by simpa using hx), filter_tw h.2]
    · rw [List.filter_cons_of_neg (by simpa using hx), if_neg (by simpa using hx), List.filter_eq_nil_iff]
      intro y hy
      have := h.1 y hy
      simp; omega
theorem preW_eq (s : Int) (l : List Cl) : preR s l = preW s l := by
  unfold preR preW
  by_cases he : preE s l = 0
  · rw [if_pos he, if_pos he]
    cases hb : bad l with
    | none =>
      unfold prer pres
      rw [filter_tw (List.pairwise_iff_getElem.2 fun i j hi hj hij => inv_lt hb hij (List.getElem?_eq_getElem hi) (List.getElem?_eq_getElem hj))]
    | some i => simp [preE, hb] at he
  · rw [if_neg he, if_neg he]
theorem preW_len (s : Int) (l : List Cl) : (preW s l).length ≤ l.length := by
  unfold preW
  split
  · rw [pres, List.length_map]; exact (List.takeWhile_sublist _).length_le
  · exact Nat.zero_le _
theorem ofT_len (t : Int) (l : List Cl) : (ofT t l).length ≤ l.length := List.length_filter_le _ _
theorem pendK_le (l : List Cl) : ∀ k, (pendK l k).length ≤ k
  | 0 => Nat.le_refl _
  | k + 1 => by
    have := pendK_le l k
    rw [pendK]; split
    · split
      · simp; omega
      · omega
    · omega
/-- A row of the call's own with room for k cells. -/
def Rm (base : Nat) (W : World) (A : Option Addr) (n k : Nat) : Prop := 0 < n → ∃ b, A = some ⟨b, 0, none⟩ ∧ base ≤ b ∧ W.there b 0 k
theorem there_nw {W W' : World} {b k : Nat} (h : W.there b 0 k) (hn : Nw W W') : W'.there b 0 k := fun j hj => by
  obtain ⟨h1, h2⟩ := h j hj
  obtain ⟨v, hv⟩ := Option.isSome_iff_exists.1 h1
  have hb := World.block_lt_of_cell? W _ hv
  obtain ⟨d, rfl⟩ := hn
  haveI : In b W := ⟨hb⟩
  exact ⟨by rw [cell_ext]; exact h1, by rw [frozen_ext]; exact h2⟩
theorem Rm.nw {base n k : Nat} {W W' : World} {A : Option Addr} (h : Rm base W A n k) (hn : Nw W W') : Rm base W' A n k := fun hp => by
  obtain ⟨b, h1, h2, h3⟩ := h hp; exact ⟨b, h1, h2, there_nw h3 hn⟩
theorem Rm.set {base n k : Nat} {W : World} {A : Option Addr} (h : Rm base W A n k) (b o : Nat) (vs : List Value) : Rm base (W.setCells b o vs) A n k := fun hp => by
  obtain ⟨b', h1, h2, h3⟩ := h hp; exact ⟨b', h1, h2, World.there_setCells h3 b o vs⟩
theorem Rm.mono {base base' n k : Nat} {W : World} {A : Option Addr} (h : Rm base W A n k) (hb : base' ≤ base) : Rm base' W A n k := fun hp => by
  obtain ⟨b', h1, h2, h3⟩ := h hp; exact ⟨b', h1, by omega, h3⟩
theorem OwnC.rm {W : World} {base n : Nat} {v : Value} {l : List Cl} (h : OwnC W base v l) (hn : l.length = n) : ∃ A c, v = .slice A n c ∧ Cs W A n l ∧ Rm base W A n (n * 18) := by
  subst hn
  rcases h.2 with ⟨rfl, h0⟩ | ⟨g, cap, cur, rfl, hb, hg, hn, hm, hcs, ht⟩
  · exact ⟨none, 0, by rw [h0], ⟨rfl, fun hp => absurd hp (by omega)⟩, fun hp => absurd hp (by omega)⟩
  · obtain ⟨A, c, e, hcs, _⟩ := h.form
    injection e with e1 e2 e3
    subst e1 e3
    refine ⟨_, cap, rfl, hcs, fun _ => ⟨g, rfl, hb, fun j hj => ?_⟩⟩
    rw [Nat.zero_add]
    refine ⟨?_, World.ownsRow.frozenAt h j⟩
    rw [World.ownsRow.cellAt h j hj, List.getElem?_eq_getElem (by rw [cells_len]; exact hj)]; rfl
theorem OwnI.rm {W : World} {base n : Nat} {v : Value} {l : List Int} (h : OwnI W base v l) (hn : l.length = n) : ∃ A c, v = .slice A n c ∧ Is W A n l ∧ Rm base W A n n := by
  subst hn
  rcases h.2 with ⟨rfl, h0⟩ | ⟨g, cap, cur, rfl, hb, hg, hn, hm, hcs, ht⟩
  · exact ⟨none, 0, by rw [h0], ⟨rfl, fun hp => absurd hp (by omega)⟩, fun hp => absurd hp (by omega)⟩
  · obtain ⟨A, c, e, hcs⟩ := h.form
    injection e with e1 e2 e3
    subst e1 e3
    refine ⟨_, cap, rfl, hcs, fun _ => ⟨g, rfl, hb, fun j hj => ?_⟩⟩
    rw [Nat.zero_add]
    refine ⟨?_, World.ownsRow.frozenAt h j⟩
    rw [World.ownsRow.cellAt h j (by omega), List.getElem?_eq_getElem (by rw [ints_len]; exact hj)]; rfl
theorem Nw.cells {w a : World} (h : Nw w a) {b : Nat} (hb : w.heap.size ≤ b) (o : Nat) (vs : List Value) : Nw w (a.setCells b o vs) :=
  .of_below ((h.below).trans (((wrote_setCells b vs o a a (Wrote.refl _ _)).below (n₀ := w.heap.size) hb)))
/-- The cells of a call that is empty. -/
abbrev zcl : List Value := [.int .i64 0, .int .i64 0, .int .u8 0, .int .u64 0, .int .u64 0, .int .u64 0, .int .u64 0, .int .u64 0, .int .u64 0, .int .i64 0, .int .i64 0, .int .i64 0, .int .i64 0, .int .i64 0, .bool false, .int .u64 0, .int .u64 0, .int .i64 0]
theorem store_zero {W : World} {b k : Nat} (h : W.there b 0 k) (o : Nat) (ho : o + 18 ≤ k) : (storeCall (.pointer (some ⟨b, o, none⟩)) (.agg #[.int .i64 0, .int .i64 0, .int .u8 0, .int .u64 0, .int .u64 0, .int .u64 0, .int .u64 0, .int .u64 0, .int .u64 0, .int .i64 0, .int .i64 0, .int .i64 0, .int .i64 0, .int .i64 0, .bool false, .int .u64 0, .int .u64 0, .int .i64 0])).run Try.prog W = .ok () (W.setCells b o zcl) :=
  run_storeAt_mid W b o 47 zcl.toArray (fun j hj => by
    have hj' : j < 18 := hj
    have := h (o + j) (by omega)
    rwa [Nat.zero_add] at this) sizeCall (all_oneCell_toArray (by intro v hv; simp [zcl] at hv; (repeat' rcases hv with rfl | hv) <;> first | rfl | (subst hv; rfl)))
end Go.Proofs.Ytjpgechcfkhoaaa
