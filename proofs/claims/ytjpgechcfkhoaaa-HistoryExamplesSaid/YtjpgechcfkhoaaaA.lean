import Derived.Test.YtjpgechcfkhoaaaProg
import Derived.Test.YtjpgechcfkhoaaaLib2
namespace Go.Proofs.Ytjpgechcfkhoaaa
open Go.RowKit Go.Xt
/-- A call. -/
structure Cl where
  (th ix kd ka kb kc kx ky kz inv took ans st re : Int)
  (rf : Bool)
  (rk rv rc : Int)
deriving DecidableEq
def zc : Cl := ⟨0, 0, 0, 0, 0, 0, 0, 0, 0, 0, 0, 0, 0, 0, false, 0, 0, 0⟩
/-- The cells of a call. -/
abbrev cl (c : Cl) : List Value := [.int .i64 c.th, .int .i64 c.ix, .int .u8 c.kd, .int .u64 c.ka, .int .u64 c.kb, .int .u64 c.kc, .int .u64 c.kx, .int .u64 c.ky, .int .u64 c.kz, .int .i64 c.inv, .int .i64 c.took, .int .i64 c.ans, .int .i64 c.st, .int .i64 c.re, .bool c.rf, .int .u64 c.rk, .int .u64 c.rv, .int .i64 c.rc]
abbrev cv (c : Cl) : Value := .agg #[.int .i64 c.th, .int .i64 c.ix, .int .u8 c.kd, .int .u64 c.ka, .int .u64 c.kb, .int .u64 c.kc, .int .u64 c.kx, .int .u64 c.ky, .int .u64 c.kz, .int .i64 c.inv, .int .i64 c.took, .int .i64 c.ans, .int .i64 c.st, .int .i64 c.re, .bool c.rf, .int .u64 c.rk, .int .u64 c.rv, .int .i64 c.rc]
/-- A call's cells at an address. -/
def AtC (w : World) (b o : Nat) (c : Cl) : Prop :=
  w.cell? ⟨b, o, none⟩ = some (.int .i64 c.th) ∧ w.cell? ⟨b, o + 1, none⟩ = some (.int .i64 c.ix) ∧ w.cell? ⟨b, o + 2, none⟩ = some (.int .u8 c.kd) ∧
  w.cell? ⟨b, o + 3, none⟩ = some (.int .u64 c.ka) ∧ w.cell? ⟨b, o + 4, none⟩ = some (.int .u64 c.kb) ∧ w.cell? ⟨b, o + 5, none⟩ = some (.int .u64 c.kc) ∧
  w.cell? ⟨b, o + 6, none⟩ = some (.int .u64 c.kx) ∧ w.cell? ⟨b, o + 7, none⟩ = some (.int .u64 c.ky) ∧ w.cell? ⟨b, o + 8, none⟩ = some (.int .u64 c.kz) ∧
  w.cell? ⟨b, o + 9, none⟩ = some (.int .i64 c.inv) ∧ w.cell? ⟨b, o + 10, none⟩ = some (.int .i64 c.took) ∧ w.cell? ⟨b, o + 11, none⟩ = some (.int .i64 c.ans) ∧
  w.cell? ⟨b, o + 12, none⟩ = some (.int .i64 c.st) ∧ w.cell? ⟨b, o + 13, none⟩ = some (.int .i64 c.re) ∧ w.cell? ⟨b, o + 14, none⟩ = some (.bool c.rf) ∧
  w.cell? ⟨b, o + 15, none⟩ = some (.int .u64 c.rk) ∧ w.cell? ⟨b, o + 16, none⟩ = some (.int .u64 c.rv) ∧ w.cell? ⟨b, o + 17, none⟩ = some (.int .i64 c.rc)
/-- A slice value whose elements are the calls l. -/
def Cs (w : World) (A : Option Addr) (n : Nat) (l : List Cl) : Prop :=
  l.length = n ∧ (0 < n → ∃ b o, A = some ⟨b, o, none⟩ ∧ b < w.heap.size ∧ ∀ i c, l[i]? = some c → AtC w b (o + i * 18) c)
theorem AtC.ext {w : World} {b o : Nat} {c : Cl} (h : AtC w b o c) (hb : b < w.heap.size) (d : World) : AtC (w.ext none d) b o c := by
  haveI : In b w := ⟨hb⟩
  simpa only [AtC, cell_ext] using h
theorem Cs.ext {w : World} {A : Option Addr} {n : Nat} {l : List Cl} (h : Cs w A n l) (d : World) : Cs (w.ext none d) A n l :=
  ⟨h.1, fun hn => by
    obtain ⟨b, o, rfl, hb, hc⟩ := h.2 hn
    exact ⟨b, o, rfl, Nat.lt_of_lt_of_le hb (le_size _ _ _), fun i c hi => (hc i c hi).ext hb d⟩⟩
theorem Cs.nw {w w' : World} {A : Option Addr} {n : Nat} {l : List Cl} (h : Cs w A n l) (hw : Nw w w') : Cs w' A n l := by
  obtain ⟨d, rfl⟩ := hw; exact h.ext d
theorem Cs.get {w : World} {A : Option Addr} {n : Nat} {l : List Cl} (h : Cs w A n l) {i : Nat} (hi : i < n) :
    ∃ b o c, A = some ⟨b, o, none⟩ ∧ b < w.heap.size ∧ l[i]? = some c ∧ AtC w b (o + i * 18) c := by
  obtain ⟨b, o, hA, hb, hc⟩ := h.2 (by omega)
  have hl : i < l.length := by rw [h.1]; exact hi
  exact ⟨b, o, l[i], hA, hb, List.getElem?_eq_getElem hl, hc i _ (List.getElem?_eq_getElem hl)⟩
theorem Cs.take {w : World} {A : Option Addr} {n : Nat} {l : List Cl} (h : Cs w A n l) {k : Nat} (hk : k ≤ n) : Cs w A k (l.take k) :=
  ⟨by rw [List.length_take, h.1]; omega, fun hn => by
    obtain ⟨b, o, hA, hb, hc⟩ := h.2 (by omega)
    exact ⟨b, o, hA, hb, fun i c hi => hc i c (by
      rw [List.getElem?_take] at hi
      split at hi
      · exact hi
      · cases hi)⟩⟩
def bf (a c : Cl) : Bool := decide (0 ≤ a.ans) && decide (a.ans < c.inv)
set_option maxHeartbeats 1000000 in
theorem before_any (a c : Cl) (w : World) :
    Calls Try.prog 30 #[cv a, cv c] w fun e w' => e = .returned (.bool (bf a c)) ∧ Nw w w' := by
  go_enter Try.func30, Try.ntmps30
  go_wp2
  all_goals (go_ret; refine ⟨ret_bool ?_, (by repeat (first | exact Xt.Nw.refl _ | refine Xt.Nw.drew ?_ | refine Xt.Nw.drewN ?_ _ | refine Xt.Nw.alloc ?_ _ | refine Xt.Nw.joined ?_ | refine Xt.Nw.drewd ?_ | refine Xt.Nw.drewdN ?_ | refine Xt.Nw.ext ?_ | refine Xt.Nw.ext_some ?_ (by assumption) | refine Xt.Nw.setCell ?_ (by simp [go_sem] <;> omega) _))⟩)
  all_goals (simp_all [bf] <;> omega)
set_option maxHeartbeats 1000000 in
theorem rbefore_any (a c : Cl) (w : World) :
    Calls Try.prog 44 #[cv a, cv c] w fun e w' => e = .returned (.bool (bf a c)) ∧ Nw w w' := by
  go_enter Try.func44, Try.ntmps44
  go_wp2
  all_goals (go_ret; refine ⟨ret_bool ?_, (by repeat (first | exact Xt.Nw.refl _ | refine Xt.Nw.drew ?_ | refine Xt.Nw.drewN ?_ _ | refine Xt.Nw.alloc ?_ _ | refine Xt.Nw.joined ?_ | refine Xt.Nw.drewd ?_ | refine Xt.Nw.drewdN ?_ | refine Xt.Nw.ext ?_ | refine Xt.Nw.ext_some ?_ (by assumption) | refine Xt.Nw.setCell ?_ (by simp [go_sem] <;> omega) _))⟩)
  all_goals (simp_all [bf] <;> omega)
end Go.Proofs.Ytjpgechcfkhoaaa
