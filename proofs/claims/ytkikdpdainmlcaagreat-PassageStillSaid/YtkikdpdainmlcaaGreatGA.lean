import Derived.Test.YtkikdpdainmlcaaGreatProg
import Derived.Test.YtkikdpdainmlcaaGreatGLib
import Derived.Deep.RegionWith
set_option linter.unusedVariables false
set_option linter.unusedSimpArgs false
set_option linter.unnecessarySimpa false
namespace Go.Proofs.YtkikdpdainmlcaaGreat
open Go.RowKit Go.Xt
structure Cl where
  (th ix kd ka kb kc kx ky kz inv took ans st re : Int)
  (rf : Bool)
  (rk rv rc : Int)
deriving DecidableEq
def zc : Cl := ⟨0, 0, 0, 0, 0, 0, 0, 0, 0, 0, 0, 0, 0, 0, false, 0, 0, 0⟩
abbrev cl (c : Cl) : List Value := [.int .i64 c.th, .int .i64 c.ix, .int .u8 c.kd, .int .u64 c.ka, .int .u64 c.kb, .int .u64 c.kc, .int .u64 c.kx, .int .u64 c.ky, .int .u64 c.kz, .int .i64 c.inv, .int .i64 c.took, .int .i64 c.ans, .int .i64 c.st, .int .i64 c.re, .bool c.rf, .int .u64 c.rk, .int .u64 c.rv, .int .i64 c.rc]
abbrev cv (c : Cl) : Value := .agg #[.int .i64 c.th, .int .i64 c.ix, .int .u8 c.kd, .int .u64 c.ka, .int .u64 c.kb, .int .u64 c.kc, .int .u64 c.kx, .int .u64 c.ky, .int .u64 c.kz, .int .i64 c.inv, .int .i64 c.took, .int .i64 c.ans, .int .i64 c.st, .int .i64 c.re, .bool c.rf, .int .u64 c.rk, .int .u64 c.rv, .int .i64 c.rc]
def AtC (w : World) (b o : Nat) (c : Cl) : Prop :=
  w.cell? ⟨b, o, none⟩ = some (.int .i64 c.th) ∧ w.cell? ⟨b, o + 1, none⟩ = some (.int .i64 c.ix) ∧ w.cell? ⟨b, o + 2, none⟩ = some (.int .u8 c.kd) ∧
  w.cell? ⟨b, o + 3, none⟩ = some (.int .u64 c.ka) ∧ w.cell? ⟨b, o + 4, none⟩ = some (.int .u64 c.kb) ∧ w.cell? ⟨b, o + 5, none⟩ = some (.int .u64 c.kc) ∧
  w.cell? ⟨b, o + 6, none⟩ = some (.int .u64 c.kx) ∧ w.cell? ⟨b, o + 7, none⟩ = some (.int .u64 c.ky) ∧ w.cell? ⟨b, o + 8, none⟩ = some (.int .u64 c.kz) ∧
  w.cell? ⟨b, o + 9, none⟩ = some (.int .i64 c.inv) ∧ w.cell? ⟨b, o + 10, none⟩ = some (.int .i64 c.took) ∧ w.cell? ⟨b, o + 11, none⟩ = some (.int .i64 c.ans) ∧
  w.cell? ⟨b, o + 12, none⟩ = some (.int .i64 c.st) ∧ w.cell? ⟨b, o + 13, none⟩ = some (.int .i64 c.re) ∧ w.cell? ⟨b, o + 14, none⟩ = some (.bool c.rf) ∧
  w.cell? ⟨b, o + 15, none⟩ = some (.int .u64 c.rk) ∧ w.cell? ⟨b, o + 16, none⟩ = some (.int .u64 c.rv) ∧ w.cell? ⟨b, o + 17, none⟩ = some (.int .i64 c.rc)
def Cs (w : World) (A : Option Addr) (n : Nat) (l : List Cl) : Prop :=
  l.length = n ∧ (0 < n → ∃ b o, A = some ⟨b, o, none⟩ ∧ b < w.heap.size ∧ ∀ i c, l[i]? = some c → AtC w b (o + i * 18) c)
theorem AtC.ext {w : World} {b o : Nat} {c : Cl} (h : AtC w b o c) (hb : b < w.heap.size) (d : World) : AtC (w.ext none d) b o c := by
  haveI : In b w := ⟨hb⟩
  simpa only [AtC, cell_ext] using h
theorem Cs.ext {w : World} {A : Option Addr} {n : Nat} {l : List Cl} (h : Cs w A n l) (d : World) : Cs (w.ext none d) A n l :=
  ⟨h.1, fun hn => by
    obtain ⟨b, o, rfl, hb, hc⟩ := h.2 hn
    exact ⟨b, o, rfl, Nat.lt_of_lt_of_le hb (le_size _ _ _), fun i c hi => (hc i c hi).ext hb d⟩⟩
theorem Cs.nw {w w' : World} {A : Option Addr} {n : Nat} {l : List Cl} (h : Cs w A n l) (hw : Nw w w') : Cs w' A n l := by
  obtain ⟨d, rfl⟩ := hw; exact h.ext d
theorem Cs.get {w : World} {A : Option Addr} {n : Nat} {l : List Cl} (h : Cs w A n l) {i : Nat} (hi : i < n) :
    ∃ b o c, A = some ⟨b, o, none⟩ ∧ b < w.heap.size ∧ l[i]? = some c ∧ AtC w b (o + i * 18) c := by
  obtain ⟨b, o, hA, hb, hc⟩ := h.2 (by omega)
  have hl : i < l.length := by rw [h.1]; exact hi
  exact ⟨b, o, l[i], hA, hb, List.getElem?_eq_getElem hl, hc i _ (List.getElem?_eq_getElem hl)⟩
theorem Cs.take {w : World} {A : Option Addr} {n : Nat} {l : List Cl} (h : Cs w A n l) {k : Nat} (hk : k ≤ n) : Cs w A k (l.take k) :=
  ⟨by rw [List.length_take, h.1]; omega, fun hn => by
    obtain ⟨b, o, hA, hb, hc⟩ := h.2 (by omega)
    exact ⟨b, o, hA, hb, fun i c hi => hc i c (by
      rw [List.getElem?_take] at hi
      split at hi
      · exact hi
      · cases hi)⟩⟩
def bf (a c : Cl) : Bool := decide (0 ≤ a.ans) && decide (a.ans < c.inv)
set_option maxHeartbeats 1000000 in
theorem before_any (a c : Cl) (w : World) :
    Calls Tryz.prog 63 #[cv a, cv c] w fun e w' => e = .returned (.bool (bf a c)) ∧ Nw w w' := by
  go_enter Tryz.func63, Tryz.ntmps63
  go_wp2
  all_goals (go_ret; refine ⟨ret_bool ?_, nwa⟩)
  all_goals (simp_all [bf] <;> omega)
end Go.Proofs.YtkikdpdainmlcaaGreat
namespace Go.Proofs.YtkikdpdainmlcaaGreat
open Go.RowKit Go.Xt
structure WfC (c : Cl) : Prop where
  th : -9223372036854775808 ≤ c.th ∧ c.th ≤ 9223372036854775807
  ix : -9223372036854775808 ≤ c.ix ∧ c.ix ≤ 9223372036854775807
  inv : -9223372036854775808 ≤ c.inv ∧ c.inv ≤ 9223372036854775807
  took : -9223372036854775808 ≤ c.took ∧ c.took ≤ 9223372036854775807
  ans : -9223372036854775808 ≤ c.ans ∧ c.ans ≤ 9223372036854775807
  st : -9223372036854775808 ≤ c.st ∧ c.st ≤ 9223372036854775807
def effF (c : Cl) : Bool := c.took == -1 || decide (c.inv ≤ c.took)
def rz (c : Cl) : Bool := c.re == 0 && (c.rf == false && (c.rk == 0 && (c.rv == 0 && c.rc == 0)))
def endF (c : Cl) : Bool :=
  if c.ans < 0 then c.ans == -1 && (c.st == 0 && rz c)
  else if c.took < 0 ∨ c.ans < c.took ∨ c.st < 1 ∨ c.ans - c.inv < c.st - 1 then false
  else c.ans == c.inv || decide (2 ≤ c.st)
set_option maxHeartbeats 1000000 in
theorem effect_any (p : Value) (c : Cl) (w : World) :
    Calls Tryz.prog 41 #[p, cv c] w fun e w' => e = .returned (.bool (effF c)) ∧ Nw w w' := by
  go_enter Tryz.func41, Tryz.ntmps41
  go_wp2
  all_goals (go_ret; refine ⟨ret_bool ?_, nwa⟩)
  all_goals (simp_all [effF])
set_option maxHeartbeats 2000000 in
theorem hend_any (p : Value) (c : Cl) (w : World) (hw : WfC c) (hi : 0 ≤ c.inv) :
    Calls Tryz.prog 42 #[p, cv c] w fun e w' => e = .returned (.bool (endF c)) ∧ Nw w w' := by
  obtain ⟨_, _, ⟨i1, i2⟩, ⟨t1, t2⟩, ⟨a1, a2⟩, ⟨s1, s2⟩⟩ := hw
  go_enter Tryz.func42, Tryz.ntmps42
  go_wp2
  all_goals (go_ret; refine ⟨ret_bool ?_, nwa⟩)
  all_goals first
    | (have q : ¬ c.ans < 0 := by omega
       rw [endF, if_neg q]
       by_cases q2 : c.took < 0 ∨ c.ans < c.took ∨ c.st < 1 ∨ c.ans - c.inv < c.st - 1
       · rw [if_pos q2] <;> first | rfl | (exfalso; omega) | (simp; omega) | (exfalso; simp_all <;> omega)
       · rw [if_neg q2] <;> first | rfl | (exfalso; omega) | (simp_all; done) | (simp_all <;> omega) | (exfalso; simp_all <;> omega))
    | (simp_all [endF, rz]; done)
    | (simp_all [endF, rz]; cases hq : c.rf <;> first | (simp_all; done) | (simp_all <;> rfl))
end Go.Proofs.YtkikdpdainmlcaaGreat
namespace Go.Proofs.YtkikdpdainmlcaaGreat
open Go.RowKit Go.Xt
theorem intInfo : (Tryz.prog.info? 3).map (fun i => (i.zero, i.size, i.bytes)) = some (some (.int .i64 0), 1, 8) := by kernel_rfl
def Is (w : World) (A : Option Addr) (n : Nat) (l : List Int) : Prop :=
  l.length = n ∧ (0 < n → ∃ b o, A = some ⟨b, o, none⟩ ∧ b < w.heap.size ∧ ∀ i x, l[i]? = some x → w.cell? ⟨b, o + i, none⟩ = some (.int .i64 x))
theorem Is.ext {w : World} {A : Option Addr} {n : Nat} {l : List Int} (h : Is w A n l) (d : World) : Is (w.ext none d) A n l :=
  ⟨h.1, fun hn => by
    obtain ⟨b, o, rfl, hb, hc⟩ := h.2 hn
    haveI : In b w := ⟨hb⟩
    exact ⟨b, o, rfl, In.lt, fun i x hi => by rw [cell_ext]; exact hc i x hi⟩⟩
theorem Is.nw {w w' : World} {A : Option Addr} {n : Nat} {l : List Int} (h : Is w A n l) (hw : Nw w w') : Is w' A n l := by
  obtain ⟨d, rfl⟩ := hw; exact h.ext d
theorem Is.get {w : World} {A : Option Addr} {n : Nat} {l : List Int} (h : Is w A n l) {i : Nat} (hi : i < n) :
    ∃ b o x, A = some ⟨b, o, none⟩ ∧ b < w.heap.size ∧ l[i]? = some x ∧ w.cell? ⟨b, o + i, none⟩ = some (.int .i64 x) := by
  obtain ⟨b, o, hA, hb, hc⟩ := h.2 (by omega)
  have hl : i < l.length := by rw [h.1]; exact hi
  exact ⟨b, o, l[i], hA, hb, List.getElem?_eq_getElem hl, hc i _ (List.getElem?_eq_getElem hl)⟩
def ints (l : List Int) : List Value := l.map fun x => Value.int .i64 x
def OwnI (w : World) (base : Nat) (v : Value) (l : List Int) : Prop := w.ownsRow base 3 1 v l.length (ints l)
theorem OwnI.form {w : World} {base : Nat} {v : Value} {l : List Int} (h : OwnI w base v l) : ∃ A c, v = .slice A l.length c ∧ Is w A l.length l := by
  rcases h.2 with ⟨rfl, h0⟩ | ⟨g, cap, cur, rfl, hb, hg, hn, hm, hcs, ht⟩
  · exact ⟨none, 0, by rw [h0], rfl, fun hp => absurd hp (by omega)⟩
  · refine ⟨_, cap, rfl, rfl, fun _ => ⟨g, 0, rfl, (Array.getElem?_eq_some_iff.1 hg).1, fun i x hx => ?_⟩⟩
    have hi : i < l.length := (List.getElem?_eq_some_iff.1 hx).1
    have k0 := World.ownsRow.cellAt h i (by omega)
    simpa [ints, hx] using k0
theorem OwnI.cast {w : World} {base : Nat} {v : Value} {l' : List Int} {n : Nat} {xs : List Value} (h : w.ownsRow base 3 1 v n xs) (hl : l'.length = n) (hx : ints l' = xs) : OwnI w base v l' := by
  subst hl hx; exact h
def stepsL (c : Cl) : List Int := [c.inv, c.took, c.ans].filter fun x => decide (0 ≤ x)
theorem Is_three (w : World) (x y z : Int) (t : TypeId) : Is (w.alloc (.cells #[.int .i64 x, .int .i64 y, .int .i64 z] t)) (some ⟨w.heap.size, 0, none⟩) 3 [x, y, z] :=
  ⟨rfl, fun _ => ⟨_, 0, rfl, by simp, fun i u hu => by
    have hi : i < 3 := (List.getElem?_eq_some_iff.1 hu).1
    rw [World.cell?_alloc_new]
    rcases (by omega : i = 0 ∨ i = 1 ∨ i = 2) with rfl | rfl | rfl <;> (simp at hu ⊢; exact hu)⟩⟩
theorem ftake {α : Type} (p : α → Bool) {l : List α} {k : Nat} {x : α} (hx : l[k]? = some x) : (l.take (k + 1)).filter p = (l.take k).filter p ++ if p x then [x] else [] := by
  obtain ⟨p1, q1⟩ := List.getElem?_eq_some_iff.1 hx
  rw [List.take_succ_eq_append_getElem p1, List.filter_append, q1]
  by_cases h : p x = true <;> simp [h]
def meetF (a b : Cl) : Bool := (stepsL a).any fun x => (stepsL b).any fun y => x == y
end Go.Proofs.YtkikdpdainmlcaaGreat
