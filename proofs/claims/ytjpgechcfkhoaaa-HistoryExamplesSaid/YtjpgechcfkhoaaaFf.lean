import Derived.Test.YtjpgechcfkhoaaaP
import Derived.Test.YtjpgechcfkhoaaaEz
namespace Go.Proofs.Ytjpgechcfkhoaaa
open Go.RowKit Go.Xt
@[go_sem] theorem run_build4 (w : World) (a b c d : Cl) : (buildCalls 4 #[(0, cv a), (1, cv b), (2, cv c), (3, cv d)]).run Try.prog w = .ok (.slice (some ⟨w.heap.size, 0, none⟩) 4 4) (w.alloc (.cells (cells [a, b, c, d]).toArray 47)) := run_build4' w a b c d
def x0 : Cl := ⟨0, 0, 0, 0, 0, 0, 0, 0, 0, 0, 4, 7, 4, 0, false, 0, 0, 0⟩
def x1 : Cl := ⟨1, 0, 0, 0, 0, 0, 0, 0, 0, 1, 5, 5, 2, 0, false, 0, 0, 0⟩
def x2 : Cl := ⟨0, 1, 0, 0, 0, 0, 0, 0, 0, 8, 10, -1, 0, 0, false, 0, 0, 0⟩
def x3 : Cl := ⟨1, 1, 0, 0, 0, 0, 0, 0, 0, 9, -1, -1, 0, 0, false, 0, 0, 0⟩
def exL : List Cl := [x0, x1, x2, x3]
/-- A slice of calls just built. -/
theorem Cs_built (w : World) (l : List Cl) (t : TypeId) : Cs (w.alloc (.cells (cells l).toArray t)) (some ⟨w.heap.size, 0, none⟩) l.length l :=
  ⟨rfl, fun _ => ⟨_, 0, rfl, by simp, fun i c hc => AtC.of_range fun j u hu => by
    rw [World.cell?_alloc_new]
    have := cells_get l i c hc j u hu
    rw [show 0 + i * 18 + j = i * 18 + j by omega]
    simpa using this⟩⟩
set_option maxRecDepth 20000 in
set_option maxHeartbeats 2000000 in
theorem example_any (w : World) : Calls Try.prog 27 #[] w fun e w' => e = .returned (.slice (some ⟨w.heap.size, 0, none⟩) 4 4) ∧ Cs w' (some ⟨w.heap.size, 0, none⟩) 4 exL ∧ (∀ i, w'.frozen? ⟨w.heap.size, i, none⟩ = false) ∧ Nw w w' := by
  have h4 := run_build4 w x0 x1 x2 x3
  have hcs := Cs_built w exL 47
  obtain ⟨L, hL⟩ : ∃ L, L = (cells exL).toArray := ⟨_, rfl⟩
  rw [show (cells [x0, x1, x2, x3]).toArray = L from hL.symm] at h4
  rw [← hL] at hcs
  have HC := Lib.hid hcs
  simp only [cv, x0, x1, x2, x3] at h4
  clear hcs hL
  go_enter Try.func27, Try.ntmps27
  go_wp2
  go_ret
  exact ⟨rfl, HC.out, fun i => by simp [go_sem], (by repeat (first | exact Xt.Nw.refl _ | refine Xt.Nw.drew ?_ | refine Xt.Nw.drewN ?_ _ | refine Xt.Nw.alloc ?_ _ | refine Xt.Nw.joined ?_ | refine Xt.Nw.drewd ?_ | refine Xt.Nw.drewdN ?_ | refine Xt.Nw.ext ?_ | refine Xt.Nw.ext_some ?_ (by assumption) | refine Xt.Nw.setCell ?_ (by simp [go_sem] <;> omega) _))⟩
theorem yes_any (b : Bool) (e : Int) (w : World) : Calls Try.prog 29 #[.bool b, .int .i64 e] w fun r w' => r = .returned (.bool (b && e == 0)) ∧ Nw w w' := by
  go_enter Try.func29, Try.ntmps29
  go_wp2
  all_goals (go_ret; refine ⟨ret_bool ?_, (by repeat (first | exact Xt.Nw.refl _ | refine Xt.Nw.drew ?_ | refine Xt.Nw.drewN ?_ _ | refine Xt.Nw.alloc ?_ _ | refine Xt.Nw.joined ?_ | refine Xt.Nw.drewd ?_ | refine Xt.Nw.drewdN ?_ | refine Xt.Nw.ext ?_ | refine Xt.Nw.ext_some ?_ (by assumption) | refine Xt.Nw.setCell ?_ (by simp [go_sem] <;> omega) _))⟩)
  all_goals simp_all
theorem no_any (b : Bool) (e f : Int) (w : World) : Calls Try.prog 42 #[.bool b, .int .i64 e, .int .i64 f] w fun r w' => r = .returned (.bool (!b && e == f)) ∧ Nw w w' := by
  go_enter Try.func42, Try.ntmps42
  go_wp2
  all_goals (go_ret; refine ⟨ret_bool ?_, (by repeat (first | exact Xt.Nw.refl _ | refine Xt.Nw.drew ?_ | refine Xt.Nw.drewN ?_ _ | refine Xt.Nw.alloc ?_ _ | refine Xt.Nw.joined ?_ | refine Xt.Nw.drewd ?_ | refine Xt.Nw.drewdN ?_ | refine Xt.Nw.ext ?_ | refine Xt.Nw.ext_some ?_ (by assumption) | refine Xt.Nw.setCell ?_ (by simp [go_sem] <;> omega) _))⟩)
  all_goals simp_all
theorem Is_built (w : World) (l : List Int) (cs : Array Value) (n : Nat) (t : TypeId) (hn : l.length = n) (h : cs.toList = ints l) : Is (w.alloc (.cells cs t)) (some ⟨w.heap.size, 0, none⟩) n l :=
  ⟨hn, fun _ => ⟨_, 0, rfl, by simp, fun i x hx => by
    rw [World.cell?_alloc_new, Nat.zero_add, ← Array.getElem?_toList, h, ints, List.getElem?_map, hx]; rfl⟩⟩
/-- A field of a call is written. -/
theorem Cs.setf {W : World} {b n i j off : Nat} {l : List Cl} {c c' : Cl} {v : Value} (h : Cs W (some ⟨b, 0, none⟩) n l) (hi : l[i]? = some c) (hj : j < 18) (hoff : off = i * 18 + j)
    (hc : (cl c') = (cl c).set j v) : Cs (W.setCell ⟨b, off, none⟩ v) (some ⟨b, 0, none⟩) n (l.set i c') := by
  subst hoff
  have hil : i < l.length := (List.getElem?_eq_some_iff.1 hi).1
  obtain ⟨b', o', e, hb, hcs⟩ := h.2 (by rw [← h.1]; omega)
  obtain ⟨rfl, rfl⟩ : b = b' ∧ 0 = o' := by simpa using e
  refine ⟨by rw [List.length_set]; exact h.1, fun _ => ⟨b, 0, rfl, by simpa using hb, fun k z hz => AtC.of_range fun q u hu => ?_⟩⟩
  have hq : q < 18 := (List.getElem?_eq_some_iff.1 hu).1
  rw [List.getElem?_set] at hz
  by_cases hk : i = k
  · subst hk
    rw [if_pos rfl, if_pos hil] at hz
    injection hz with hz
    subst hz
    have hr := (hcs i c hi).range
    rw [hc, List.getElem?_set] at hu
    by_cases hqj : j = q
    · subst hqj
      rw [if_pos rfl] at hu
      have hjl : j < (cl c).length := hj
      rw [if_pos hjl] at hu
      injection hu with hu
      subst hu
      have := hr j _ (List.getElem?_eq_getElem hjl)
      rw [show 0 + i * 18 + j = i * 18 + j by omega] at this ⊢
      exact World.cell?_setCell_same _ _ _ this
    · rw [if_neg hqj] at hu
      rw [World.cell?_setCell_other (h := by intro e; injection e with e1 e2; omega)]
      exact hr q u hu
  · rw [if_neg hk] at hz
    rw [World.cell?_setCell_other (h := by intro e; injection e with e1 e2; omega)]
    exact (hcs k z hz).range q u hu
end Go.Proofs.Ytjpgechcfkhoaaa
