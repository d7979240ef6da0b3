import Derived.Test.YtkikdpdainmlcaaGreatGZs
import Derived.Test.YtkikdpdainmlcaaGreatGZy
set_option linter.unusedVariables false
set_option linter.unusedSimpArgs false
set_option linter.unnecessarySimpa false
namespace Go.Proofs.YtkikdpdainmlcaaGreat
open Go.RowKit Go.Xt
/-! The examples of the chapter, plain; what builds them. -/
def exC : Cf := ⟨2, 2, 2, 0, 2, 2, none, 0, 0, 4, 2, 0, 0, 0, 0, 2, 5, 0⟩
def exA : Cl := ⟨0, 0, 1, 0, 0, 0, 0, 0, 0, 0, 0, 0, 1, 0, false, 0, 0, 0⟩
def exB : Cl := ⟨1, 0, 1, 0, 0, 0, 0, 0, 0, 1, 1, 1, 1, 0, false, 0, 0, 0⟩
def exP3 : Cl := ⟨1, 1, 4, 3, 0, 30, 0, 0, 0, 2, 20, 22, 9, 0, false, 0, 0, 0⟩
def exP4 : Cl := ⟨1, 2, 4, 4, 0, 40, 0, 0, 0, 23, 40, 42, 9, 0, false, 0, 0, 0⟩
def exS : Cl := ⟨0, 1, 11, 0, 9, 0, 0, 0, 0, 30, 30, 30, 1, 0, false, 0, 0, 0⟩
def exN5 (re : Int) (rf : Bool) (rk rv : Int) : Cl := ⟨0, 2, 12, 0, 0, 0, 0, 0, 0, 31, 50, 50, 9, re, rf, rk, rv, 0⟩
def exN6 (re : Int) (rf : Bool) (rk rv : Int) : Cl := ⟨0, 3, 12, 0, 0, 0, 0, 0, 0, 51, 60, 60, 9, re, rf, rk, rv, 0⟩
def exL (x y : Cl) : List Cl := [exA, exB, exP3, exP4, exS, x, y]
def n5 (a : Int) : Cl := if a = 0 then exN5 14 false 0 0 else exN5 0 true 3 a
def n6 (a : Int) : Cl := if a = 0 then exN6 14 false 0 0 else exN6 0 true 4 a
def ex (a b : Int) : List Cl := exL (n5 a) (n6 b)
def exLate : List Cl := exL (exN5 0 true 4 40) (n6 0)
theorem ex_1 : pChk exC [] (ex 30 40) = (0, 0) := by decide +kernel
theorem ex_2 : pChk exC [] (ex 30 0) = (0, 0) := by decide +kernel
theorem ex_3 : pChk exC [] exLate = (5, 23) := by decide +kernel
theorem ex_4 : pChk exC [] (ex 0 0) = (5, 23) := by decide +kernel
theorem ex_5 : pChk exC [] (ex 31 0) = (5, 23) := by decide +kernel
theorem ex_told : pTld 4 (ex 30 40) = (0, [(3, 30), (4, 40)]) := by decide +kernel
theorem ex_owed : pOwd exC [] 4 (ex 30 0) = (0, [3]) := by decide +kernel
theorem ex_pass : passL (ex 30 40) = [[4, 5, 6]] := by decide +kernel
theorem ex_bad : bad (ex 30 40) = none := by decide +kernel
theorem ex_owed2 : pOwd exC [] 4 (ex 30 40) = (8, []) := by decide +kernel
theorem ex_told2 : pTld 5 (ex 30 40) = (3, []) := by decide +kernel
end Go.Proofs.YtkikdpdainmlcaaGreat
namespace Go.Proofs.YtkikdpdainmlcaaGreat
open Go.RowKit Go.Xt
/-! config and example. -/
@[go_sem] theorem run_build7 (w : World) (a b c d e f g : Cl) : (buildCalls 7 #[(0, cv a), (1, cv b), (2, cv c), (3, cv d), (4, cv e), (5, cv f), (6, cv g)]).run Tryz.prog w = .ok (.slice (some ⟨w.heap.size, 0, none⟩) 7 7) (w.alloc (.cells (cells [a, b, c, d, e, f, g]).toArray 45)) := run_build7' w a b c d e f g
theorem Cs_built (w : World) (l : List Cl) (t : TypeId) : Cs (w.alloc (.cells (cells l).toArray t)) (some ⟨w.heap.size, 0, none⟩) l.length l :=
  ⟨rfl, fun _ => ⟨_, 0, rfl, by simp, fun i c hc => AtC.of_range fun j u hu => by
    rw [World.cell?_alloc_new]
    have := cells_get l i c hc j u hu
    rw [show 0 + i * 18 + j = i * 18 + j by omega]
    simpa using this⟩⟩
theorem Is_built (w : World) (l : List Int) (cs : Array Value) (n : Nat) (t : TypeId) (hn : l.length = n) (h : cs.toList = ints l) : Is (w.alloc (.cells cs t)) (some ⟨w.heap.size, 0, none⟩) n l :=
  ⟨hn, fun _ => ⟨_, 0, rfl, by simp, fun i x hx => by
    rw [World.cell?_alloc_new, Nat.zero_add, ← Array.getElem?_toList, h, ints, List.getElem?_map, hx]; rfl⟩⟩
theorem Cs.setf {W : World} {b n i j off : Nat} {l : List Cl} {c c' : Cl} {v : Value} (h : Cs W (some ⟨b, 0, none⟩) n l) (hi : l[i]? = some c) (hj : j < 18) (hoff : off = i * 18 + j)
    (hc : (cl c') = (cl c).set j v) : Cs (W.setCell ⟨b, off, none⟩ v) (some ⟨b, 0, none⟩) n (l.set i c') := by
  subst hoff
  have hil : i < l.length := (List.getElem?_eq_some_iff.1 hi).1
  obtain ⟨b', o', e, hb, hcs⟩ := h.2 (by rw [← h.1]; omega)
  obtain ⟨rfl, rfl⟩ : b = b' ∧ 0 = o' := by simpa using e
  refine ⟨by rw [List.length_set]; exact h.1, fun _ => ⟨b, 0, rfl, by simpa using hb, fun k z hz => AtC.of_range fun q u hu => ?_⟩⟩
  have hq : q < 18 := (List.getElem?_eq_some_iff.1 hu).1
  rw [List.getElem?_set] at hz
  by_cases hk : i = k
  · subst hk
    rw [if_pos rfl, if_pos hil] at hz
    injection hz with hz
    subst hz
    have hr := (hcs i c hi).range
    rw [hc, List.getElem?_set] at hu
    by_cases hqj : j = q
    · subst hqj
      rw [if_pos rfl] at hu
      have hjl : j < (cl c).length := hj
      rw [if_pos hjl] at hu
      injection hu with hu
      subst hu
      have := hr j _ (List.getElem?_eq_getElem hjl)
      rw [show 0 + i * 18 + j = i * 18 + j by omega] at this ⊢
      exact World.cell?_setCell_same _ _ _ this
    · rw [if_neg hqj] at hu
      rw [World.cell?_setCell_other (h := by intro e; injection e with e1 e2; omega)]
      exact hr q u hu
  · rw [if_neg hk] at hz
    rw [World.cell?_setCell_other (h := by intro e; injection e with e1 e2; omega)]
    exact (hcs k z hz).range q u hu
set_option maxRecDepth 20000 in
set_option maxHeartbeats 2000000 in
theorem config_any (w : World) : Calls Tryz.prog 28 #[] w fun e w' => e = .returned (confV exC) ∧ Nw w w' := by
  obtain ⟨b0, hb0⟩ : ∃ b, b = w.heap.size := ⟨_, rfl⟩
  obtain ⟨Wb, hWb⟩ : ∃ W, W = w.alloc (.cells #[.int .i64 0, .int .i64 0, .int .u8 0, .int .i64 0, .int .u8 0, .int .i64 0, .slice none 0 0, .int .i64 0, .int .i64 0, .int .i64 0, .int .i64 0, .int .i64 0, .int .i64 0, .int .i64 0, .int .i64 0, .int .i64 0] 27) := ⟨_, rfl⟩
  have hnb : Nw w Wb := by rw [hWb]; exact nwa
  have hbx : BoxAt Wb b0 := ⟨_, _, by rw [hWb, hb0]; exact heap_alloc_new w _, rfl⟩
  have hst : (storeConf (.pointer (some ⟨b0, 0, none⟩)) (.agg #[.int .i64 2, .int .i64 2, .int .u8 2, .int .i64 0, .int .u8 2, .int .i64 2, .slice none 0 0, .int .i64 4, .int .i64 2, .int .i64 0, .int .i64 0, .int .i64 0, .int .i64 0, .int .i64 2, .int .i64 5, .int .i64 0])).run Tryz.prog Wb = .ok () (putConf Wb b0 exC) := run_storeConf (c := exC) hbx
  have HCF := Lib.hid (putConf_at (c := exC) hbx)
  have HCH := Lib.hid (putConf_chg Wb b0 exC)
  have HWB := Lib.hid hWb
  have HNB := Lib.hid hnb
  have HB0 := Lib.hid hb0
  clear hWb hnb hb0 hbx
  go_enter Tryz.func28, Tryz.ntmps28
  go_upto_region 1 with (fail)
  rw [← HWB.out, ← HB0.out]
  go_wp2
  refine bodyPost_ret (v := confV exC) (results_conf rfl rfl HCF.out) rfl ⟨rfl, nw_chg2 HNB.out HCH.out (fun k hk => ?_)⟩
  have := HB0.out
  simp at hk; omega
theorem Cs.in_ {w : World} {g n : Nat} {l : List Cl} (h : Cs w (some ⟨g, 0, none⟩) n l) (hn : 0 < n) : g < w.heap.size := by
  obtain ⟨b', o', e, hb, -⟩ := h.2 hn
  obtain ⟨rfl, rfl⟩ : g = b' ∧ 0 = o' := by simpa using e
  exact hb
theorem Cs.cell {w : World} {g n : Nat} {l : List Cl} (h : Cs w (some ⟨g, 0, none⟩) n l) {i j off : Nat} {c : Cl} {u : Value} (hi : l[i]? = some c) (hj : (cl c)[j]? = some u) (ho : off = i * 18 + j) : w.cell? ⟨g, off, none⟩ = some u := by
  obtain ⟨b', o', e, hb, hc⟩ := h.2 (by have := (List.getElem?_eq_some_iff.1 hi).1; rw [← h.1]; omega)
  obtain ⟨rfl, rfl⟩ : g = b' ∧ 0 = o' := by simpa using e
  have := (hc i c hi).range j u hj
  rw [ho]
  rwa [show 0 + i * 18 + j = i * 18 + j by omega] at this
theorem Cs.res {W : World} {g n : Nat} {l : List Cl} {c : Cl} {i o : Nat} (h : Cs W (some ⟨g, 0, none⟩) n l) (hi : l[i]? = some c) (ho : o = i * 18) :
    Cs (((((W.setCell ⟨g, o + 13, none⟩ (.int .i64 14)).setCell ⟨g, o + 14, none⟩ (.bool false)).setCell ⟨g, o + 15, none⟩ (.int .u64 0)).setCell ⟨g, o + 16, none⟩ (.int .u64 0)).setCell ⟨g, o + 17, none⟩ (.int .i64 0)) (some ⟨g, 0, none⟩) n (l.set i { c with re := 14, rf := false, rk := 0, rv := 0, rc := 0 }) := by
  have hil := (List.getElem?_eq_some_iff.1 hi).1
  have h1 := h.setf (off := o + 13) (v := .int .i64 14) (j := 13) (c' := { c with re := 14 }) hi (by omega) (by omega) rfl
  have h2 := h1.setf (off := o + 14) (v := .bool false) (i := i) (j := 14) (c := { c with re := 14 }) (c' := { c with re := 14, rf := false }) (by rw [List.getElem?_set_self hil]) (by omega) (by omega) rfl
  have h3 := h2.setf (off := o + 15) (v := .int .u64 0) (i := i) (j := 15) (c := { c with re := 14, rf := false }) (c' := { c with re := 14, rf := false, rk := 0 }) (by rw [List.getElem?_set_self (by simpa using hil)]) (by omega) (by omega) rfl
  have h4 := h3.setf (off := o + 16) (v := .int .u64 0) (i := i) (j := 16) (c := { c with re := 14, rf := false, rk := 0 }) (c' := { c with re := 14, rf := false, rk := 0, rv := 0 }) (by rw [List.getElem?_set_self (by simpa using hil)]) (by omega) (by omega) rfl
  have h5 := h4.setf (off := o + 17) (v := .int .i64 0) (i := i) (j := 17) (c := { c with re := 14, rf := false, rk := 0, rv := 0 }) (c' := { c with re := 14, rf := false, rk := 0, rv := 0, rc := 0 }) (by rw [List.getElem?_set_self (by simpa using hil)]) (by omega) (by omega) rfl
  rw [List.set_set, List.set_set, List.set_set, List.set_set] at h5
  exact h5
set_option maxRecDepth 20000 in
set_option maxHeartbeats 4000000 in
theorem example_any (a b : Int) (w : World) : Calls Tryz.prog 25 #[.int .u64 a, .int .u64 b] w fun e w' => e = .returned (.slice (some ⟨w.heap.size, 0, none⟩) 7 7) ∧ Cs w' (some ⟨w.heap.size, 0, none⟩) 7 (ex a b) ∧ (∀ i, w'.frozen? ⟨w.heap.size, i, none⟩ = false) ∧ Nw w w' := by
  have h7 := run_build7 w exA exB exP3 exP4 exS (exN5 0 true 3 a) (exN6 0 true 4 b)
  have hcs := Cs_built w (exL (exN5 0 true 3 a) (exN6 0 true 4 b)) 45
  obtain ⟨L, hL⟩ : ∃ L, L = (cells (exL (exN5 0 true 3 a) (exN6 0 true 4 b))).toArray := ⟨_, rfl⟩
  rw [show (cells [exA, exB, exP3, exP4, exS, exN5 0 true 3 a, exN6 0 true 4 b]).toArray = L from hL.symm] at h7
  rw [← hL] at hcs
  obtain ⟨g, hg⟩ : ∃ g, g = w.heap.size := ⟨_, rfl⟩
  obtain ⟨W1, hW1⟩ : ∃ W, W = w.alloc (.cells L 45) := ⟨_, rfl⟩
  rw [← hW1, ← hg] at hcs
  have hcs : Cs W1 (some ⟨g, 0, none⟩) 7 (exL (exN5 0 true 3 a) (exN6 0 true 4 b)) := hcs
  have hfz : ∀ i, W1.frozen? ⟨g, i, none⟩ = false := fun i => by rw [hW1, hg]; simp [go_sem]
  have hnw : Nw w W1 := by rw [hW1]; exact nwa
  have HC := Lib.hid hcs
  have HF := Lib.hid hfz
  have HN := Lib.hid hnw
  have HG := Lib.hid (show w.heap.size ≤ g by omega)
  have HGE := Lib.hid hg
  have HW1 := Lib.hid hW1
  haveI : In g W1 := ⟨hcs.in_ (by omega)⟩
  have j103 : W1.cell? ⟨g, 103, none⟩ = some (.int .i64 0) := hcs.cell (i := 5) (j := 13) rfl rfl rfl
  have y103 := hfz 103
  have j104 : W1.cell? ⟨g, 104, none⟩ = some (.bool true) := hcs.cell (i := 5) (j := 14) rfl rfl rfl
  have y104 := hfz 104
  have j105 : W1.cell? ⟨g, 105, none⟩ = some (.int .u64 3) := hcs.cell (i := 5) (j := 15) rfl rfl rfl
  have y105 := hfz 105
  have j106 : W1.cell? ⟨g, 106, none⟩ = some (.int .u64 a) := hcs.cell (i := 5) (j := 16) rfl rfl rfl
  have y106 := hfz 106
  have j107 : W1.cell? ⟨g, 107, none⟩ = some (.int .i64 0) := hcs.cell (i := 5) (j := 17) rfl rfl rfl
  have y107 := hfz 107
  have j121 : W1.cell? ⟨g, 121, none⟩ = some (.int .i64 0) := hcs.cell (i := 6) (j := 13) rfl rfl rfl
  have y121 := hfz 121
  have j122 : W1.cell? ⟨g, 122, none⟩ = some (.bool true) := hcs.cell (i := 6) (j := 14) rfl rfl rfl
  have y122 := hfz 122
  have j123 : W1.cell? ⟨g, 123, none⟩ = some (.int .u64 4) := hcs.cell (i := 6) (j := 15) rfl rfl rfl
  have y123 := hfz 123
  have j124 : W1.cell? ⟨g, 124, none⟩ = some (.int .u64 b) := hcs.cell (i := 6) (j := 16) rfl rfl rfl
  have y124 := hfz 124
  have j125 : W1.cell? ⟨g, 125, none⟩ = some (.int .i64 0) := hcs.cell (i := 6) (j := 17) rfl rfl rfl
  have y125 := hfz 125
  simp only [cv, exA, exB, exP3, exP4, exS, exN5, exN6] at h7
  rw [← hg]
  clear hcs hL hfz hnw hW1 hg
  go_enter Tryz.func25, Tryz.ntmps25
  go_upto_region 2 with (fail)
  rw [← HW1.out, ← HGE.out]
  clear h7
  by_cases ha : a = 0 <;> by_cases hb : b = 0
  · have da : (a == 0) = true := by simpa using ha
    have db : (b == 0) = true := by simpa using hb
    have HX := Lib.hid (show ex a b = exL (exN5 14 false 0 0) (exN6 14 false 0 0) by unfold ex n5 n6; rw [if_pos ha, if_pos hb])
    clear ha hb
    go_wp2
    refine bodyPost_ret (results_tmp rfl _ _ _) rfl ⟨rfl, ?_, fun i => ?_, ?_⟩
    · rw [HX.out]
      exact (Cs.res (Cs.res HC.out (i := 5) (o := 90) (c := exN5 0 true 3 a) rfl rfl) (i := 6) (o := 108) (c := exN6 0 true 4 b) rfl rfl)
    · simp only [World.frozen?_setCell]; exact HF.out i
    · have hg : w.heap.size ≤ g := HG.out
      exact (Nw.setCell (Nw.setCell (Nw.setCell (Nw.setCell (Nw.setCell (Nw.setCell (Nw.setCell (Nw.setCell (Nw.setCell (Nw.setCell HN.out (p := ⟨g, 103, none⟩) hg (.int .i64 14)) (p := ⟨g, 104, none⟩) hg (.bool false)) (p := ⟨g, 105, none⟩) hg (.int .u64 0)) (p := ⟨g, 106, none⟩) hg (.int .u64 0)) (p := ⟨g, 107, none⟩) hg (.int .i64 0)) (p := ⟨g, 121, none⟩) hg (.int .i64 14)) (p := ⟨g, 122, none⟩) hg (.bool false)) (p := ⟨g, 123, none⟩) hg (.int .u64 0)) (p := ⟨g, 124, none⟩) hg (.int .u64 0)) (p := ⟨g, 125, none⟩) hg (.int .i64 0))
  · have da : (a == 0) = true := by simpa using ha
    have db : (b == 0) = false := by simpa using hb
    have HX := Lib.hid (show ex a b = exL (exN5 14 false 0 0) (exN6 0 true 4 b) by unfold ex n5 n6; rw [if_pos ha, if_neg hb])
    clear ha hb
    go_wp2
    refine bodyPost_ret (results_tmp rfl _ _ _) rfl ⟨rfl, ?_, fun i => ?_, ?_⟩
    · rw [HX.out]
      exact (Cs.res HC.out (i := 5) (o := 90) (c := exN5 0 true 3 a) rfl rfl)
    · simp only [World.frozen?_setCell]; exact HF.out i
    · have hg : w.heap.size ≤ g := HG.out
      exact (Nw.setCell (Nw.setCell (Nw.setCell (Nw.setCell (Nw.setCell HN.out (p := ⟨g, 103, none⟩) hg (.int .i64 14)) (p := ⟨g, 104, none⟩) hg (.bool false)) (p := ⟨g, 105, none⟩) hg (.int .u64 0)) (p := ⟨g, 106, none⟩) hg (.int .u64 0)) (p := ⟨g, 107, none⟩) hg (.int .i64 0))
  · have da : (a == 0) = false := by simpa using ha
    have db : (b == 0) = true := by simpa using hb
    have HX := Lib.hid (show ex a b = exL (exN5 0 true 3 a) (exN6 14 false 0 0) by unfold ex n5 n6; rw [if_neg ha, if_pos hb])
    clear ha hb
    go_wp2
    refine bodyPost_ret (results_tmp rfl _ _ _) rfl ⟨rfl, ?_, fun i => ?_, ?_⟩
    · rw [HX.out]
      exact (Cs.res HC.out (i := 6) (o := 108) (c := exN6 0 true 4 b) rfl rfl)
    · simp only [World.frozen?_setCell]; exact HF.out i
    · have hg : w.heap.size ≤ g := HG.out
      exact (Nw.setCell (Nw.setCell (Nw.setCell (Nw.setCell (Nw.setCell HN.out (p := ⟨g, 121, none⟩) hg (.int .i64 14)) (p := ⟨g, 122, none⟩) hg (.bool false)) (p := ⟨g, 123, none⟩) hg (.int .u64 0)) (p := ⟨g, 124, none⟩) hg (.int .u64 0)) (p := ⟨g, 125, none⟩) hg (.int .i64 0))
  · have da : (a == 0) = false := by simpa using ha
    have db : (b == 0) = false := by simpa using hb
    have HX := Lib.hid (show ex a b = exL (exN5 0 true 3 a) (exN6 0 true 4 b) by unfold ex n5 n6; rw [if_neg ha, if_neg hb])
    clear ha hb
    go_wp2
    refine bodyPost_ret (results_tmp rfl _ _ _) rfl ⟨rfl, ?_, fun i => ?_, ?_⟩
    · rw [HX.out]
      exact HC.out
    · exact HF.out i
    · have hg : w.heap.size ≤ g := HG.out
      exact HN.out
end Go.Proofs.YtkikdpdainmlcaaGreat
