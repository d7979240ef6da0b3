import Derived.Test.YtdjcndpnjoahmaaDoorGSc
import Derived.Deep.DeepCutAuto
set_option linter.unusedVariables false
set_option linter.unusedSimpArgs false
namespace Go.Proofs.YtdjcndpnjoahmaaDoor
open Go.RowKit Go.Xt
/-! The law ModelExamples. -/
theorem of_nil (t : Int) (w : World) : Calls Tryd.prog 35 #[.pointer none, .int .i64 t] w fun e w' => e = .returned (thV Th0) ∧ Nw w w' := by
  simp only [Th0]
  go_enter Tryd.func35, Tryd.ntmps35
  go_wp2
  refine bodyPost_ret (v := .agg #[.bool false, .bool false, .int .u64 0, .int .u64 0, .bool false]) ?_ rfl ⟨rfl, (by repeat (first | exact Xt.Nw.refl _ | refine Xt.Nw.drew ?_ | refine Xt.Nw.drewN ?_ _ | refine Xt.Nw.alloc ?_ _ | refine Xt.Nw.joined ?_ | refine Xt.Nw.drewd ?_ | refine Xt.Nw.drewdN ?_ | refine Xt.Nw.ext ?_ | refine Xt.Nw.ext_some ?_ (by assumption) | refine Xt.Nw.setCell ?_ (by simp [go_sem] <;> omega) _))⟩
  simp [results, Tryd.results35, go_sem]
theorem session_nil (t : Int) (w : World) : Calls Tryd.prog 17 #[.pointer none, .int .i64 t] w fun e w' => e = .returned (.bool false) ∧ Nw w w' := by
  have H := Lib.hid (of_nil t w)
  simp only [Th0] at H
  go_enter Tryd.func17, Tryd.ntmps17
  go_wp2_with fail
  refine H.out.mono ?_
  rintro e w' ⟨rfl, dW, rfl⟩
  go_wp2
  go_ret
  exact ⟨rfl, (by repeat (first | exact Xt.Nw.refl _ | refine Xt.Nw.drew ?_ | refine Xt.Nw.drewN ?_ _ | refine Xt.Nw.alloc ?_ _ | refine Xt.Nw.joined ?_ | refine Xt.Nw.drewd ?_ | refine Xt.Nw.drewdN ?_ | refine Xt.Nw.ext ?_ | refine Xt.Nw.ext_some ?_ (by assumption) | refine Xt.Nw.setCell ?_ (by simp [go_sem] <;> omega) _))⟩
set_option maxRecDepth 20000 in
theorem iter_nil (t : Int) (w : World) : Calls Tryd.prog 19 #[.pointer none, .int .i64 t] w fun e w' => e = .returned (.tuple #[.agg #[.int .u64 0, .int .u64 0], .bool false, .bool false]) ∧ Nw w w' := by
  have H := Lib.hid (fun W => of_nil t W)
  simp only [Th0] at H
  go_enter Tryd.func19, Tryd.ntmps19
  go_wp2_with fail
  have hA : Nw w (w.alloc (.cells #[.int .u64 0, .int .u64 0] 57)) := (Nw.refl _).alloc _
  refine (H.out _).mono ?_
  rintro e W2 ⟨rfl, hn2⟩
  have a0 : W2.cell? ⟨w.heap.size, 0, none⟩ = some (.int .u64 0) := cell_nw (by simp [go_sem]) hn2
  have a1 : W2.cell? ⟨w.heap.size, 1, none⟩ = some (.int .u64 0) := cell_nw (by simp [go_sem]) hn2
  have z0 : W2.frozen? ⟨w.heap.size, 0, none⟩ = false := (frozen_nw (by simp) hn2).trans (by simp [go_sem])
  have z1 : W2.frozen? ⟨w.heap.size, 1, none⟩ = false := (frozen_nw (by simp) hn2).trans (by simp [go_sem])
  haveI : In w.heap.size W2 := ⟨World.block_lt_of_cell? W2 _ a0⟩
  have HN := Lib.hid (hA.trans hn2)
  clear hA hn2
  go_upto_region 2 with (fail)
  go_region
  go_wp2
  refine bodyPost_ret (v := .tuple #[.agg #[.int .u64 0, .int .u64 0], .bool false, .bool false]) ?_ rfl ⟨rfl, ?_⟩
  · simp [results, Tryd.results19, go_sem, a0, a1]
  · repeat (first | refine Xt.Nw.drew ?_ | refine Xt.Nw.alloc ?_ _ | refine Xt.Nw.setCell ?_ (by simp) _)
    exact HN.out
theorem do_nil (t : Int) (o : Ox) (w : World) : Calls Tryd.prog 12 #[.pointer none, .int .i64 t, opV o] w fun e w' => e = .returned (res5 1 false 0 0 0) ∧ Nw w w' := by
  unfold opV
  go_enter Tryd.func12, Tryd.ntmps12
  go_wp2
  refine bodyPost_ret (v := res5 1 false 0 0 0) ?_ rfl ⟨rfl, (by repeat (first | exact Xt.Nw.refl _ | refine Xt.Nw.drew ?_ | refine Xt.Nw.drewN ?_ _ | refine Xt.Nw.alloc ?_ _ | refine Xt.Nw.joined ?_ | refine Xt.Nw.drewd ?_ | refine Xt.Nw.drewdN ?_ | refine Xt.Nw.ext ?_ | refine Xt.Nw.ext_some ?_ (by assumption) | refine Xt.Nw.setCell ?_ (by simp [go_sem] <;> omega) _))⟩
  simp [results, Tryd.results12, go_sem]
theorem acc_nil (t : Int) (o : Ox) (r : Rs) (w : World) : Calls Tryd.prog 16 #[.pointer none, .int .i64 t, opV o, resV r] w fun e w' => e = .returned (.bool false) ∧ Nw w w' := by
  unfold opV resV
  go_enter Tryd.func16, Tryd.ntmps16
  go_wp2
  go_ret
  exact ⟨rfl, (by repeat (first | exact Xt.Nw.refl _ | refine Xt.Nw.drew ?_ | refine Xt.Nw.drewN ?_ _ | refine Xt.Nw.alloc ?_ _ | refine Xt.Nw.joined ?_ | refine Xt.Nw.drewd ?_ | refine Xt.Nw.drewdN ?_ | refine Xt.Nw.ext ?_ | refine Xt.Nw.ext_some ?_ (by assumption) | refine Xt.Nw.setCell ?_ (by simp [go_sem] <;> omega) _))⟩
theorem pairs_nil (w : World) : Calls Tryd.prog 15 #[.pointer none] w fun e w' => e = .returned (.slice none 0 0) ∧ Nw w w' := by
  go_enter Tryd.func15, Tryd.ntmps15
  go_wp2
  go_ret
  exact ⟨rfl, (by repeat (first | exact Xt.Nw.refl _ | refine Xt.Nw.drew ?_ | refine Xt.Nw.drewN ?_ _ | refine Xt.Nw.alloc ?_ _ | refine Xt.Nw.joined ?_ | refine Xt.Nw.drewd ?_ | refine Xt.Nw.drewdN ?_ | refine Xt.Nw.ext ?_ | refine Xt.Nw.ext_some ?_ (by assumption) | refine Xt.Nw.setCell ?_ (by simp [go_sem] <;> omega) _))⟩
theorem copy_nil (w : World) : Calls Tryd.prog 11 #[.pointer none] w fun e w' => e = .returned (.pointer none) ∧ Nw w w' := by
  go_enter Tryd.func11, Tryd.ntmps11
  go_wp2
  go_ret
  exact ⟨rfl, (by repeat (first | exact Xt.Nw.refl _ | refine Xt.Nw.drew ?_ | refine Xt.Nw.drewN ?_ _ | refine Xt.Nw.alloc ?_ _ | refine Xt.Nw.joined ?_ | refine Xt.Nw.drewd ?_ | refine Xt.Nw.drewdN ?_ | refine Xt.Nw.ext ?_ | refine Xt.Nw.ext_some ?_ (by assumption) | refine Xt.Nw.setCell ?_ (by simp [go_sem] <;> omega) _))⟩
theorem key_nil (w : World) : Calls Tryd.prog 13 #[.pointer none] w fun e w' => e = .returned (.string ⟨#[]⟩) ∧ Nw w w' := by
  go_enter Tryd.func13, Tryd.ntmps13
  go_wp2
  go_ret
  exact ⟨rfl, (by repeat (first | exact Xt.Nw.refl _ | refine Xt.Nw.drew ?_ | refine Xt.Nw.drewN ?_ _ | refine Xt.Nw.alloc ?_ _ | refine Xt.Nw.joined ?_ | refine Xt.Nw.drewd ?_ | refine Xt.Nw.drewdN ?_ | refine Xt.Nw.ext ?_ | refine Xt.Nw.ext_some ?_ (by assumption) | refine Xt.Nw.setCell ?_ (by simp [go_sem] <;> omega) _))⟩
section
variable {w W : World} {N : Nat} {gm : Nat} {s s' : Md} {K : List (Nat × Obj)}
theorem ex_do (h : Lw w N [(gm, s)] K W) (hN : N ≤ 500000) {t : Int} {o : Ox} {r : Rs} (hw : o.Wf) (hd : doM s t o = (r, s')) :
    Calls Tryd.prog 12 #[.pointer (some ⟨gm, 0, none⟩), .int .i64 t, opV o] W fun e W' => e = .returned (resV r) ∧ Lw w (N + 1) [(gm, s')] K W' := by
  have c := do_Lw (i := 0) h hN rfl t o hw
  rw [hd] at c
  exact c
theorem ex_acc (h : Lw w N [(gm, s)] K W) (hN : N ≤ 500000) {t : Int} {o : Ox} {r : Rs} {b : Bool} (hw : o.Wf) (hk : 0 ≤ r.key ∧ r.key < 18446744073709551616) (hd : acceptM s t o r = (b, s')) :
    Calls Tryd.prog 16 #[.pointer (some ⟨gm, 0, none⟩), .int .i64 t, opV o, resV r] W fun e W' => e = .returned (.bool b) ∧ Lw w (N + 1) [(gm, s')] K W' := by
  have c := acc_Lw (i := 0) h hN rfl t o hw r hk
  rw [hd] at c
  exact c
end
/-- The table of the chapter's examples. -/
def exS : List (Int × Ox × Rs) := [(0, ⟨3, 5, 0, 0, 0, 0, 0⟩, ⟨10, false, 0, 0, 0⟩), (0, ⟨1, 0, 0, 0, 0, 0, 0⟩, ⟨0, false, 0, 0, 0⟩), (0, ⟨1, 0, 0, 0, 0, 0, 0⟩, ⟨8, false, 0, 0, 0⟩), (0, ⟨4, 5, 0, 50, 0, 0, 0⟩, ⟨0, false, 0, 0, 0⟩), (0, ⟨3, 5, 0, 0, 0, 0, 0⟩, ⟨0, true, 0, 50, 0⟩), (1, ⟨1, 0, 0, 0, 0, 0, 0⟩, ⟨10, false, 0, 0, 0⟩), (2, ⟨1, 0, 0, 0, 0, 0, 0⟩, ⟨2, false, 0, 0, 0⟩), (0, ⟨8, 5, 9, 0, 0, 0, 0⟩, ⟨13, false, 0, 0, 0⟩), (0, ⟨8, 9, 5, 0, 0, 1, 0⟩, ⟨13, false, 0, 0, 0⟩), (0, ⟨8, 5, 18446744073709551614, 0, 0, 2, 0⟩, ⟨12, false, 0, 0, 0⟩), (0, ⟨8, 5, 9, 0, 0, 2, 0⟩, ⟨0, false, 0, 0, 1⟩), (0, ⟨10, 0, 0, 0, 0, 0, 0⟩, ⟨0, false, 0, 0, 1⟩), (0, ⟨10, 0, 0, 0, 0, 0, 1⟩, ⟨2, false, 0, 0, 0⟩), (0, ⟨12, 0, 0, 0, 0, 0, 0⟩, ⟨8, false, 0, 0, 0⟩), (0, ⟨11, 0, 9, 0, 0, 0, 0⟩, ⟨0, false, 0, 0, 0⟩), (0, ⟨12, 0, 0, 0, 0, 0, 0⟩, ⟨0, true, 7, 50, 0⟩)]
def exc (e : Int × Ox × Rs) : List Value := [.int .i64 e.1, .int .u8 e.2.1.k, .int .u64 e.2.1.key, .int .u64 e.2.1.hi, .int .u64 e.2.1.val, .int .u64 e.2.1.old, .int .u64 e.2.1.by_, .int .u64 e.2.1.draw, .int .i64 e.2.2.err, .bool e.2.2.fd, .int .u64 e.2.2.key, .int .u64 e.2.2.val, .int .i64 e.2.2.cnt]
def exCells : List Value := exS.flatMap exc
def stE : Nat → Md
  | 0 => ⟨1, [], List.replicate 2 Th0⟩
  | i + 1 => match exS[i]? with
    | some e => (doM (stE i) e.1 e.2.1).2
    | none => stE i
theorem ex_step : ∀ i, i < 16 → ∃ e : Int × Ox × Rs, exS[i]? = some e ∧ doM (stE i) e.1 e.2.1 = (e.2.2, stE (i + 1)) ∧ e.2.1.Wf ∧ e.1 < 3 ∧ -1 < e.1
  | 0, _ => ⟨_, rfl, by kernel_rfl, by constructor <;> simp, by simp, by simp⟩
  | 1, _ => ⟨_, rfl, by kernel_rfl, by constructor <;> simp, by simp, by simp⟩
  | 2, _ => ⟨_, rfl, by kernel_rfl, by constructor <;> simp, by simp, by simp⟩
  | 3, _ => ⟨_, rfl, by kernel_rfl, by constructor <;> simp, by simp, by simp⟩
  | 4, _ => ⟨_, rfl, by kernel_rfl, by constructor <;> simp, by simp, by simp⟩
  | 5, _ => ⟨_, rfl, by kernel_rfl, by constructor <;> simp, by simp, by simp⟩
  | 6, _ => ⟨_, rfl, by kernel_rfl, by constructor <;> simp, by simp, by simp⟩
  | 7, _ => ⟨_, rfl, by kernel_rfl, by constructor <;> simp, by simp, by simp⟩
  | 8, _ => ⟨_, rfl, by kernel_rfl, by constructor <;> simp, by simp, by simp⟩
  | 9, _ => ⟨_, rfl, by kernel_rfl, by constructor <;> simp, by simp, by simp⟩
  | 10, _ => ⟨_, rfl, by kernel_rfl, by constructor <;> simp, by simp, by simp⟩
  | 11, _ => ⟨_, rfl, by kernel_rfl, by constructor <;> simp, by simp, by simp⟩
  | 12, _ => ⟨_, rfl, by kernel_rfl, by constructor <;> simp, by simp, by simp⟩
  | 13, _ => ⟨_, rfl, by kernel_rfl, by constructor <;> simp, by simp, by simp⟩
  | 14, _ => ⟨_, rfl, by kernel_rfl, by constructor <;> simp, by simp, by simp⟩
  | 15, _ => ⟨_, rfl, by kernel_rfl, by constructor <;> simp, by simp, by simp⟩
  | i + 16, h => by omega
theorem exc_get : ∀ (l : List (Int × Ox × Rs)) (i : Nat) (d : Int × Ox × Rs), l[i]? = some d → ∀ j v, (exc d)[j]? = some v → (l.flatMap exc)[i * 13 + j]? = some v
  | [], i, d, h, _, _, _ => by simp at h
  | y :: l, 0, d, h, j, v, hj => by
    simp at h; subst h
    have hl := (List.getElem?_eq_some_iff.1 hj).1
    rw [List.flatMap_cons, Nat.zero_mul, Nat.zero_add, List.getElem?_append_left hl]; exact hj
  | y :: l, i + 1, d, h, j, v, hj => by
    have h2 := exc_get l i d (by simpa using h) j v hj
    rw [List.flatMap_cons, List.getElem?_append_right (by simp [exc]; omega)]
    have e : (i + 1) * 13 + j - (exc y).length = i * 13 + j := by simp [exc]; omega
    rw [e]; exact h2
/-- The cells of the table, kept shut. -/
def exA : Array Value := exCells.toArray
def buildEx (n : Nat) (ps : Array (Nat × Value)) : Sem Value := Instr.buildSlice 55 n ps
@[go_sem ↓] theorem buildEx_in (n : Nat) (ps : Array (Nat × Value)) : Instr.buildSlice 55 n ps = buildEx n ps := rfl
set_option maxRecDepth 20000 in
@[go_sem] theorem run_buildEx (w : World) : (buildEx 16 #[(0, .agg #[.int .i64 0, .int .u8 3, .int .u64 5, .int .u64 0, .int .u64 0, .int .u64 0, .int .u64 0, .int .u64 0, .int .i64 10, .bool false, .int .u64 0, .int .u64 0, .int .i64 0]), (1, .agg #[.int .i64 0, .int .u8 1, .int .u64 0, .int .u64 0, .int .u64 0, .int .u64 0, .int .u64 0, .int .u64 0, .int .i64 0, .bool false, .int .u64 0, .int .u64 0, .int .i64 0]), (2, .agg #[.int .i64 0, .int .u8 1, .int .u64 0, .int .u64 0, .int .u64 0, .int .u64 0, .int .u64 0, .int .u64 0, .int .i64 8, .bool false, .int .u64 0, .int .u64 0, .int .i64 0]), (3, .agg #[.int .i64 0, .int .u8 4, .int .u64 5, .int .u64 0, .int .u64 50, .int .u64 0, .int .u64 0, .int .u64 0, .int .i64 0, .bool false, .int .u64 0, .int .u64 0, .int .i64 0]), (4, .agg #[.int .i64 0, .int .u8 3, .int .u64 5, .int .u64 0, .int .u64 0, .int .u64 0, .int .u64 0, .int .u64 0, .int .i64 0, .bool true, .int .u64 0, .int .u64 50, .int .i64 0]), (5, .agg #[.int .i64 1, .int .u8 1, .int .u64 0, .int .u64 0, .int .u64 0, .int .u64 0, .int .u64 0, .int .u64 0, .int .i64 10, .bool false, .int .u64 0, .int .u64 0, .int .i64 0]), (6, .agg #[.int .i64 2, .int .u8 1, .int .u64 0, .int .u64 0, .int .u64 0, .int .u64 0, .int .u64 0, .int .u64 0, .int .i64 2, .bool false, .int .u64 0, .int .u64 0, .int .i64 0]), (7, .agg #[.int .i64 0, .int .u8 8, .int .u64 5, .int .u64 9, .int .u64 0, .int .u64 0, .int .u64 0, .int .u64 0, .int .i64 13, .bool false, .int .u64 0, .int .u64 0, .int .i64 0]), (8, .agg #[.int .i64 0, .int .u8 8, .int .u64 9, .int .u64 5, .int .u64 0, .int .u64 0, .int .u64 1, .int .u64 0, .int .i64 13, .bool false, .int .u64 0, .int .u64 0, .int .i64 0]), (9, .agg #[.int .i64 0, .int .u8 8, .int .u64 5, .int .u64 18446744073709551614, .int .u64 0, .int .u64 0, .int .u64 2, .int .u64 0, .int .i64 12, .bool false, .int .u64 0, .int .u64 0, .int .i64 0]), (10, .agg #[.int .i64 0, .int .u8 8, .int .u64 5, .int .u64 9, .int .u64 0, .int .u64 0, .int .u64 2, .int .u64 0, .int .i64 0, .bool false, .int .u64 0, .int .u64 0, .int .i64 1]), (11, .agg #[.int .i64 0, .int .u8 10, .int .u64 0, .int .u64 0, .int .u64 0, .int .u64 0, .int .u64 0, .int .u64 0, .int .i64 0, .bool false, .int .u64 0, .int .u64 0, .int .i64 1]), (12, .agg #[.int .i64 0, .int .u8 10, .int .u64 0, .int .u64 0, .int .u64 0, .int .u64 0, .int .u64 0, .int .u64 1, .int .i64 2, .bool false, .int .u64 0, .int .u64 0, .int .i64 0]), (13, .agg #[.int .i64 0, .int .u8 12, .int .u64 0, .int .u64 0, .int .u64 0, .int .u64 0, .int .u64 0, .int .u64 0, .int .i64 8, .bool false, .int .u64 0, .int .u64 0, .int .i64 0]), (14, .agg #[.int .i64 0, .int .u8 11, .int .u64 0, .int .u64 9, .int .u64 0, .int .u64 0, .int .u64 0, .int .u64 0, .int .i64 0, .bool false, .int .u64 0, .int .u64 0, .int .i64 0]), (15, .agg #[.int .i64 0, .int .u8 12, .int .u64 0, .int .u64 0, .int .u64 0, .int .u64 0, .int .u64 0, .int .u64 0, .int .i64 0, .bool true, .int .u64 7, .int .u64 50, .int .i64 0])]).run Tryd.prog w = .ok (.slice (some ⟨w.heap.size, 0, none⟩) 16 16) (w.alloc (.cells exA 54)) := by
  kernel_rfl
end Go.Proofs.YtdjcndpnjoahmaaDoor
