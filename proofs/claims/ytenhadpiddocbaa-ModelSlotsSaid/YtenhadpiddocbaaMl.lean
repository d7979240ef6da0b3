import Derived.Test.YtenhadpiddocbaaMk
namespace Go.Proofs.Ytenhadpiddocbaa
open Go.RowKit Go.Xt
/-! The ordered map: Get, Put, Delete, Len. -/
set_option maxRecDepth 20000 in
set_option maxHeartbeats 4000000 in
theorem get_0 (gp : Nat) (w : World) (h : w.cell? ⟨gp, 0, none⟩ = some (.slice none 0 0)) :
    Calls Try.prog 40 #[.pointer (some ⟨gp, 0, none⟩), .int .u64 4] w fun e w' => e = .returned (.tuple #[.int .u64 0, .bool false]) ∧ Nw w w' := by
  haveI : In gp w := ⟨World.block_lt_of_cell? w _ h⟩
  go_enter Try.func40, Try.ntmps40
  go_wp2_with fail
  refine (find_0 gp w h).mono ?_
  rintro e w' ⟨rfl, dW, rfl⟩
  go_wp2
  exact bodyPost_ret (results_tmp2 rfl _ _ _) rfl ⟨rfl, (by repeat (first | exact Xt.Nw.refl _ | refine Xt.Nw.drew ?_ | refine Xt.Nw.drewN ?_ _ | refine Xt.Nw.alloc ?_ _ | refine Xt.Nw.joined ?_ | refine Xt.Nw.drewd ?_ | refine Xt.Nw.drewdN ?_ | refine Xt.Nw.ext ?_ | refine Xt.Nw.ext_some ?_ (by assumption) | refine Xt.Nw.setCell ?_ (by simp [go_sem] <;> omega) _))⟩
set_option maxRecDepth 20000 in
set_option maxHeartbeats 4000000 in
theorem put_0 (gp : Nat) (w : World) (h : w.cell? ⟨gp, 0, none⟩ = some (.slice none 0 0)) (hz : w.frozen? ⟨gp, 0, none⟩ = false) :
    Calls Try.prog 41 #[.pointer (some ⟨gp, 0, none⟩), .int .u64 4, .int .u64 2] w fun e w' => e = .returned (.tuple #[.int .u64 0, .bool false, .int .i64 0]) ∧ Chg [gp] w w' ∧ ∃ gl c, One w' gp gl c ∧ w.heap.size ≤ gl := by
  have hlt := World.block_lt_of_cell? w _ h
  haveI : In gp w := ⟨hlt⟩
  go_enter Try.func41, Try.ntmps41
  go_wp2_with fail
  refine (get_0 gp w h).mono ?_
  rintro e w' ⟨rfl, dW, rfl⟩
  go_wp2_with fail
  refine (set_0 gp _ (by simp [go_sem, h]) (by simp [go_sem, hz])).mono ?_
  rintro e W3 ⟨rfl, hch, gl, c, hone, hgl⟩
  have hge := le_size w none dW
  have hch2 : Chg [gp] w W3 := (Chg.of_nw ⟨dW, rfl⟩).trans hch
  clear hlt
  go_wp2
  refine bodyPost_ret (v := .tuple #[.int .u64 0, .bool false, .int .i64 0]) ?_ rfl ⟨rfl, hch2, gl, c, hone, Nat.le_trans hge hgl⟩
  simp [results, Try.results41, go_sem]
theorem clear_one (b c : Nat) (w : World) (h0 : w.cell? ⟨b, 0, none⟩ = some (.int .u64 4)) (h1 : w.cell? ⟨b, 1, none⟩ = some (.int .u64 2)) (hz : ∀ o, w.frozen? ⟨b, o, none⟩ = false) (ty : TypeId) :
    (Builtin.clear_ #[63] ty #[.slice (some ⟨b, 0, none⟩) 1 c]).run Try.prog w = .ok (.tuple #[]) ((w.setCell ⟨b, 0, none⟩ (.int .u64 0)).setCell ⟨b, 1, none⟩ (.int .u64 0)) := by
  have hv : ∀ w, (zeroValue 67).run Try.prog w = .ok (.agg #[.int .u64 0, .int .u64 0]) w := fun w => by kernel_rfl
  have hzc : (Builtin.zeroCells (Value.agg #[.int .u64 0, .int .u64 0]).cells 1).toList = [.int .u64 0, .int .u64 0] := by kernel_rfl
  have hst := run_storeCells_cells (P := Try.prog) b 0 [.int .u64 0, .int .u64 0] 0 w (fun j hj => by
    match j, hj with
    | 0, _ => simp [h0]
    | 1, _ => simp [h1]
    | j + 2, hj => have h2 : j + 2 < 2 := hj; omega) (fun j _ => by simpa using hz j) (by intro v hv'; simp at hv'; subst hv'; rfl)
  simp only [Nat.add_zero] at hst
  simp [Builtin.clear_, run_underlying (Try.underlying63), hv, hzc, hst]
  rfl
set_option maxRecDepth 20000 in
set_option maxHeartbeats 4000000 in
/-- slices.Delete of the one pair. -/
theorem delete_s (gl c : Nat) (w : World) (h0 : w.cell? ⟨gl, 0, none⟩ = some (.int .u64 4)) (h1 : w.cell? ⟨gl, 1, none⟩ = some (.int .u64 2)) (hz : ∀ o, w.frozen? ⟨gl, o, none⟩ = false) (hc : 1 ≤ c) (hm : c ≤ maxLen) :
    Calls Try.prog 55 #[.slice (some ⟨gl, 0, none⟩) 1 c, .int .i64 0, .int .i64 1] w fun e w' => (e = .returned (.slice (some ⟨gl, 0, none⟩) 0 c)) ∧ Chg [gl] w w' := by
  haveI : In gl w := ⟨World.block_lt_of_cell? w _ h0⟩
  have z0 := hz 0
  have z1 := hz 1
  have hcI : (1 : Int) ≤ (c : Int) := by omega
  have hcl := clear_one gl c w.drew h0 h1 hz
  have HZ := Lib.hid hz
  have hch : Chg [gl] w ((w.drew.setCell ⟨gl, 0, none⟩ (.int .u64 0)).setCell ⟨gl, 1, none⟩ (.int .u64 0)) := (Chg.of_nw (Nw.drew (Nw.refl _))).trans ((Chg.set1 w.drew gl 0 (.int .u64 0)).set2 1 (.int .u64 0))
  have HCH := Lib.hid hch
  clear hz hch
  by_cases hc1 : c ≤ 1
  · go_enter Try.func55, Try.ntmps55
    go_upto_region 5 with (fail)
    go_region
    go_wp2
    refine bodyPost_ret (results_tmp rfl _ _ _) rfl ⟨rfl, HCH.out⟩
  · go_enter Try.func55, Try.ntmps55
    go_upto_region 5 with (fail)
    go_region
    go_wp2
    refine bodyPost_ret (results_tmp rfl _ _ _) rfl ⟨rfl, HCH.out⟩
end Go.Proofs.Ytenhadpiddocbaa
