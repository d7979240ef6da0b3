import Derived.Test.YtdjcndpnjoahmaaMi
namespace Go.Proofs.Ytdjcndpnjoahmaa
open Go.RowKit Go.Xt
/-! The ordered map: empty, and with one pair. -/
set_option maxRecDepth 20000 in
set_option maxHeartbeats 4000000 in
theorem search_0 (f : Value) (w : World) :
    Calls Try.prog 56 #[.int .i64 0, f] w fun e w' => e = .returned (.int .i64 0) ∧ Nw w w' := by
  go_enter Try.func56, Try.ntmps56
  go_wp2
  go_loopw [5, 6] (fun a b wr => a = .int .i64 0 ∧ b = .int .i64 0 ∧ wr = w) (fun _ _ _ => 0)
  case atStart => exact ⟨rfl, rfl, rfl⟩
  case round =>
    obtain ⟨rfl, rfl, rfl⟩ := hrel
    go_wp2
    go_ret
    exact ⟨rfl, Nw.refl _⟩
set_option maxRecDepth 20000 in
set_option maxHeartbeats 4000000 in
theorem find_0 (gp : Nat) (w : World) (h : w.cell? ⟨gp, 0, none⟩ = some (.slice none 0 0)) :
    Calls Try.prog 38 #[.pointer (some ⟨gp, 0, none⟩), .int .u64 4] w fun e w' => e = .returned (.tuple #[.int .i64 0, .bool false]) ∧ Nw w w' := by
  haveI : In gp w := ⟨World.block_lt_of_cell? w _ h⟩
  go_enter Try.func38, Try.ntmps38
  go_wp2_with fail
  refine (search_0 _ _).mono ?_
  rintro e w' ⟨rfl, dW, rfl⟩
  go_wp2_with fail
  (refine wp_region_nw (by kernel_rfl) (by kernel_rfl) ?_; (repeat (go_big_quiet_step (fail))); refine wpQuiet_nil ?_; intro _ hreg; obtain ⟨dW, rfl⟩ : Nw _ _ := hreg)
  go_wp2
  exact bodyPost_ret (results_tmp2 rfl _ _ _) rfl ⟨rfl, (by repeat (first | exact Xt.Nw.refl _ | refine Xt.Nw.drew ?_ | refine Xt.Nw.drewN ?_ _ | refine Xt.Nw.alloc ?_ _ | refine Xt.Nw.joined ?_ | refine Xt.Nw.drewd ?_ | refine Xt.Nw.drewdN ?_ | refine Xt.Nw.ext ?_ | refine Xt.Nw.ext_some ?_ (by assumption) | refine Xt.Nw.setCell ?_ (by simp [go_sem] <;> omega) _))⟩
set_option maxRecDepth 20000 in
set_option maxHeartbeats 4000000 in
theorem clos_1 (gp gl c a b : Nat) (w : World) (h : w.cell? ⟨gp, 0, none⟩ = some (.slice (some ⟨gl, 0, none⟩) 1 c)) (h0 : w.cell? ⟨gl, 0, none⟩ = some (.int .u64 4))
    (ha : w.cell? ⟨a, 0, none⟩ = some (.pointer (some ⟨gp, 0, none⟩))) (hb : w.cell? ⟨b, 0, none⟩ = some (.int .u64 4)) :
    Calls Try.prog 57 #[.int .i64 0, .pointer (some ⟨a, 0, none⟩), .pointer (some ⟨b, 0, none⟩)] w fun e w' => e = .returned (.bool true) ∧ Nw w w' := by
  haveI : In gp w := ⟨World.block_lt_of_cell? w _ h⟩
  haveI : In gl w := ⟨World.block_lt_of_cell? w _ h0⟩
  haveI : In a w := ⟨World.block_lt_of_cell? w _ ha⟩
  haveI : In b w := ⟨World.block_lt_of_cell? w _ hb⟩
  go_enter Try.func57, Try.ntmps57
  go_wp2_with fail
  (refine wp_region_nw (by kernel_rfl) (by kernel_rfl) ?_; (repeat (go_big_quiet_step (fail))); refine wpQuiet_nil ?_; intro _ hreg; obtain ⟨dW, rfl⟩ : Nw _ _ := hreg)
  go_wp2
  go_ret
  exact ⟨rfl, (by repeat (first | exact Xt.Nw.refl _ | refine Xt.Nw.drew ?_ | refine Xt.Nw.drewN ?_ _ | refine Xt.Nw.alloc ?_ _ | refine Xt.Nw.joined ?_ | refine Xt.Nw.drewd ?_ | refine Xt.Nw.drewdN ?_ | refine Xt.Nw.ext ?_ | refine Xt.Nw.ext_some ?_ (by assumption) | refine Xt.Nw.setCell ?_ (by simp [go_sem] <;> omega) _))⟩
set_option maxRecDepth 20000 in
set_option maxHeartbeats 4000000 in
theorem search_1 (gp gl c a b : Nat) (w : World) (h : w.cell? ⟨gp, 0, none⟩ = some (.slice (some ⟨gl, 0, none⟩) 1 c)) (h0 : w.cell? ⟨gl, 0, none⟩ = some (.int .u64 4))
    (ha : w.cell? ⟨a, 0, none⟩ = some (.pointer (some ⟨gp, 0, none⟩))) (hb : w.cell? ⟨b, 0, none⟩ = some (.int .u64 4)) :
    Calls Try.prog 56 #[.int .i64 1, .func (.func 57) #[] #[.pointer (some ⟨a, 0, none⟩), .pointer (some ⟨b, 0, none⟩)]] w fun e w' => e = .returned (.int .i64 0) ∧ Nw w w' := by
  have HC := Lib.hid (fun W (hw : Nw w W) => clos_1 gp gl c a b W (cell_nw h hw) (cell_nw h0 hw) (cell_nw ha hw) (cell_nw hb hw))
  clear h h0 ha hb
  go_enter Try.func56, Try.ntmps56
  go_wp2
  go_loopw [5, 6, 7] (fun x y _ wr => x = .int .i64 0 ∧ (y = .int .i64 0 ∨ y = .int .i64 1) ∧ Nw w wr) (fun _ y _ _ => (intOf y).toNat)
  case atStart => exact ⟨rfl, .inr rfl, Nw.refl _⟩
  case round =>
    obtain ⟨rfl, rfl | rfl, d, rfl⟩ := hrel
    · go_wp2
      go_ret
      exact ⟨rfl, (by repeat (first | exact Xt.Nw.refl _ | refine Xt.Nw.drew ?_ | refine Xt.Nw.drewN ?_ _ | refine Xt.Nw.alloc ?_ _ | refine Xt.Nw.joined ?_ | refine Xt.Nw.drewd ?_ | refine Xt.Nw.drewdN ?_ | refine Xt.Nw.ext ?_ | refine Xt.Nw.ext_some ?_ (by assumption) | refine Xt.Nw.setCell ?_ (by simp [go_sem] <;> omega) _))⟩
    · go_wp2_with fail
      refine (HC.out _ ((by repeat (first | exact Xt.Nw.refl _ | refine Xt.Nw.drew ?_ | refine Xt.Nw.drewN ?_ _ | refine Xt.Nw.alloc ?_ _ | refine Xt.Nw.joined ?_ | refine Xt.Nw.drewd ?_ | refine Xt.Nw.drewdN ?_ | refine Xt.Nw.ext ?_ | refine Xt.Nw.ext_some ?_ (by assumption) | refine Xt.Nw.setCell ?_ (by simp [go_sem] <;> omega) _)))).mono ?_
      rintro e w' ⟨rfl, dW, rfl⟩
      go_wp2
      exact ⟨⟨rfl, .inl rfl, (by repeat (first | exact Xt.Nw.refl _ | refine Xt.Nw.drew ?_ | refine Xt.Nw.drewN ?_ _ | refine Xt.Nw.alloc ?_ _ | refine Xt.Nw.joined ?_ | refine Xt.Nw.drewd ?_ | refine Xt.Nw.drewdN ?_ | refine Xt.Nw.ext ?_ | refine Xt.Nw.ext_some ?_ (by assumption) | refine Xt.Nw.setCell ?_ (by simp [go_sem] <;> omega) _))⟩, by simp [intOf]⟩
set_option maxRecDepth 20000 in
set_option maxHeartbeats 4000000 in
theorem find_1 (gp gl c : Nat) (w : World) (h : w.cell? ⟨gp, 0, none⟩ = some (.slice (some ⟨gl, 0, none⟩) 1 c)) (h0 : w.cell? ⟨gl, 0, none⟩ = some (.int .u64 4)) :
    Calls Try.prog 38 #[.pointer (some ⟨gp, 0, none⟩), .int .u64 4] w fun e w' => e = .returned (.tuple #[.int .i64 0, .bool true]) ∧ Nw w w' := by
  haveI : In gp w := ⟨World.block_lt_of_cell? w _ h⟩
  haveI : In gl w := ⟨World.block_lt_of_cell? w _ h0⟩
  go_enter Try.func38, Try.ntmps38
  go_wp2_with fail
  refine (search_1 gp gl c _ _ _ (by simp [go_sem, h]) (by simp [go_sem, h0]) (by simp [go_sem]) (by simp [go_sem])).mono ?_
  rintro e w' ⟨rfl, dW, rfl⟩
  go_wp2_with fail
  (refine wp_region_nw (by kernel_rfl) (by kernel_rfl) ?_; (repeat (go_big_quiet_step (fail))); refine wpQuiet_nil ?_; intro _ hreg; obtain ⟨dW, rfl⟩ : Nw _ _ := hreg)
  go_wp2
  exact bodyPost_ret (results_tmp2 rfl _ _ _) rfl ⟨rfl, (by repeat (first | exact Xt.Nw.refl _ | refine Xt.Nw.drew ?_ | refine Xt.Nw.drewN ?_ _ | refine Xt.Nw.alloc ?_ _ | refine Xt.Nw.joined ?_ | refine Xt.Nw.drewd ?_ | refine Xt.Nw.drewdN ?_ | refine Xt.Nw.ext ?_ | refine Xt.Nw.ext_some ?_ (by assumption) | refine Xt.Nw.setCell ?_ (by simp [go_sem] <;> omega) _))⟩
theorem pairInfo : (Try.prog.info? 39).map (fun i => (i.zero, i.size, i.bytes)) = some (some (.agg #[.int .u64 0, .int .u64 0]), 2, 16) := by kernel_rfl
set_option maxRecDepth 20000 in
set_option maxHeartbeats 4000000 in
/-- slices.Insert of one pair into nothing. -/
theorem insert_0 (gv : Nat) (w : World) (h0 : w.cell? ⟨gv, 0, none⟩ = some (.int .u64 4)) (h1 : w.cell? ⟨gv, 1, none⟩ = some (.int .u64 2)) :
    Calls Try.prog 58 #[.slice none 0 0, .int .i64 0, .slice (some ⟨gv, 0, none⟩) 1 1] w fun e w' => (∃ v, e = .returned v ∧ w'.ownsRow w.heap.size 39 2 v 1 [.int .u64 4, .int .u64 2]) ∧ Nw w w' := by
  haveI : In gv w := ⟨World.block_lt_of_cell? w _ h0⟩
  go_enter Try.func58, Try.ntmps58
  have hrd : Rd w 2 (some ⟨gv, 0, none⟩) 1 [.int .u64 4, .int .u64 2] := ⟨rfl, fun _ => ⟨gv, 0, rfl, World.block_lt_of_cell? w _ h0, fun j u hu => by
    match j, hu with
    | 0, hu => simp at hu; subst hu; exact h0
    | 1, hu => simp at hu; subst hu; exact h1
    | j + 2, hu => simp at hu⟩⟩
  go_wp2_with (at_builtin; refine wpList_appS rfl _ _ 36 rfl 39 (.agg #[.int .u64 0, .int .u64 0]) 2 16 Try.underlying36 pairInfo rfl (by decide) w w (Nw.refl _) _ 0 [] rfl (World.ownsRow_nil _ _ _ _) _ 1 1 [.int .u64 4, .int .u64 2] rfl hrd (by intro u hu; simp at hu; rcases hu with rfl | rfl <;> rfl) (by unfold maxLen; omega) (by omega) ?_; intro vA dA hownA hnil)
  exact bodyPost_ret (results_tmp rfl _ _ _) rfl ⟨⟨vA, rfl, hownA⟩, ⟨_, rfl⟩⟩
/-- The map's one pair. -/
def One (W : World) (gp gl c : Nat) : Prop := W.cell? ⟨gp, 0, none⟩ = some (.slice (some ⟨gl, 0, none⟩) 1 c) ∧ W.cell? ⟨gl, 0, none⟩ = some (.int .u64 4) ∧ W.cell? ⟨gl, 1, none⟩ = some (.int .u64 2) ∧ (∀ o, W.frozen? ⟨gl, o, none⟩ = false) ∧ 1 ≤ c ∧ c ≤ maxLen ∧ W.frozen? ⟨gp, 0, none⟩ = false
set_option maxRecDepth 20000 in
set_option maxHeartbeats 4000000 in
theorem set_0 (gp : Nat) (w : World) (h : w.cell? ⟨gp, 0, none⟩ = some (.slice none 0 0)) (hz : w.frozen? ⟨gp, 0, none⟩ = false) :
    Calls Try.prog 39 #[.pointer (some ⟨gp, 0, none⟩), .int .u64 4, .int .u64 2] w fun e w' => e = .returned (.tuple #[]) ∧ Chg [gp] w w' ∧ ∃ gl c, One w' gp gl c ∧ w.heap.size ≤ gl := by
  have hlt := World.block_lt_of_cell? w _ h
  haveI : In gp w := ⟨hlt⟩
  have HF := Lib.hid (fun W (hw : Nw w W) => find_0 gp W (cell_nw h hw))
  have HLT := Lib.hid hlt
  clear hlt
  go_enter Try.func39, Try.ntmps39
  go_wp2_with fail
  refine (HF.out w (Nw.refl _)).mono ?_
  rintro e w' ⟨rfl, dW, rfl⟩
  go_wp2_with fail
  refine (insert_0 _ _ (by simp [go_sem]) (by simp [go_sem])).mono ?_
  rintro e W3 ⟨⟨v, rfl, hown⟩, hn3⟩
  have hn3w : Nw w W3 := Nw.trans ((by repeat (first | exact Xt.Nw.refl _ | refine Xt.Nw.drew ?_ | refine Xt.Nw.drewN ?_ _ | refine Xt.Nw.alloc ?_ _ | refine Xt.Nw.joined ?_ | refine Xt.Nw.drewd ?_ | refine Xt.Nw.drewdN ?_ | refine Xt.Nw.ext ?_ | refine Xt.Nw.ext_some ?_ (by assumption) | refine Xt.Nw.setCell ?_ (by simp [go_sem] <;> omega) _))) hn3
  have hge : w.heap.size ≤ (w.ext none dW).heap.size := le_size _ _ _
  obtain ⟨gl, cap, rfl, hgl, hin, hc1, hc2⟩ : ∃ gl cap, v = .slice (some ⟨gl, 0, none⟩) 1 cap ∧ w.heap.size ≤ gl ∧ In gl W3 ∧ 1 ≤ cap ∧ cap ≤ maxLen := by
    rcases own_forms hown with ⟨_, h0⟩ | ⟨gl, cap, hv, hg, hin, h1, h2⟩
    · omega
    · exact ⟨gl, cap, hv, by simp at hg; omega, hin, h1, h2⟩
  have HOW := Lib.hid hown
  have HN3 := Lib.hid hn3w
  have h3 := cell_nw h hn3w
  have hz3 : W3.frozen? ⟨gp, 0, none⟩ = false := (frozen_nw HLT.out hn3w).trans hz
  have o0 : W3.cell? ⟨gl, 0, none⟩ = some (.int .u64 4) := hown.cellAt 0 (by omega)
  have o1 : W3.cell? ⟨gl, 1, none⟩ = some (.int .u64 2) := hown.cellAt 1 (by omega)
  have oz : ∀ o, W3.frozen? ⟨gl, o, none⟩ = false := fun o => hown.frozenAt o
  have O0 := Lib.hid o0
  have O1 := Lib.hid o1
  have OZ := Lib.hid oz
  have hne : gl ≠ gp := by have := HLT.out; omega
  have HNE := Lib.hid hne
  clear hown hn3 hn3w h hz o0 o1 oz hne hge
  go_wp2
  have hch : Chg [gp] w (W3.setCell ⟨gp, 0, none⟩ (.slice (some ⟨gl, 0, none⟩) 1 cap)) := (Chg.of_nw HN3.out).trans (Chg.set1 W3 gp 0 _)
  have hcs := Chg.set1 W3 gp 0 (.slice (some ⟨gl, 0, none⟩) 1 cap)
  have hx : gl ∉ [gp] := by have := HNE.out; simpa using this
  go_end0
  exact ⟨rfl, hch, gl, cap, ⟨World.cell?_setCell_same _ _ _ h3, hcs.cell O0.out hx, hcs.cell O1.out hx, fun o => (hcs.frozen hin.lt hx).trans (OZ.out o), hc1, hc2, by rw [World.frozen?_setCell]; exact hz3⟩, hgl⟩
end Go.Proofs.Ytdjcndpnjoahmaa
