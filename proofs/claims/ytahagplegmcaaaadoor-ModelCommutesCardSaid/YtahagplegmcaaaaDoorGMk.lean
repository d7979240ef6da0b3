import Derived.Test.YtahagplegmcaaaaDoorGMh
import Derived.Lib.AppendZeros
import Derived.Lib.Overlaps
import Derived.Laws.IdiomCopy
set_option linter.unusedVariables false
set_option linter.unusedSimpArgs false
set_option linter.unnecessarySimpa false
namespace Go.Proofs.YtahagplegmcaaaaDoor
open Go.RowKit Go.Xt
/-! The ordered map: empty, and with one pair. -/
set_option maxRecDepth 20000 in
set_option maxHeartbeats 4000000 in
theorem search_0 (f : Value) (w : World) :
    Calls Tryd.prog 72 #[.int .i64 0, f] w fun e w' => e = .returned (.int .i64 0) ∧ Nw w w' := by
  go_enter Tryd.func72, Tryd.ntmps72
  go_wp2
  go_loopw [5, 6] (fun a b wr => a = .int .i64 0 ∧ b = .int .i64 0 ∧ wr = w) (fun _ _ _ => 0)
  case atStart => exact ⟨rfl, rfl, rfl⟩
  case round =>
    obtain ⟨rfl, rfl, rfl⟩ := hrel
    go_wp2
    go_ret
    exact ⟨rfl, Nw.refl _⟩
set_option maxRecDepth 20000 in
set_option maxHeartbeats 4000000 in
theorem find_0 (gp : Nat) (w : World) (h : w.cell? ⟨gp, 0, none⟩ = some (.slice none 0 0)) :
    Calls Tryd.prog 49 #[.pointer (some ⟨gp, 0, none⟩), .int .u64 4] w fun e w' => e = .returned (.tuple #[.int .i64 0, .bool false]) ∧ Nw w w' := by
  haveI : In gp w := ⟨World.block_lt_of_cell? w _ h⟩
  go_enter Tryd.func49, Tryd.ntmps49
  go_wp2_with fail
  refine (search_0 _ _).mono ?_
  rintro e w' ⟨rfl, dW, rfl⟩
  go_wp2_with fail
  (refine wp_region_nw (by kernel_rfl) (by kernel_rfl) ?_; (repeat (go_big_quiet_step (fail))); refine wpQuiet_nil ?_; intro _ hreg; obtain ⟨dW, rfl⟩ : Nw _ _ := hreg)
  go_wp2
  exact bodyPost_ret (results_tmp2 rfl _ _ _) rfl ⟨rfl, (by repeat (first | exact Xt.Nw.refl _ | refine Xt.Nw.drew ?_ | refine Xt.Nw.drewN ?_ _ | refine Xt.Nw.alloc ?_ _ | refine Xt.Nw.joined ?_ | refine Xt.Nw.drewd ?_ | refine Xt.Nw.drewdN ?_ | refine Xt.Nw.ext ?_ | refine Xt.Nw.ext_some ?_ (by assumption) | refine Xt.Nw.setCell ?_ (by simp [go_sem] <;> omega) _))⟩
set_option maxRecDepth 20000 in
set_option maxHeartbeats 4000000 in
theorem clos_1 (gp gl c a b : Nat) (w : World) (h : w.cell? ⟨gp, 0, none⟩ = some (.slice (some ⟨gl, 0, none⟩) 1 c)) (h0 : w.cell? ⟨gl, 0, none⟩ = some (.int .u64 4))
    (ha : w.cell? ⟨a, 0, none⟩ = some (.pointer (some ⟨gp, 0, none⟩))) (hb : w.cell? ⟨b, 0, none⟩ = some (.int .u64 4)) :
    Calls Tryd.prog 73 #[.int .i64 0, .pointer (some ⟨a, 0, none⟩), .pointer (some ⟨b, 0, none⟩)] w fun e w' => e = .returned (.bool true) ∧ Nw w w' := by
  haveI : In gp w := ⟨World.block_lt_of_cell? w _ h⟩
  haveI : In gl w := ⟨World.block_lt_of_cell? w _ h0⟩
  haveI : In a w := ⟨World.block_lt_of_cell? w _ ha⟩
  haveI : In b w := ⟨World.block_lt_of_cell? w _ hb⟩
  go_enter Tryd.func73, Tryd.ntmps73
  go_wp2_with fail
  (refine wp_region_nw (by kernel_rfl) (by kernel_rfl) ?_; (repeat (go_big_quiet_step (fail))); refine wpQuiet_nil ?_; intro _ hreg; obtain ⟨dW, rfl⟩ : Nw _ _ := hreg)
  go_wp2
  go_ret
  exact ⟨rfl, (by repeat (first | exact Xt.Nw.refl _ | refine Xt.Nw.drew ?_ | refine Xt.Nw.drewN ?_ _ | refine Xt.Nw.alloc ?_ _ | refine Xt.Nw.joined ?_ | refine Xt.Nw.drewd ?_ | refine Xt.Nw.drewdN ?_ | refine Xt.Nw.ext ?_ | refine Xt.Nw.ext_some ?_ (by assumption) | refine Xt.Nw.setCell ?_ (by simp [go_sem] <;> omega) _))⟩
set_option maxRecDepth 20000 in
set_option maxHeartbeats 4000000 in
theorem search_1 (gp gl c a b : Nat) (w : World) (h : w.cell? ⟨gp, 0, none⟩ = some (.slice (some ⟨gl, 0, none⟩) 1 c)) (h0 : w.cell? ⟨gl, 0, none⟩ = some (.int .u64 4))
    (ha : w.cell? ⟨a, 0, none⟩ = some (.pointer (some ⟨gp, 0, none⟩))) (hb : w.cell? ⟨b, 0, none⟩ = some (.int .u64 4)) :
    Calls Tryd.prog 72 #[.int .i64 1, .func (.func 73) #[] #[.pointer (some ⟨a, 0, none⟩), .pointer (some ⟨b, 0, none⟩)]] w fun e w' => e = .returned (.int .i64 0) ∧ Nw w w' := by
  have HC := Lib.hid (fun W (hw : Nw w W) => clos_1 gp gl c a b W (cell_nw h hw) (cell_nw h0 hw) (cell_nw ha hw) (cell_nw hb hw))
  clear h h0 ha hb
  go_enter Tryd.func72, Tryd.ntmps72
  go_wp2
  go_loopw [5, 6, 7] (fun x y _ wr => x = .int .i64 0 ∧ (y = .int .i64 0 ∨ y = .int .i64 1) ∧ Nw w wr) (fun _ y _ _ => (intOf y).toNat)
  case atStart => exact ⟨rfl, .inr rfl, Nw.refl _⟩
  case round =>
    obtain ⟨rfl, rfl | rfl, d, rfl⟩ := hrel
    · go_wp2
      go_ret
      exact ⟨rfl, (by repeat (first | exact Xt.Nw.refl _ | refine Xt.Nw.drew ?_ | refine Xt.Nw.drewN ?_ _ | refine Xt.Nw.alloc ?_ _ | refine Xt.Nw.joined ?_ | refine Xt.Nw.drewd ?_ | refine Xt.Nw.drewdN ?_ | refine Xt.Nw.ext ?_ | refine Xt.Nw.ext_some ?_ (by assumption) | refine Xt.Nw.setCell ?_ (by simp [go_sem] <;> omega) _))⟩
    · go_wp2_with fail
      refine (HC.out _ ((by repeat (first | exact Xt.Nw.refl _ | refine Xt.Nw.drew ?_ | refine Xt.Nw.drewN ?_ _ | refine Xt.Nw.alloc ?_ _ | refine Xt.Nw.joined ?_ | refine Xt.Nw.drewd ?_ | refine Xt.Nw.drewdN ?_ | refine Xt.Nw.ext ?_ | refine Xt.Nw.ext_some ?_ (by assumption) | refine Xt.Nw.setCell ?_ (by simp [go_sem] <;> omega) _)))).mono ?_
      rintro e w' ⟨rfl, dW, rfl⟩
      go_wp2
      exact ⟨⟨rfl, .inl rfl, (by repeat (first | exact Xt.Nw.refl _ | refine Xt.Nw.drew ?_ | refine Xt.Nw.drewN ?_ _ | refine Xt.Nw.alloc ?_ _ | refine Xt.Nw.joined ?_ | refine Xt.Nw.drewd ?_ | refine Xt.Nw.drewdN ?_ | refine Xt.Nw.ext ?_ | refine Xt.Nw.ext_some ?_ (by assumption) | refine Xt.Nw.setCell ?_ (by simp [go_sem] <;> omega) _))⟩, by simp [intOf]⟩
set_option maxRecDepth 20000 in
set_option maxHeartbeats 4000000 in
theorem find_1 (gp gl c : Nat) (w : World) (h : w.cell? ⟨gp, 0, none⟩ = some (.slice (some ⟨gl, 0, none⟩) 1 c)) (h0 : w.cell? ⟨gl, 0, none⟩ = some (.int .u64 4)) :
    Calls Tryd.prog 49 #[.pointer (some ⟨gp, 0, none⟩), .int .u64 4] w fun e w' => e = .returned (.tuple #[.int .i64 0, .bool true]) ∧ Nw w w' := by
  haveI : In gp w := ⟨World.block_lt_of_cell? w _ h⟩
  haveI : In gl w := ⟨World.block_lt_of_cell? w _ h0⟩
  go_enter Tryd.func49, Tryd.ntmps49
  go_wp2_with fail
  refine (search_1 gp gl c _ _ _ (by simp [go_sem, h]) (by simp [go_sem, h0]) (by simp [go_sem]) (by simp [go_sem])).mono ?_
  rintro e w' ⟨rfl, dW, rfl⟩
  go_wp2_with fail
  (refine wp_region_nw (by kernel_rfl) (by kernel_rfl) ?_; (repeat (go_big_quiet_step (fail))); refine wpQuiet_nil ?_; intro _ hreg; obtain ⟨dW, rfl⟩ : Nw _ _ := hreg)
  go_wp2
  exact bodyPost_ret (results_tmp2 rfl _ _ _) rfl ⟨rfl, (by repeat (first | exact Xt.Nw.refl _ | refine Xt.Nw.drew ?_ | refine Xt.Nw.drewN ?_ _ | refine Xt.Nw.alloc ?_ _ | refine Xt.Nw.joined ?_ | refine Xt.Nw.drewd ?_ | refine Xt.Nw.drewdN ?_ | refine Xt.Nw.ext ?_ | refine Xt.Nw.ext_some ?_ (by assumption) | refine Xt.Nw.setCell ?_ (by simp [go_sem] <;> omega) _))⟩
theorem pairInfo : (Tryd.prog.info? 78).map (fun i => (i.zero, i.size, i.bytes)) = some (some (.agg #[.int .u64 0, .int .u64 0]), 2, 16) := by kernel_rfl
set_option maxRecDepth 20000 in
set_option maxHeartbeats 4000000 in
/-- slices.Insert of one pair into nothing. -/
theorem insert_0 (gv : Nat) (w : World) (h0 : w.cell? ⟨gv, 0, none⟩ = some (.int .u64 4)) (h1 : w.cell? ⟨gv, 1, none⟩ = some (.int .u64 2)) :
    Calls Tryd.prog 74 #[.slice none 0 0, .int .i64 0, .slice (some ⟨gv, 0, none⟩) 1 1] w fun e w' => (∃ v, e = .returned v ∧ w'.ownsRow w.heap.size 78 2 v 1 [.int .u64 4, .int .u64 2]) ∧ Nw w w' := by
  haveI : In gv w := ⟨World.block_lt_of_cell? w _ h0⟩
  go_enter Tryd.func74, Tryd.ntmps74
  have hrd : Rd w 2 (some ⟨gv, 0, none⟩) 1 [.int .u64 4, .int .u64 2] := ⟨rfl, fun _ => ⟨gv, 0, rfl, World.block_lt_of_cell? w _ h0, fun j u hu => by
    match j, hu with
    | 0, hu => simp at hu; subst hu; exact h0
    | 1, hu => simp at hu; subst hu; exact h1
    | j + 2, hu => simp at hu⟩⟩
  go_wp2_with (at_builtin; refine wpList_appS rfl _ _ 40 rfl 78 (.agg #[.int .u64 0, .int .u64 0]) 2 16 Tryd.underlying40 pairInfo rfl (by decide) w w (Nw.refl _) _ 0 [] rfl (World.ownsRow_nil _ _ _ _) _ 1 1 [.int .u64 4, .int .u64 2] rfl hrd (by intro u hu; simp at hu; rcases hu with rfl | rfl <;> rfl) (by unfold maxLen; omega) (by omega) ?_; intro vA dA hownA hnil)
  exact bodyPost_ret (results_tmp rfl _ _ _) rfl ⟨⟨vA, rfl, hownA⟩, ⟨_, rfl⟩⟩
/-- The map's one pair. -/
def One (W : World) (gp gl c : Nat) : Prop := W.cell? ⟨gp, 0, none⟩ = some (.slice (some ⟨gl, 0, none⟩) 1 c) ∧ W.cell? ⟨gl, 0, none⟩ = some (.int .u64 4) ∧ W.cell? ⟨gl, 1, none⟩ = some (.int .u64 2) ∧ (∀ o, W.frozen? ⟨gl, o, none⟩ = false) ∧ 1 ≤ c ∧ c ≤ maxLen ∧ W.frozen? ⟨gp, 0, none⟩ = false
set_option maxRecDepth 20000 in
set_option maxHeartbeats 4000000 in
theorem set_0 (gp : Nat) (w : World) (h : w.cell? ⟨gp, 0, none⟩ = some (.slice none 0 0)) (hz : w.frozen? ⟨gp, 0, none⟩ = false) :
    Calls Tryd.prog 50 #[.pointer (some ⟨gp, 0, none⟩), .int .u64 4, .int .u64 2] w fun e w' => e = .returned (.tuple #[]) ∧ Chg [gp] w w' ∧ ∃ gl c, One w' gp gl c ∧ w.heap.size ≤ gl := by
  have hlt := World.block_lt_of_cell? w _ h
  haveI : In gp w := ⟨hlt⟩
  have HF := Lib.hid (fun W (hw : Nw w W) => find_0 gp W (cell_nw h hw))
  have HLT := Lib.hid hlt
  clear hlt
  go_enter Tryd.func50, Tryd.ntmps50
  go_wp2_with fail
  refine (HF.out w (Nw.refl _)).mono ?_
  rintro e w' ⟨rfl, dW, rfl⟩
  go_wp2_with fail
  refine (insert_0 _ _ (by simp [go_sem]) (by simp [go_sem])).mono ?_
  rintro e W3 ⟨⟨v, rfl, hown⟩, hn3⟩
  have hn3w : Nw w W3 := Nw.trans ((by repeat (first | exact Xt.Nw.refl _ | refine Xt.Nw.drew ?_ | refine Xt.Nw.drewN ?_ _ | refine Xt.Nw.alloc ?_ _ | refine Xt.Nw.joined ?_ | refine Xt.Nw.drewd ?_ | refine Xt.Nw.drewdN ?_ | refine Xt.Nw.ext ?_ | refine Xt.Nw.ext_some ?_ (by assumption) | refine Xt.Nw.setCell ?_ (by simp [go_sem] <;> omega) _))) hn3
  have hge : w.heap.size ≤ (w.ext none dW).heap.size := le_size _ _ _
  obtain ⟨gl, cap, rfl, hgl, hin, hc1, hc2⟩ : ∃ gl cap, v = .slice (some ⟨gl, 0, none⟩) 1 cap ∧ w.heap.size ≤ gl ∧ In gl W3 ∧ 1 ≤ cap ∧ cap ≤ maxLen := by
    rcases own_forms hown with ⟨_, h0⟩ | ⟨gl, cap, hv, hg, hin, h1, h2⟩
    · omega
    · exact ⟨gl, cap, hv, by simp at hg; omega, hin, h1, h2⟩
  have HOW := Lib.hid hown
  have HN3 := Lib.hid hn3w
  have h3 := cell_nw h hn3w
  have hz3 : W3.frozen? ⟨gp, 0, none⟩ = false := (frozen_nw HLT.out hn3w).trans hz
  have o0 : W3.cell? ⟨gl, 0, none⟩ = some (.int .u64 4) := hown.cellAt 0 (by omega)
  have o1 : W3.cell? ⟨gl, 1, none⟩ = some (.int .u64 2) := hown.cellAt 1 (by omega)
  have oz : ∀ o, W3.frozen? ⟨gl, o, none⟩ = false := fun o => hown.frozenAt o
  have O0 := Lib.hid o0
  have O1 := Lib.hid o1
  have OZ := Lib.hid oz
  have hne : gl ≠ gp := by have := HLT.out; omega
  have HNE := Lib.hid hne
  clear hown hn3 hn3w h hz o0 o1 oz hne hge
  go_wp2
  have hch : Chg [gp] w (W3.setCell ⟨gp, 0, none⟩ (.slice (some ⟨gl, 0, none⟩) 1 cap)) := (Chg.of_nw HN3.out).trans (Chg.set1 W3 gp 0 _)
  have hcs := Chg.set1 W3 gp 0 (.slice (some ⟨gl, 0, none⟩) 1 cap)
  have hx : gl ∉ [gp] := by have := HNE.out; simpa using this
  go_end0
  exact ⟨rfl, hch, gl, cap, ⟨World.cell?_setCell_same _ _ _ h3, hcs.cell O0.out hx, hcs.cell O1.out hx, fun o => (hcs.frozen hin.lt hx).trans (OZ.out o), hc1, hc2, by rw [World.frozen?_setCell]; exact hz3⟩, hgl⟩
end Go.Proofs.YtahagplegmcaaaaDoor
namespace Go.Proofs.YtahagplegmcaaaaDoor
open Go.RowKit Go.Xt
/-! The ordered map at any pairs: find. -/
def pcells (l : List (Int × Int)) : List Value := l.flatMap fun x => [.int .u64 x.1, .int .u64 x.2]
theorem pcells_get : ∀ (l : List (Int × Int)) (i : Nat) (x : Int × Int), l[i]? = some x → (pcells l)[i * 2]? = some (.int .u64 x.1) ∧ (pcells l)[i * 2 + 1]? = some (.int .u64 x.2)
  | [], i, x, h => by simp at h
  | y :: l, 0, x, h => by simp at h; subst h; exact ⟨rfl, rfl⟩
  | y :: l, i + 1, x, h => by
    have h2 := pcells_get l i x (by simpa using h)
    have e : ∀ j, (pcells (y :: l))[(i + 1) * 2 + j]? = (pcells l)[i * 2 + j]? := fun j => by
      rw [show (i + 1) * 2 + j = (i * 2 + j) + 2 by omega]; rfl
    exact ⟨(e 0).trans h2.1, (e 1).trans h2.2⟩
theorem pcells_len (l : List (Int × Int)) : (pcells l).length = l.length * 2 := by
  induction l with
  | nil => rfl
  | cons x l ih => rw [pcells, List.flatMap_cons, List.length_append, ← pcells, ih, List.length_cons]; simp; omega
/-- Keys strictly ascend. -/
def asc (l : List (Int × Int)) : Prop := l.Pairwise fun a b => a.1 < b.1
/-- How many keys lie below. -/
def pos (k : Int) : List (Int × Int) → Nat
  | [] => 0
  | x :: r => if x.1 < k then pos k r + 1 else 0
theorem pos_le (k : Int) : ∀ l, pos k l ≤ l.length
  | [] => Nat.le_refl _
  | x :: r => by rw [pos]; split <;> simp [pos_le k r]
theorem pos_lt {k : Int} : ∀ {l : List (Int × Int)}, asc l → ∀ {h : Nat} {x : Int × Int}, l[h]? = some x → (x.1 < k ↔ h < pos k l)
  | [], _, h, x, hx => by simp at hx
  | y :: r, ha, 0, x, hx => by
    simp at hx; subst hx
    rw [pos]; split <;> simp_all
  | y :: r, ha, h + 1, x, hx => by
    have ha2 := List.pairwise_cons.1 ha
    have h2 := pos_lt (k := k) ha2.2 (h := h) (x := x) (by simpa using hx)
    have hy : y.1 < x.1 := ha2.1 x (List.mem_of_getElem? (by simpa using hx : r[h]? = some x))
    rw [pos]
    split
    · rw [h2]; omega
    · constructor
      · intro h3; omega
      · intro h3; omega
/-- Whether a key is there. -/
def hasK (k : Int) (l : List (Int × Int)) : Bool := match l[pos k l]? with
  | some x => decide (x.1 = k)
  | none => false
/-- The cells of a map's pairs. -/
structure PAt (W : World) (gp g n c : Nat) (l : List (Int × Int)) : Prop where
  p0 : W.cell? ⟨gp, 0, none⟩ = some (.slice (some ⟨g, 0, none⟩) n c)
  len : l.length = n
  at' : ∀ i x, l[i]? = some x → W.cell? ⟨g, i * 2, none⟩ = some (.int .u64 x.1) ∧ W.cell? ⟨g, i * 2 + 1, none⟩ = some (.int .u64 x.2)
theorem PAt.nw {W W' : World} {gp g n c : Nat} {l : List (Int × Int)} (h : PAt W gp g n c l) (hn : Nw W W') : PAt W' gp g n c l :=
  ⟨cell_nw h.p0 hn, h.len, fun i x hx => ⟨cell_nw (h.at' i x hx).1 hn, cell_nw (h.at' i x hx).2 hn⟩⟩
set_option maxRecDepth 20000 in
set_option maxHeartbeats 4000000 in
theorem clos_any (gp g n c a b : Nat) (l : List (Int × Int)) (k : Int) (w : World) (h : PAt w gp g n c l) (hn : n ≤ 1000000)
    (ha : w.cell? ⟨a, 0, none⟩ = some (.pointer (some ⟨gp, 0, none⟩))) (hb : w.cell? ⟨b, 0, none⟩ = some (.int .u64 k)) (i : Nat) (x : Int × Int) (hx : l[i]? = some x) :
    Calls Tryd.prog 73 #[.int .i64 i, .pointer (some ⟨a, 0, none⟩), .pointer (some ⟨b, 0, none⟩)] w fun e w' => e = .returned (.bool (decide (k ≤ x.1))) ∧ Nw w w' := by
  have p := (List.getElem?_eq_some_iff.1 hx).1
  have hlen := h.len
  have p0 := h.p0
  have c0 := (h.at' i x hx).1
  haveI : In gp w := ⟨World.block_lt_of_cell? w _ p0⟩
  haveI : In g w := ⟨World.block_lt_of_cell? w _ c0⟩
  haveI : In a w := ⟨World.block_lt_of_cell? w _ ha⟩
  haveI : In b w := ⟨World.block_lt_of_cell? w _ hb⟩
  have i0 : (0 : Int) ≤ (i : Int) := by omega
  have i1 : (i : Int) < (n : Int) := by omega
  clear h hx hlen p
  go_enter Tryd.func73, Tryd.ntmps73
  go_wp2_with fail
  (refine wp_region_nw (by kernel_rfl) (by kernel_rfl) ?_; (repeat (go_big_quiet_step (fail))); refine wpQuiet_nil ?_; intro _ hreg; obtain ⟨dW, rfl⟩ : Nw _ _ := hreg)
  go_wp2
  go_ret
  exact ⟨rfl, (by repeat (first | exact Xt.Nw.refl _ | refine Xt.Nw.drew ?_ | refine Xt.Nw.drewN ?_ _ | refine Xt.Nw.alloc ?_ _ | refine Xt.Nw.joined ?_ | refine Xt.Nw.drewd ?_ | refine Xt.Nw.drewdN ?_ | refine Xt.Nw.ext ?_ | refine Xt.Nw.ext_some ?_ (by assumption) | refine Xt.Nw.setCell ?_ (by simp [go_sem] <;> omega) _))⟩
set_option maxRecDepth 20000 in
set_option maxHeartbeats 4000000 in
theorem search_any (gp g n c a b : Nat) (l : List (Int × Int)) (k : Int) (w : World) (h : PAt w gp g n c l) (hs : asc l) (hn : n ≤ 1000000)
    (ha : w.cell? ⟨a, 0, none⟩ = some (.pointer (some ⟨gp, 0, none⟩))) (hb : w.cell? ⟨b, 0, none⟩ = some (.int .u64 k)) :
    Calls Tryd.prog 72 #[.int .i64 n, .func (.func 73) #[] #[.pointer (some ⟨a, 0, none⟩), .pointer (some ⟨b, 0, none⟩)]] w fun e w' => e = .returned (.int .i64 (pos k l)) ∧ Nw w w' := by
  have HC := Lib.hid (fun W (hw : Nw w W) i x (hx : l[i]? = some x) => clos_any gp g n c a b l k W (h.nw hw) hn (cell_nw ha hw) (cell_nw hb hw) i x hx)
  have hlen := Lib.hid h.len
  have HS := Lib.hid (fun h x hx => pos_lt (k := k) hs (h := h) (x := x) hx)
  have hpl := pos_le k l
  rw [hlen.out] at hpl
  obtain ⟨P, hP⟩ : ∃ P, P = pos k l := ⟨_, rfl⟩
  rw [← hP] at HS hpl
  rw [← hP]
  clear h ha hb hs hP
  go_enter Tryd.func72, Tryd.ntmps72
  go_wp2
  go_loopw [5, 6, 7] (fun x y _ wr => ∃ i j : Nat, i ≤ P ∧ P ≤ j ∧ j ≤ n ∧ x = .int .i64 i ∧ y = .int .i64 j ∧ Nw w wr) (fun x y _ _ => (intOf y).toNat - (intOf x).toNat)
  case atStart => exact ⟨0, n, by omega, hpl, by omega, rfl, rfl, Nw.refl _⟩
  case round =>
    obtain ⟨i, j, hi, hj, hjn, rfl, rfl, d, rfl⟩ := hrel
    by_cases hlt : i < j
    · have i1 : (i : Int) < (j : Int) := by omega
      obtain ⟨h, hh⟩ : ∃ h : Nat, h = (i + j) / 2 := ⟨_, rfl⟩
      have hhk : ((i : Int) + (j : Int)) / 2 = (h : Int) := by omega
      have h1 : i ≤ h := by omega
      have h2 : h < j := by omega
      have hb8 : j ≤ 1000000 := by omega
      obtain ⟨x, hx⟩ : ∃ x, l[h]? = some x := ⟨_, List.getElem?_eq_getElem (by have := hlen.out; omega)⟩
      have hiff := HS.out h x hx
      have HX := Lib.hid hx
      have HI := Lib.hid (show i ≤ h ∧ h < j ∧ i ≤ P ∧ P ≤ j ∧ j ≤ n from ⟨h1, h2, hi, hj, hjn⟩)
      clear hh hx h1
      by_cases hk : k ≤ x.1
      · have d1 : decide (k ≤ x.1) = true := by simpa using hk
        have hP2 := Lib.hid (show P ≤ h by have := hiff; omega)
        clear hiff
        go_wp2_with fail
        refine (HC.out _ ((by repeat (first | exact Xt.Nw.refl _ | refine Xt.Nw.drew ?_ | refine Xt.Nw.drewN ?_ _ | refine Xt.Nw.alloc ?_ _ | refine Xt.Nw.joined ?_ | refine Xt.Nw.drewd ?_ | refine Xt.Nw.drewdN ?_ | refine Xt.Nw.ext ?_ | refine Xt.Nw.ext_some ?_ (by assumption) | refine Xt.Nw.setCell ?_ (by simp [go_sem] <;> omega) _))) h x HX.out).mono ?_
        rintro e w' ⟨rfl, dW, rfl⟩
        go_wp2
        exact ⟨⟨i, h, by have := HI.out; omega, hP2.out, by have := HI.out; omega, rfl, by go_num, (by repeat (first | exact Xt.Nw.refl _ | refine Xt.Nw.drew ?_ | refine Xt.Nw.drewN ?_ _ | refine Xt.Nw.alloc ?_ _ | refine Xt.Nw.joined ?_ | refine Xt.Nw.drewd ?_ | refine Xt.Nw.drewdN ?_ | refine Xt.Nw.ext ?_ | refine Xt.Nw.ext_some ?_ (by assumption) | refine Xt.Nw.setCell ?_ (by simp [go_sem] <;> omega) _))⟩, by have := HI.out; simp [intOf]; omega⟩
      · have d1 : decide (k ≤ x.1) = false := by simpa using hk
        have hP2 := Lib.hid (show h < P by have := hiff; omega)
        clear hiff
        go_wp2_with fail
        refine (HC.out _ ((by repeat (first | exact Xt.Nw.refl _ | refine Xt.Nw.drew ?_ | refine Xt.Nw.drewN ?_ _ | refine Xt.Nw.alloc ?_ _ | refine Xt.Nw.joined ?_ | refine Xt.Nw.drewd ?_ | refine Xt.Nw.drewdN ?_ | refine Xt.Nw.ext ?_ | refine Xt.Nw.ext_some ?_ (by assumption) | refine Xt.Nw.setCell ?_ (by simp [go_sem] <;> omega) _))) h x HX.out).mono ?_
        rintro e w' ⟨rfl, dW, rfl⟩
        go_wp2
        exact ⟨⟨h + 1, j, hP2.out, by have := HI.out; omega, by have := HI.out; omega, by go_num, rfl, (by repeat (first | exact Xt.Nw.refl _ | refine Xt.Nw.drew ?_ | refine Xt.Nw.drewN ?_ _ | refine Xt.Nw.alloc ?_ _ | refine Xt.Nw.joined ?_ | refine Xt.Nw.drewd ?_ | refine Xt.Nw.drewdN ?_ | refine Xt.Nw.ext ?_ | refine Xt.Nw.ext_some ?_ (by assumption) | refine Xt.Nw.setCell ?_ (by simp [go_sem] <;> omega) _))⟩, by have := HI.out; simp [intOf]; omega⟩
    · have i1 : ¬ (i : Int) < (j : Int) := by omega
      go_wp2
      go_ret
      exact ⟨by rw [show i = P by omega]; rfl, (by repeat (first | exact Xt.Nw.refl _ | refine Xt.Nw.drew ?_ | refine Xt.Nw.drewN ?_ _ | refine Xt.Nw.alloc ?_ _ | refine Xt.Nw.joined ?_ | refine Xt.Nw.drewd ?_ | refine Xt.Nw.drewdN ?_ | refine Xt.Nw.ext ?_ | refine Xt.Nw.ext_some ?_ (by assumption) | refine Xt.Nw.setCell ?_ (by simp [go_sem] <;> omega) _))⟩
set_option maxRecDepth 20000 in
set_option maxHeartbeats 4000000 in
theorem find_any (gp g n c : Nat) (l : List (Int × Int)) (k : Int) (w : World) (h : PAt w gp g n c l) (hs : asc l) (hn : n ≤ 1000000) :
    Calls Tryd.prog 49 #[.pointer (some ⟨gp, 0, none⟩), .int .u64 k] w fun e w' => e = .returned (.tuple #[.int .i64 (pos k l), .bool (hasK k l)]) ∧ Nw w w' := by
  have p0 := h.p0
  haveI : In gp w := ⟨World.block_lt_of_cell? w _ p0⟩
  have HPA := Lib.hid h
  have hpl := pos_le k l
  rw [h.len] at hpl
  have HSS := Lib.hid hs
  by_cases hlt : pos k l < n
  · obtain ⟨x, hx⟩ : ∃ x, l[pos k l]? = some x := ⟨_, List.getElem?_eq_getElem (by have := h.len; omega)⟩
    have c0 := (h.at' _ x hx).1
    have hhas : hasK k l = decide (x.1 = k) := by rw [hasK, hx]
    rw [hhas]
    haveI : In g w := ⟨World.block_lt_of_cell? w _ c0⟩
    obtain ⟨P, hP⟩ : ∃ P, P = pos k l := ⟨_, rfl⟩
    rw [← hP] at hlt c0 ⊢
    have HP := Lib.hid hP
    have q1 : (P : Int) < (n : Int) := by omega
    have q0 : (0 : Int) ≤ (P : Int) := by omega
    clear h hs hx hhas hP hpl
    go_enter Tryd.func49, Tryd.ntmps49
    go_wp2_with fail
    refine (search_any gp g n c _ _ l k _ (HPA.out.nw ((by repeat (first | exact Xt.Nw.refl _ | refine Xt.Nw.drew ?_ | refine Xt.Nw.drewN ?_ _ | refine Xt.Nw.alloc ?_ _ | refine Xt.Nw.joined ?_ | refine Xt.Nw.drewd ?_ | refine Xt.Nw.drewdN ?_ | refine Xt.Nw.ext ?_ | refine Xt.Nw.ext_some ?_ (by assumption) | refine Xt.Nw.setCell ?_ (by simp [go_sem] <;> omega) _)))) HSS.out hn (by simp [go_sem]) (by simp [go_sem])).mono ?_
    rintro e w' ⟨rfl, dW, rfl⟩
    rw [← HP.out]
    go_wp2_with fail
    (refine wp_region_nw (by kernel_rfl) (by kernel_rfl) ?_; (repeat (go_big_quiet_step (fail))); refine wpQuiet_nil ?_; intro _ hreg; obtain ⟨dW, rfl⟩ : Nw _ _ := hreg)
    go_wp2
    exact bodyPost_ret (results_tmp2 rfl _ _ _) rfl ⟨rfl, (by repeat (first | exact Xt.Nw.refl _ | refine Xt.Nw.drew ?_ | refine Xt.Nw.drewN ?_ _ | refine Xt.Nw.alloc ?_ _ | refine Xt.Nw.joined ?_ | refine Xt.Nw.drewd ?_ | refine Xt.Nw.drewdN ?_ | refine Xt.Nw.ext ?_ | refine Xt.Nw.ext_some ?_ (by assumption) | refine Xt.Nw.setCell ?_ (by simp [go_sem] <;> omega) _))⟩
  · have hhas : hasK k l = false := by rw [hasK, List.getElem?_eq_none (by have := h.len; omega)]
    rw [hhas]
    obtain ⟨P, hP⟩ : ∃ P, P = pos k l := ⟨_, rfl⟩
    rw [← hP] at hlt ⊢
    have HP := Lib.hid hP
    have q1 : ¬ (P : Int) < (n : Int) := by omega
    have d1 : decide ((P : Int) < (n : Int)) = false := by simpa using q1
    clear h hs hhas hP hpl
    go_enter Tryd.func49, Tryd.ntmps49
    go_wp2_with fail
    refine (search_any gp g n c _ _ l k _ (HPA.out.nw ((by repeat (first | exact Xt.Nw.refl _ | refine Xt.Nw.drew ?_ | refine Xt.Nw.drewN ?_ _ | refine Xt.Nw.alloc ?_ _ | refine Xt.Nw.joined ?_ | refine Xt.Nw.drewd ?_ | refine Xt.Nw.drewdN ?_ | refine Xt.Nw.ext ?_ | refine Xt.Nw.ext_some ?_ (by assumption) | refine Xt.Nw.setCell ?_ (by simp [go_sem] <;> omega) _)))) HSS.out hn (by simp [go_sem]) (by simp [go_sem])).mono ?_
    rintro e w' ⟨rfl, dW, rfl⟩
    rw [← HP.out]
    go_wp2_with fail
    (refine wp_region_nw (by kernel_rfl) (by kernel_rfl) ?_; (repeat (go_big_quiet_step (fail))); refine wpQuiet_nil ?_; intro _ hreg; obtain ⟨dW, rfl⟩ : Nw _ _ := hreg)
    go_wp2
    exact bodyPost_ret (results_tmp2 rfl _ _ _) rfl ⟨rfl, (by repeat (first | exact Xt.Nw.refl _ | refine Xt.Nw.drew ?_ | refine Xt.Nw.drewN ?_ _ | refine Xt.Nw.alloc ?_ _ | refine Xt.Nw.joined ?_ | refine Xt.Nw.drewd ?_ | refine Xt.Nw.drewdN ?_ | refine Xt.Nw.ext ?_ | refine Xt.Nw.ext_some ?_ (by assumption) | refine Xt.Nw.setCell ?_ (by simp [go_sem] <;> omega) _))⟩
end Go.Proofs.YtahagplegmcaaaaDoor
namespace Go.Proofs.YtahagplegmcaaaaDoor
open Go.RowKit Go.Xt
/-! slices.Insert of one pair. -/
def insM (l : List (Int × Int)) (P : Nat) (y : Int × Int) : List (Int × Int) := l.take P ++ y :: l.drop P
theorem pcells_app (a b : List (Int × Int)) : pcells (a ++ b) = pcells a ++ pcells b := List.flatMap_append
theorem pcells_one (l : List (Int × Int)) : ∀ u ∈ pcells l, u.oneCell' = true := by
  intro u hu
  obtain ⟨x, _, hx⟩ := List.mem_flatMap.1 hu
  simp at hx; rcases hx with rfl | rfl <;> rfl
set_option maxRecDepth 20000 in
set_option maxHeartbeats 4000000 in
theorem insert_end (base : Nat) (v : Value) (n : Nat) (l : List (Int × Int)) (gv : Nat) (k x : Int) (w : World) (hown : w.ownsRow base 78 2 v n (pcells l)) (hbase : base ≤ w.heap.size) (hn : n ≤ 1000000)
    (h0 : w.cell? ⟨gv, 0, none⟩ = some (.int .u64 k)) (h1 : w.cell? ⟨gv, 1, none⟩ = some (.int .u64 x)) :
    Calls Tryd.prog 74 #[v, .int .i64 n, .slice (some ⟨gv, 0, none⟩) 1 1] w fun e w' => ∃ v', e = .returned v' ∧ w'.ownsRow base 78 2 v' (n + 1) (pcells (l ++ [(k, x)])) ∧ w.grownBy w' v.ownBlock := by
  haveI : In gv w := ⟨World.block_lt_of_cell? w _ h0⟩
  have HO := Lib.hid hown
  obtain ⟨i, hi1, hz0, hz1, hz2⟩ := info_parts pairInfo
  have HI := Lib.hid (⟨hi1, hz0, hz1, hz2⟩ : _ ∧ _ ∧ _ ∧ _)
  clear hi1 hz0 hz1 hz2
  have hnews : ∀ j u, [Value.int .u64 k, Value.int .u64 x][j]? = some u → w.cell? ((⟨gv, 0, none⟩ : Addr).add j) = some u := by
    intro j u hu
    have hadd : (⟨gv, 0, none⟩ : Addr).add j = ⟨gv, j, none⟩ := by unfold Addr.add; split <;> simp_all
    rw [hadd]
    match j, hu with
    | 0, hu => simp at hu; subst hu; exact h0
    | 1, hu => simp at hu; subst hu; exact h1
    | j + 2, hu => simp at hu
  have HN := Lib.hid hnews
  clear hnews
  have fin : ∀ (w' : World) (v' : Value), w'.ownsRow base 78 2 v' (n + 1) (pcells l ++ [.int .u64 k, .int .u64 x]) → w'.ownsRow base 78 2 v' (n + 1) (pcells (l ++ [(k, x)])) := fun w' v' h => by rw [pcells_app]; exact h
  have FIN := Lib.hid fin
  clear fin
  rcases own_forms hown with ⟨rfl, rfl⟩ | ⟨g, c, rfl, hg, hin, hc1, hc2⟩
  · clear hown
    go_enter Tryd.func74, Tryd.ntmps74
    go_wp2_with (at_builtin; refine wpList_append_own w rfl _ _ 40 rfl base 78 i (.agg #[.int .u64 0, .int .u64 0]) 2 16 Tryd.underlying40 HI.out.1 HI.out.2.1 HI.out.2.2.1 HI.out.2.2.2 rfl (by decide) _ 0 _ rfl HO.out ⟨gv, 0, none⟩ 1 1 [.int .u64 k, .int .u64 x] rfl rfl HN.out (by intro u hu; simp at hu; rcases hu with rfl | rfl <;> rfl) (by unfold maxLen; omega) (by omega) hbase ?_; intro vA wA hownA hgrA _)
    exact bodyPost_ret (results_tmp rfl _ _ _) rfl ⟨vA, rfl, FIN.out _ _ hownA, hgrA⟩
  · have c1 : (n : Int) ≤ (c : Int) := by omega
    clear hown
    go_enter Tryd.func74, Tryd.ntmps74
    go_wp2_with (at_builtin; refine wpList_append_own w rfl _ _ 40 rfl base 78 i (.agg #[.int .u64 0, .int .u64 0]) 2 16 Tryd.underlying40 HI.out.1 HI.out.2.1 HI.out.2.2.1 HI.out.2.2.2 rfl (by decide) _ n _ rfl HO.out ⟨gv, 0, none⟩ 1 1 [.int .u64 k, .int .u64 x] rfl rfl HN.out (by intro u hu; simp at hu; rcases hu with rfl | rfl <;> rfl) (by unfold maxLen; omega) (by omega) hbase ?_; intro vA wA hownA hgrA _)
    all_goals exact bodyPost_ret (results_tmp rfl _ _ _) rfl ⟨vA, rfl, FIN.out _ _ hownA, hgrA⟩
end Go.Proofs.YtahagplegmcaaaaDoor
