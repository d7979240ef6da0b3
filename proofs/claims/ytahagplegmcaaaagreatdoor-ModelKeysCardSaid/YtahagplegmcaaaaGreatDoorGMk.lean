import Derived.Test.YtahagplegmcaaaaGreatDoorGMh
import Derived.Lib.AppendZeros
import Derived.Lib.Overlaps
import Derived.Laws.IdiomCopy
set_option linter.unusedVariables false
set_option linter.unusedSimpArgs false
set_option linter.unnecessarySimpa false
namespace Go.Proofs.YtahagplegmcaaaaGreatDoor
open Go.RowKit Go.Xt
/-! The ordered map: empty, and with one pair. -/
set_option maxRecDepth 20000 in
set_option maxHeartbeats 4000000 in
theorem search_0 (f : Value) (w : World) :
    Calls Tryz.prog 76 #[.int .i64 0, f] w fun e w' => e = .returned (.int .i64 0) ∧ Nw w w' := by
  go_enter Tryz.func76, Tryz.ntmps76
  go_wp2
  go_loopw [5, 6] (fun a b wr => a = .int .i64 0 ∧ b = .int .i64 0 ∧ wr = w) (fun _ _ _ => 0)
  case atStart => exact ⟨rfl, rfl, rfl⟩
  case round =>
    obtain ⟨rfl, rfl, rfl⟩ := hrel
    go_wp2
    go_ret
    exact ⟨rfl, Nw.refl _⟩
theorem pairInfo : (Tryz.prog.info? 106).map (fun i => (i.zero, i.size, i.bytes)) = some (some (.agg #[.int .u64 0, .int .u64 0]), 2, 16) := by kernel_rfl
/-- The map's one pair. -/
def One (W : World) (gp gl c : Nat) : Prop := W.cell? ⟨gp, 0, none⟩ = some (.slice (some ⟨gl, 0, none⟩) 1 c) ∧ W.cell? ⟨gl, 0, none⟩ = some (.int .u64 4) ∧ W.cell? ⟨gl, 1, none⟩ = some (.int .u64 2) ∧ (∀ o, W.frozen? ⟨gl, o, none⟩ = false) ∧ 1 ≤ c ∧ c ≤ maxLen ∧ W.frozen? ⟨gp, 0, none⟩ = false
end Go.Proofs.YtahagplegmcaaaaGreatDoor
namespace Go.Proofs.YtahagplegmcaaaaGreatDoor
open Go.RowKit Go.Xt
/-! The ordered map at any pairs: find. -/
def pcells (l : List (Int × Int)) : List Value := l.flatMap fun x => [.int .u64 x.1, .int .u64 x.2]
theorem pcells_get : ∀ (l : List (Int × Int)) (i : Nat) (x : Int × Int), l[i]? = some x → (pcells l)[i * 2]? = some (.int .u64 x.1) ∧ (pcells l)[i * 2 + 1]? = some (.int .u64 x.2)
  | [], i, x, h => by simp at h
  | y :: l, 0, x, h => by simp at h; subst h; exact ⟨rfl, rfl⟩
  | y :: l, i + 1, x, h => by
    have h2 := pcells_get l i x (by simpa using h)
    have e : ∀ j, (pcells (y :: l))[(i + 1) * 2 + j]? = (pcells l)[i * 2 + j]? := fun j => by
      rw [show (i + 1) * 2 + j = (i * 2 + j) + 2 by omega]; rfl
    exact ⟨(e 0).trans h2.1, (e 1).trans h2.2⟩
theorem pcells_len (l : List (Int × Int)) : (pcells l).length = l.length * 2 := by
  induction l with
  | nil => rfl
  | cons x l ih => rw [pcells, List.flatMap_cons, List.length_append, ← pcells, ih, List.length_cons]; simp; omega
/-- Keys strictly ascend. -/
def asc (l : List (Int × Int)) : Prop := l.Pairwise fun a b => a.1 < b.1
/-- How many keys lie below. -/
def pos (k : Int) : List (Int × Int) → Nat
  | [] => 0
  | x :: r => if x.1 < k then pos k r + 1 else 0
theorem pos_le (k : Int) : ∀ l, pos k l ≤ l.length
  | [] => Nat.le_refl _
  | x :: r => by rw [pos]; split <;> simp [pos_le k r]
theorem pos_lt {k : Int} : ∀ {l : List (Int × Int)}, asc l → ∀ {h : Nat} {x : Int × Int}, l[h]? = some x → (x.1 < k ↔ h < pos k l)
  | [], _, h, x, hx => by simp at hx
  | y :: r, ha, 0, x, hx => by
    simp at hx; subst hx
    rw [pos]; split <;> simp_all
  | y :: r, ha, h + 1, x, hx => by
    have ha2 := List.pairwise_cons.1 ha
    have h2 := pos_lt (k := k) ha2.2 (h := h) (x := x) (by simpa using hx)
    have hy : y.1 < x.1 := ha2.1 x (List.mem_of_getElem? (by simpa using hx : r[h]? = some x))
    rw [pos]
    split
    · rw [h2]; omega
    · constructor
      · intro h3; omega
      · intro h3; omega
/-- Whether a key is there. -/
def hasK (k : Int) (l : List (Int × Int)) : Bool := match l[pos k l]? with
  | some x => decide (x.1 = k)
  | none => false
/-- The cells of a map's pairs. -/
structure PAt (W : World) (gp g n c : Nat) (l : List (Int × Int)) : Prop where
  p0 : W.cell? ⟨gp, 0, none⟩ = some (.slice (some ⟨g, 0, none⟩) n c)
  len : l.length = n
  at' : ∀ i x, l[i]? = some x → W.cell? ⟨g, i * 2, none⟩ = some (.int .u64 x.1) ∧ W.cell? ⟨g, i * 2 + 1, none⟩ = some (.int .u64 x.2)
theorem PAt.nw {W W' : World} {gp g n c : Nat} {l : List (Int × Int)} (h : PAt W gp g n c l) (hn : Nw W W') : PAt W' gp g n c l :=
  ⟨cell_nw h.p0 hn, h.len, fun i x hx => ⟨cell_nw (h.at' i x hx).1 hn, cell_nw (h.at' i x hx).2 hn⟩⟩
set_option maxRecDepth 20000 in
set_option maxHeartbeats 4000000 in
theorem clos_any (gp g n c a b : Nat) (l : List (Int × Int)) (k : Int) (w : World) (h : PAt w gp g n c l) (hn : n ≤ 1000000)
    (ha : w.cell? ⟨a, 0, none⟩ = some (.pointer (some ⟨gp, 0, none⟩))) (hb : w.cell? ⟨b, 0, none⟩ = some (.int .u64 k)) (i : Nat) (x : Int × Int) (hx : l[i]? = some x) :
    Calls Tryz.prog 77 #[.int .i64 i, .pointer (some ⟨a, 0, none⟩), .pointer (some ⟨b, 0, none⟩)] w fun e w' => e = .returned (.bool (decide (k ≤ x.1))) ∧ Nw w w' := by
  have p := (List.getElem?_eq_some_iff.1 hx).1
  have hlen := h.len
  have p0 := h.p0
  have c0 := (h.at' i x hx).1
  haveI : In gp w := ⟨World.block_lt_of_cell? w _ p0⟩
  haveI : In g w := ⟨World.block_lt_of_cell? w _ c0⟩
  haveI : In a w := ⟨World.block_lt_of_cell? w _ ha⟩
  haveI : In b w := ⟨World.block_lt_of_cell? w _ hb⟩
  have i0 : (0 : Int) ≤ (i : Int) := by omega
  have i1 : (i : Int) < (n : Int) := by omega
  clear h hx hlen p
  go_enter Tryz.func77, Tryz.ntmps77
  go_wp2_with fail
  (refine wp_region_nw (by kernel_rfl) (by kernel_rfl) ?_; (repeat (go_big_quiet_step (fail))); refine wpQuiet_nil ?_; intro _ hreg; obtain ⟨dW, rfl⟩ : Nw _ _ := hreg)
  go_wp2
  go_ret
  exact ⟨rfl, (by repeat (first | exact Xt.Nw.refl _ | refine Xt.Nw.drew ?_ | refine Xt.Nw.drewN ?_ _ | refine Xt.Nw.alloc ?_ _ | refine Xt.Nw.joined ?_ | refine Xt.Nw.drewd ?_ | refine Xt.Nw.drewdN ?_ | refine Xt.Nw.ext ?_ | refine Xt.Nw.ext_some ?_ (by assumption) | refine Xt.Nw.setCell ?_ (by simp [go_sem] <;> omega) _))⟩
set_option maxRecDepth 20000 in
set_option maxHeartbeats 4000000 in
theorem search_any (gp g n c a b : Nat) (l : List (Int × Int)) (k : Int) (w : World) (h : PAt w gp g n c l) (hs : asc l) (hn : n ≤ 1000000)
    (ha : w.cell? ⟨a, 0, none⟩ = some (.pointer (some ⟨gp, 0, none⟩))) (hb : w.cell? ⟨b, 0, none⟩ = some (.int .u64 k)) :
    Calls Tryz.prog 76 #[.int .i64 n, .func (.func 77) #[] #[.pointer (some ⟨a, 0, none⟩), .pointer (some ⟨b, 0, none⟩)]] w fun e w' => e = .returned (.int .i64 (pos k l)) ∧ Nw w w' := by
  have HC := Lib.hid (fun W (hw : Nw w W) i x (hx : l[i]? = some x) => clos_any gp g n c a b l k W (h.nw hw) hn (cell_nw ha hw) (cell_nw hb hw) i x hx)
  have hlen := Lib.hid h.len
  have HS := Lib.hid (fun h x hx => pos_lt (k := k) hs (h := h) (x := x) hx)
  have hpl := pos_le k l
  rw [hlen.out] at hpl
  obtain ⟨P, hP⟩ : ∃ P, P = pos k l := ⟨_, rfl⟩
  rw [← hP] at HS hpl
  rw [← hP]
  clear h ha hb hs hP
  go_enter Tryz.func76, Tryz.ntmps76
  go_wp2
  go_loopw [5, 6, 7] (fun x y _ wr => ∃ i j : Nat, i ≤ P ∧ P ≤ j ∧ j ≤ n ∧ x = .int .i64 i ∧ y = .int .i64 j ∧ Nw w wr) (fun x y _ _ => (intOf y).toNat - (intOf x).toNat)
  case atStart => exact ⟨0, n, by omega, hpl, by omega, rfl, rfl, Nw.refl _⟩
  case round =>
    obtain ⟨i, j, hi, hj, hjn, rfl, rfl, d, rfl⟩ := hrel
    by_cases hlt : i < j
    · have i1 : (i : Int) < (j : Int) := by omega
      obtain ⟨h, hh⟩ : ∃ h : Nat, h = (i + j) / 2 := ⟨_, rfl⟩
      have hhk : ((i : Int) + (j : Int)) / 2 = (h : Int) := by omega
      have h1 : i ≤ h := by omega
      have h2 : h < j := by omega
      have hb8 : j ≤ 1000000 := by omega
      obtain ⟨x, hx⟩ : ∃ x, l[h]? = some x := ⟨_, List.getElem?_eq_getElem (by have := hlen.out; omega)⟩
      have hiff := HS.out h x hx
      have HX := Lib.hid hx
      have HI := Lib.hid (show i ≤ h ∧ h < j ∧ i ≤ P ∧ P ≤ j ∧ j ≤ n from ⟨h1, h2, hi, hj, hjn⟩)
      clear hh hx h1
      by_cases hk : k ≤ x.1
      · have d1 : decide (k ≤ x.1) = true := by simpa using hk
        have hP2 := Lib.hid (show P ≤ h by have := hiff; omega)
        clear hiff
        go_wp2_with fail
        refine (HC.out _ ((by repeat (first | exact Xt.Nw.refl _ | refine Xt.Nw.drew ?_ | refine Xt.Nw.drewN ?_ _ | refine Xt.Nw.alloc ?_ _ | refine Xt.Nw.joined ?_ | refine Xt.Nw.drewd ?_ | refine Xt.Nw.drewdN ?_ | refine Xt.Nw.ext ?_ | refine Xt.Nw.ext_some ?_ (by assumption) | refine Xt.Nw.setCell ?_ (by simp [go_sem] <;> omega) _))) h x HX.out).mono ?_
        rintro e w' ⟨rfl, dW, rfl⟩
        go_wp2
        exact ⟨⟨i, h, by have := HI.out; omega, hP2.out, by have := HI.out; omega, rfl, by go_num, (by repeat (first | exact Xt.Nw.refl _ | refine Xt.Nw.drew ?_ | refine Xt.Nw.drewN ?_ _ | refine Xt.Nw.alloc ?_ _ | refine Xt.Nw.joined ?_ | refine Xt.Nw.drewd ?_ | refine Xt.Nw.drewdN ?_ | refine Xt.Nw.ext ?_ | refine Xt.Nw.ext_some ?_ (by assumption) | refine Xt.Nw.setCell ?_ (by simp [go_sem] <;> omega) _))⟩, by have := HI.out; simp [intOf]; omega⟩
      · have d1 : decide (k ≤ x.1) = false := by simpa using hk
        have hP2 := Lib.hid (show h < P by have := hiff; omega)
        clear hiff
        go_wp2_with fail
        refine (HC.out _ ((by repeat (first | exact Xt.Nw.refl _ | refine Xt.Nw.drew ?_ | refine Xt.Nw.drewN ?_ _ | refine Xt.Nw.alloc ?_ _ | refine Xt.Nw.joined ?_ | refine Xt.Nw.drewd ?_ | refine Xt.Nw.drewdN ?_ | refine Xt.Nw.ext ?_ | refine Xt.Nw.ext_some ?_ (by assumption) | refine Xt.Nw.setCell ?_ (by simp [go_sem] <;> omega) _))) h x HX.out).mono ?_
        rintro e w' ⟨rfl, dW, rfl⟩
        go_wp2
        exact ⟨⟨h + 1, j, hP2.out, by have := HI.out; omega, by have := HI.out; omega, by go_num, rfl, (by repeat (first | exact Xt.Nw.refl _ | refine Xt.Nw.drew ?_ | refine Xt.Nw.drewN ?_ _ | refine Xt.Nw.alloc ?_ _ | refine Xt.Nw.joined ?_ | refine Xt.Nw.drewd ?_ | refine Xt.Nw.drewdN ?_ | refine Xt.Nw.ext ?_ | refine Xt.Nw.ext_some ?_ (by assumption) | refine Xt.Nw.setCell ?_ (by simp [go_sem] <;> omega) _))⟩, by have := HI.out; simp [intOf]; omega⟩
    · have i1 : ¬ (i : Int) < (j : Int) := by omega
      go_wp2
      go_ret
      exact ⟨by rw [show i = P by omega]; rfl, (by repeat (first | exact Xt.Nw.refl _ | refine Xt.Nw.drew ?_ | refine Xt.Nw.drewN ?_ _ | refine Xt.Nw.alloc ?_ _ | refine Xt.Nw.joined ?_ | refine Xt.Nw.drewd ?_ | refine Xt.Nw.drewdN ?_ | refine Xt.Nw.ext ?_ | refine Xt.Nw.ext_some ?_ (by assumption) | refine Xt.Nw.setCell ?_ (by simp [go_sem] <;> omega) _))⟩
set_option maxRecDepth 20000 in
set_option maxHeartbeats 4000000 in
theorem find_any (gp g n c : Nat) (l : List (Int × Int)) (k : Int) (w : World) (h : PAt w gp g n c l) (hs : asc l) (hn : n ≤ 1000000) :
    Calls Tryz.prog 45 #[.pointer (some ⟨gp, 0, none⟩), .int .u64 k] w fun e w' => e = .returned (.tuple #[.int .i64 (pos k l), .bool (hasK k l)]) ∧ Nw w w' := by
  have p0 := h.p0
  haveI : In gp w := ⟨World.block_lt_of_cell? w _ p0⟩
  have HPA := Lib.hid h
  have hpl := pos_le k l
  rw [h.len] at hpl
  have HSS := Lib.hid hs
  by_cases hlt : pos k l < n
  · obtain ⟨x, hx⟩ : ∃ x, l[pos k l]? = some x := ⟨_, List.getElem?_eq_getElem (by have := h.len; omega)⟩
    have c0 := (h.at' _ x hx).1
    have hhas : hasK k l = decide (x.1 = k) := by rw [hasK, hx]
    rw [hhas]
    haveI : In g w := ⟨World.block_lt_of_cell? w _ c0⟩
    obtain ⟨P, hP⟩ : ∃ P, P = pos k l := ⟨_, rfl⟩
    rw [← hP] at hlt c0 ⊢
    have HP := Lib.hid hP
    have q1 : (P : Int) < (n : Int) := by omega
    have q0 : (0 : Int) ≤ (P : Int) := by omega
    clear h hs hx hhas hP hpl
    go_enter Tryz.func45, Tryz.ntmps45
    go_wp2_with fail
    refine (search_any gp g n c _ _ l k _ (HPA.out.nw ((by repeat (first | exact Xt.Nw.refl _ | refine Xt.Nw.drew ?_ | refine Xt.Nw.drewN ?_ _ | refine Xt.Nw.alloc ?_ _ | refine Xt.Nw.joined ?_ | refine Xt.Nw.drewd ?_ | refine Xt.Nw.drewdN ?_ | refine Xt.Nw.ext ?_ | refine Xt.Nw.ext_some ?_ (by assumption) | refine Xt.Nw.setCell ?_ (by simp [go_sem] <;> omega) _)))) HSS.out hn (by simp [go_sem]) (by simp [go_sem])).mono ?_
    rintro e w' ⟨rfl, dW, rfl⟩
    rw [← HP.out]
    go_wp2_with fail
    (refine wp_region_nw (by kernel_rfl) (by kernel_rfl) ?_; (repeat (go_big_quiet_step (fail))); refine wpQuiet_nil ?_; intro _ hreg; obtain ⟨dW, rfl⟩ : Nw _ _ := hreg)
    go_wp2
    exact bodyPost_ret (results_tmp2 rfl _ _ _) rfl ⟨rfl, (by repeat (first | exact Xt.Nw.refl _ | refine Xt.Nw.drew ?_ | refine Xt.Nw.drewN ?_ _ | refine Xt.Nw.alloc ?_ _ | refine Xt.Nw.joined ?_ | refine Xt.Nw.drewd ?_ | refine Xt.Nw.drewdN ?_ | refine Xt.Nw.ext ?_ | refine Xt.Nw.ext_some ?_ (by assumption) | refine Xt.Nw.setCell ?_ (by simp [go_sem] <;> omega) _))⟩
  · have hhas : hasK k l = false := by rw [hasK, List.getElem?_eq_none (by have := h.len; omega)]
    rw [hhas]
    obtain ⟨P, hP⟩ : ∃ P, P = pos k l := ⟨_, rfl⟩
    rw [← hP] at hlt ⊢
    have HP := Lib.hid hP
    have q1 : ¬ (P : Int) < (n : Int) := by omega
    have d1 : decide ((P : Int) < (n : Int)) = false := by simpa using q1
    clear h hs hhas hP hpl
    go_enter Tryz.func45, Tryz.ntmps45
    go_wp2_with fail
    refine (search_any gp g n c _ _ l k _ (HPA.out.nw ((by repeat (first | exact Xt.Nw.refl _ | refine Xt.Nw.drew ?_ | refine Xt.Nw.drewN ?_ _ | refine Xt.Nw.alloc ?_ _ | refine Xt.Nw.joined ?_ | refine Xt.Nw.drewd ?_ | refine Xt.Nw.drewdN ?_ | refine Xt.Nw.ext ?_ | refine Xt.Nw.ext_some ?_ (by assumption) | refine Xt.Nw.setCell ?_ (by simp [go_sem] <;> omega) _)))) HSS.out hn (by simp [go_sem]) (by simp [go_sem])).mono ?_
    rintro e w' ⟨rfl, dW, rfl⟩
    rw [← HP.out]
    go_wp2_with fail
    (refine wp_region_nw (by kernel_rfl) (by kernel_rfl) ?_; (repeat (go_big_quiet_step (fail))); refine wpQuiet_nil ?_; intro _ hreg; obtain ⟨dW, rfl⟩ : Nw _ _ := hreg)
    go_wp2
    exact bodyPost_ret (results_tmp2 rfl _ _ _) rfl ⟨rfl, (by repeat (first | exact Xt.Nw.refl _ | refine Xt.Nw.drew ?_ | refine Xt.Nw.drewN ?_ _ | refine Xt.Nw.alloc ?_ _ | refine Xt.Nw.joined ?_ | refine Xt.Nw.drewd ?_ | refine Xt.Nw.drewdN ?_ | refine Xt.Nw.ext ?_ | refine Xt.Nw.ext_some ?_ (by assumption) | refine Xt.Nw.setCell ?_ (by simp [go_sem] <;> omega) _))⟩
end Go.Proofs.YtahagplegmcaaaaGreatDoor
namespace Go.Proofs.YtahagplegmcaaaaGreatDoor
open Go.RowKit Go.Xt
/-! slices.Insert of one pair. -/
def insM (l : List (Int × Int)) (P : Nat) (y : Int × Int) : List (Int × Int) := l.take P ++ y :: l.drop P
theorem pcells_app (a b : List (Int × Int)) : pcells (a ++ b) = pcells a ++ pcells b := List.flatMap_append
theorem pcells_one (l : List (Int × Int)) : ∀ u ∈ pcells l, u.oneCell' = true := by
  intro u hu
  obtain ⟨x, _, hx⟩ := List.mem_flatMap.1 hu
  simp at hx; rcases hx with rfl | rfl <;> rfl
end Go.Proofs.YtahagplegmcaaaaGreatDoor
