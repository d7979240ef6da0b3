import Derived.Test.YtkikdpdainmlcaaGreatGMg
import Derived.Lib.AppendZeros
import Derived.Lib.Overlaps
import Derived.Laws.IdiomCopy
import Derived.Deep.RegionLaw
import Derived.Laws.Externs
set_option linter.unusedVariables false
set_option linter.unusedSimpArgs false
set_option linter.unnecessarySimpa false
namespace Go.Proofs.YtkikdpdainmlcaaGreat
open Go.RowKit Go.Xt
/-! The ordered map at any pairs: find. -/
def pcells (l : List (Int × Int)) : List Value := l.flatMap fun x => [.int .u64 x.1, .int .u64 x.2]
theorem pcells_get : ∀ (l : List (Int × Int)) (i : Nat) (x : Int × Int), l[i]? = some x → (pcells l)[i * 2]? = some (.int .u64 x.1) ∧ (pcells l)[i * 2 + 1]? = some (.int .u64 x.2)
  | [], i, x, h => by simp at h
  | y :: l, 0, x, h => by simp at h; subst h; exact ⟨rfl, rfl⟩
  | y :: l, i + 1, x, h => by
    have h2 := pcells_get l i x (by simpa using h)
    have e : ∀ j, (pcells (y :: l))[(i + 1) * 2 + j]? = (pcells l)[i * 2 + j]? := fun j => by
      rw [show (i + 1) * 2 + j = (i * 2 + j) + 2 by omega]; rfl
    exact ⟨(e 0).trans h2.1, (e 1).trans h2.2⟩
theorem pcells_len (l : List (Int × Int)) : (pcells l).length = l.length * 2 := by
  induction l with
  | nil => rfl
  | cons x l ih => rw [pcells, List.flatMap_cons, List.length_append, ← pcells, ih, List.length_cons]; simp; omega
def asc (l : List (Int × Int)) : Prop := l.Pairwise fun a b => a.1 < b.1
def pos (k : Int) : List (Int × Int) → Nat
  | [] => 0
  | x :: r => if x.1 < k then pos k r + 1 else 0
theorem pos_le (k : Int) : ∀ l, pos k l ≤ l.length
  | [] => Nat.le_refl _
  | x :: r => by rw [pos]; split <;> simp [pos_le k r]
theorem pos_lt {k : Int} : ∀ {l : List (Int × Int)}, asc l → ∀ {h : Nat} {x : Int × Int}, l[h]? = some x → (x.1 < k ↔ h < pos k l)
  | [], _, h, x, hx => by simp at hx
  | y :: r, ha, 0, x, hx => by
    simp at hx; subst hx
    rw [pos]; split <;> simp_all
  | y :: r, ha, h + 1, x, hx => by
    have ha2 := List.pairwise_cons.1 ha
    have h2 := pos_lt (k := k) ha2.2 (h := h) (x := x) (by simpa using hx)
    have hy : y.1 < x.1 := ha2.1 x (List.mem_of_getElem? (by simpa using hx : r[h]? = some x))
    rw [pos]
    split
    · rw [h2]; omega
    · constructor
      · intro h3; omega
      · intro h3; omega
def hasK (k : Int) (l : List (Int × Int)) : Bool := match l[pos k l]? with
  | some x => decide (x.1 = k)
  | none => false
structure PAt (W : World) (gp g n c : Nat) (l : List (Int × Int)) : Prop where
  p0 : W.cell? ⟨gp, 0, none⟩ = some (.slice (some ⟨g, 0, none⟩) n c)
  len : l.length = n
  at' : ∀ i x, l[i]? = some x → W.cell? ⟨g, i * 2, none⟩ = some (.int .u64 x.1) ∧ W.cell? ⟨g, i * 2 + 1, none⟩ = some (.int .u64 x.2)
theorem PAt.nw {W W' : World} {gp g n c : Nat} {l : List (Int × Int)} (h : PAt W gp g n c l) (hn : Nw W W') : PAt W' gp g n c l :=
  ⟨cell_nw h.p0 hn, h.len, fun i x hx => ⟨cell_nw (h.at' i x hx).1 hn, cell_nw (h.at' i x hx).2 hn⟩⟩
set_option maxRecDepth 20000 in
set_option maxHeartbeats 4000000 in
theorem clos_any (gp g n c a b : Nat) (l : List (Int × Int)) (k : Int) (w : World) (h : PAt w gp g n c l) (hn : n ≤ 1000000)
    (ha : w.cell? ⟨a, 0, none⟩ = some (.pointer (some ⟨gp, 0, none⟩))) (hb : w.cell? ⟨b, 0, none⟩ = some (.int .u64 k)) (i : Nat) (x : Int × Int) (hx : l[i]? = some x) :
    Calls Tryz.prog 116 #[.int .i64 i, .pointer (some ⟨a, 0, none⟩), .pointer (some ⟨b, 0, none⟩)] w fun e w' => e = .returned (.bool (decide (k ≤ x.1))) ∧ Nw w w' := by
  have p := (List.getElem?_eq_some_iff.1 hx).1
  have hlen := h.len
  have p0 := h.p0
  have c0 := (h.at' i x hx).1
  haveI : In gp w := ⟨World.block_lt_of_cell? w _ p0⟩
  haveI : In g w := ⟨World.block_lt_of_cell? w _ c0⟩
  haveI : In a w := ⟨World.block_lt_of_cell? w _ ha⟩
  haveI : In b w := ⟨World.block_lt_of_cell? w _ hb⟩
  have i0 : (0 : Int) ≤ (i : Int) := by omega
  have i1 : (i : Int) < (n : Int) := by omega
  clear h hx hlen p
  go_enter Tryz.func116, Tryz.ntmps116
  go_wp2_with fail
  (refine wp_region_nw (by kernel_rfl) (by kernel_rfl) ?_; (repeat (go_big_quiet_step (fail))); refine wpQuiet_nil ?_; intro _ hreg; obtain ⟨dW, rfl⟩ : Nw _ _ := hreg)
  go_wp2
  go_ret
  exact ⟨rfl, nwa⟩
set_option maxRecDepth 20000 in
set_option maxHeartbeats 4000000 in
theorem search_any (gp g n c a b : Nat) (l : List (Int × Int)) (k : Int) (w : World) (h : PAt w gp g n c l) (hs : asc l) (hn : n ≤ 1000000)
    (ha : w.cell? ⟨a, 0, none⟩ = some (.pointer (some ⟨gp, 0, none⟩))) (hb : w.cell? ⟨b, 0, none⟩ = some (.int .u64 k)) :
    Calls Tryz.prog 115 #[.int .i64 n, .func (.func 116) #[] #[.pointer (some ⟨a, 0, none⟩), .pointer (some ⟨b, 0, none⟩)]] w fun e w' => e = .returned (.int .i64 (pos k l)) ∧ Nw w w' := by
  have HC := Lib.hid (fun W (hw : Nw w W) i x (hx : l[i]? = some x) => clos_any gp g n c a b l k W (h.nw hw) hn (cell_nw ha hw) (cell_nw hb hw) i x hx)
  have hlen := Lib.hid h.len
  have HS := Lib.hid (fun h x hx => pos_lt (k := k) hs (h := h) (x := x) hx)
  have hpl := pos_le k l
  rw [hlen.out] at hpl
  obtain ⟨P, hP⟩ : ∃ P, P = pos k l := ⟨_, rfl⟩
  rw [← hP] at HS hpl
  rw [← hP]
  clear h ha hb hs hP
  go_enter Tryz.func115, Tryz.ntmps115
  go_wp2
  go_loopw [5, 6, 7] (fun x y _ wr => ∃ i j : Nat, i ≤ P ∧ P ≤ j ∧ j ≤ n ∧ x = .int .i64 i ∧ y = .int .i64 j ∧ Nw w wr) (fun x y _ _ => (intOf y).toNat - (intOf x).toNat)
  case atStart => exact ⟨0, n, by omega, hpl, by omega, rfl, rfl, Nw.refl _⟩
  case round =>
    obtain ⟨i, j, hi, hj, hjn, rfl, rfl, d, rfl⟩ := hrel
    by_cases hlt : i < j
    · have i1 : (i : Int) < (j : Int) := by omega
      obtain ⟨h, hh⟩ : ∃ h : Nat, h = (i + j) / 2 := ⟨_, rfl⟩
      have hhk : ((i : Int) + (j : Int)) / 2 = (h : Int) := by omega
      have h1 : i ≤ h := by omega
      have h2 : h < j := by omega
      have hb8 : j ≤ 1000000 := by omega
      obtain ⟨x, hx⟩ : ∃ x, l[h]? = some x := ⟨_, List.getElem?_eq_getElem (by have := hlen.out; omega)⟩
      have hiff := HS.out h x hx
      have HX := Lib.hid hx
      have HI := Lib.hid (show i ≤ h ∧ h < j ∧ i ≤ P ∧ P ≤ j ∧ j ≤ n from ⟨h1, h2, hi, hj, hjn⟩)
      clear hh hx h1
      by_cases hk : k ≤ x.1
      · have d1 : decide (k ≤ x.1) = true := by simpa using hk
        have hP2 := Lib.hid (show P ≤ h by have := hiff; omega)
        clear hiff
        go_wp2_with fail
        refine (HC.out _ (nwa) h x HX.out).mono ?_
        rintro e w' ⟨rfl, dW, rfl⟩
        go_wp2
        exact ⟨⟨i, h, by have := HI.out; omega, hP2.out, by have := HI.out; omega, rfl, by go_num, nwa⟩, by have := HI.out; simp [intOf]; omega⟩
      · have d1 : decide (k ≤ x.1) = false := by simpa using hk
        have hP2 := Lib.hid (show h < P by have := hiff; omega)
        clear hiff
        go_wp2_with fail
        refine (HC.out _ (nwa) h x HX.out).mono ?_
        rintro e w' ⟨rfl, dW, rfl⟩
        go_wp2
        exact ⟨⟨h + 1, j, hP2.out, by have := HI.out; omega, by have := HI.out; omega, by go_num, rfl, nwa⟩, by have := HI.out; simp [intOf]; omega⟩
    · have i1 : ¬ (i : Int) < (j : Int) := by omega
      go_wp2
      go_ret
      exact ⟨by rw [show i = P by omega]; rfl, nwa⟩
set_option maxRecDepth 20000 in
set_option maxHeartbeats 4000000 in
theorem find_any (gp g n c : Nat) (l : List (Int × Int)) (k : Int) (w : World) (h : PAt w gp g n c l) (hs : asc l) (hn : n ≤ 1000000) :
    Calls Tryz.prog 100 #[.pointer (some ⟨gp, 0, none⟩), .int .u64 k] w fun e w' => e = .returned (.tuple #[.int .i64 (pos k l), .bool (hasK k l)]) ∧ Nw w w' := by
  have p0 := h.p0
  haveI : In gp w := ⟨World.block_lt_of_cell? w _ p0⟩
  have HPA := Lib.hid h
  have hpl := pos_le k l
  rw [h.len] at hpl
  have HSS := Lib.hid hs
  by_cases hlt : pos k l < n
  · obtain ⟨x, hx⟩ : ∃ x, l[pos k l]? = some x := ⟨_, List.getElem?_eq_getElem (by have := h.len; omega)⟩
    have c0 := (h.at' _ x hx).1
    have hhas : hasK k l = decide (x.1 = k) := by rw [hasK, hx]
    rw [hhas]
    haveI : In g w := ⟨World.block_lt_of_cell? w _ c0⟩
    obtain ⟨P, hP⟩ : ∃ P, P = pos k l := ⟨_, rfl⟩
    rw [← hP] at hlt c0 ⊢
    have HP := Lib.hid hP
    have q1 : (P : Int) < (n : Int) := by omega
    have q0 : (0 : Int) ≤ (P : Int) := by omega
    clear h hs hx hhas hP hpl
    go_enter Tryz.func100, Tryz.ntmps100
    go_wp2_with fail
    refine (search_any gp g n c _ _ l k _ (HPA.out.nw (nwa)) HSS.out hn (by simp [go_sem]) (by simp [go_sem])).mono ?_
    rintro e w' ⟨rfl, dW, rfl⟩
    rw [← HP.out]
    go_wp2_with fail
    (refine wp_region_nw (by kernel_rfl) (by kernel_rfl) ?_; (repeat (go_big_quiet_step (fail))); refine wpQuiet_nil ?_; intro _ hreg; obtain ⟨dW, rfl⟩ : Nw _ _ := hreg)
    go_wp2
    exact bodyPost_ret (results_tmp2 rfl _ _ _) rfl ⟨rfl, nwa⟩
  · have hhas : hasK k l = false := by rw [hasK, List.getElem?_eq_none (by have := h.len; omega)]
    rw [hhas]
    obtain ⟨P, hP⟩ : ∃ P, P = pos k l := ⟨_, rfl⟩
    rw [← hP] at hlt ⊢
    have HP := Lib.hid hP
    have q1 : ¬ (P : Int) < (n : Int) := by omega
    have d1 : decide ((P : Int) < (n : Int)) = false := by simpa using q1
    clear h hs hhas hP hpl
    go_enter Tryz.func100, Tryz.ntmps100
    go_wp2_with fail
    refine (search_any gp g n c _ _ l k _ (HPA.out.nw (nwa)) HSS.out hn (by simp [go_sem]) (by simp [go_sem])).mono ?_
    rintro e w' ⟨rfl, dW, rfl⟩
    rw [← HP.out]
    go_wp2_with fail
    (refine wp_region_nw (by kernel_rfl) (by kernel_rfl) ?_; (repeat (go_big_quiet_step (fail))); refine wpQuiet_nil ?_; intro _ hreg; obtain ⟨dW, rfl⟩ : Nw _ _ := hreg)
    go_wp2
    exact bodyPost_ret (results_tmp2 rfl _ _ _) rfl ⟨rfl, nwa⟩
end Go.Proofs.YtkikdpdainmlcaaGreat
namespace Go.Proofs.YtkikdpdainmlcaaGreat
open Go.RowKit Go.Xt
/-! slices.Insert of one pair. -/
def insM (l : List (Int × Int)) (P : Nat) (y : Int × Int) : List (Int × Int) := l.take P ++ y :: l.drop P
theorem pcells_app (a b : List (Int × Int)) : pcells (a ++ b) = pcells a ++ pcells b := List.flatMap_append
theorem pcells_one (l : List (Int × Int)) : ∀ u ∈ pcells l, u.oneCell' = true := by
  intro u hu
  obtain ⟨x, _, hx⟩ := List.mem_flatMap.1 hu
  simp at hx; rcases hx with rfl | rfl <;> rfl
end Go.Proofs.YtkikdpdainmlcaaGreat
namespace Go.Proofs.YtkikdpdainmlcaaGreat
open Go.RowKit Go.Xt
/-! A row of one's own and its spare places; copy at pairs. -/
def setL (cur : List Value) : Nat → List Value → List Value
  | _, [] => cur
  | o, v :: r => setL (cur.set o v) (o + 1) r
theorem setL_len : ∀ (vs cur : List Value) (o : Nat), (setL cur o vs).length = cur.length
  | [], _, _ => rfl
  | v :: r, cur, o => by rw [setL, setL_len r]; simp
theorem setL_out : ∀ (vs cur : List Value) (o j : Nat), (j < o ∨ o + vs.length ≤ j) → (setL cur o vs)[j]? = cur[j]?
  | [], _, _, _, _ => rfl
  | v :: r, cur, o, j, h => by
    rw [setL, setL_out r _ _ j (by simp at h; omega), List.getElem?_set_ne (by simp at h; omega)]
theorem setL_in : ∀ (vs cur : List Value) (o i : Nat), i < vs.length → o + vs.length ≤ cur.length → (setL cur o vs)[o + i]? = vs[i]?
  | [], _, _, _, h, _ => by simp at h
  | v :: r, cur, o, 0, _, hl => by
    show (setL (cur.set o v) (o + 1) r)[o]? = _
    rw [setL_out r _ _ o (by omega), List.getElem?_set_self (by simp at hl; omega)]; rfl
  | v :: r, cur, o, i + 1, h, hl => by
    rw [setL, show o + (i + 1) = (o + 1) + i by omega, setL_in r _ _ i (by simpa using h) (by simp at hl ⊢; omega)]; rfl
theorem own_full {W : World} {base : Nat} {e : TypeId} {size g n c : Nat} {xs : List Value} (h : W.ownsRow base e size (.slice (some ⟨g, 0, none⟩) n c) n xs) :
    ∃ cur : List Value, W.ownsRow base e size (.slice (some ⟨g, 0, none⟩) c c) c cur ∧ cur.take (n * size) = xs ∧ cur.length = c * size ∧ n ≤ c := by
  rcases h.2 with ⟨h1, _⟩ | ⟨g', cap, cur, h1, h2, h3, h4, h5, h6, h7⟩
  · cases h1
  · injection h1 with a1 a2 a3
    injection a1 with a1; injection a1 with a1
    subst a1 a3
    exact ⟨cur.toList, ⟨by simpa using h6, .inr ⟨g, c, cur, rfl, h2, h3, Nat.le_refl _, h5, h6, by rw [List.take_of_length_le (by simp [h6])]⟩⟩, by rw [← h.1] at h7 ⊢; exact h7, by simpa using h6, h4⟩
theorem own_take {W : World} {base : Nat} {e : TypeId} {size g c m : Nat} {cur : List Value} (h : W.ownsRow base e size (.slice (some ⟨g, 0, none⟩) c c) c cur) (hm : m ≤ c) : W.ownsRow base e size (.slice (some ⟨g, 0, none⟩) m c) m (cur.take (m * size)) := by
  have hl := h.1
  rcases h.2 with ⟨h1, _⟩ | ⟨g', cap, cur', h1, h2, h3, h4, h5, h6, h7⟩
  · cases h1
  · injection h1 with a1 a2 a3
    injection a1 with a1; injection a1 with a1
    subst a1 a3
    have hlen : (cur.take (m * size)).length = m * size := by rw [List.length_take, hl]; exact Nat.min_eq_left (Nat.mul_le_mul_right _ hm)
    refine ⟨hlen, .inr ⟨g, c, cur', rfl, h2, h3, hm, h5, h6, ?_⟩⟩
    rw [← h7, List.take_take]
    congr 1
    exact (Nat.min_eq_left (Nat.mul_le_mul_right _ hm)).symm
theorem own_setCells {base : Nat} {e : TypeId} {size g c : Nat} : ∀ (vs cur : List Value) (o : Nat) (W : World), W.ownsRow base e size (.slice (some ⟨g, 0, none⟩) c c) c cur → (W.setCells g o vs).ownsRow base e size (.slice (some ⟨g, 0, none⟩) c c) c (setL cur o vs) ∧ W.grownBy (W.setCells g o vs) (some g)
  | [], _, _, W, h => ⟨h, gref W _⟩
  | v :: r, cur, o, W, h => by
    have h1 := h.stored o v
    have h2 := own_setCells r (cur.set o v) (o + 1) _ h1.1
    exact ⟨h2.1, grownBy_trans h1.2 h2.2⟩
theorem ins_cells {l : List (Int × Int)} {cur : List Value} {P n c : Nat} {k x : Int} (hl : l.length = n) (hP : P < n) (hc : n + 1 ≤ c) (hcur : cur.take (n * 2) = pcells l) (hlen : cur.length = c * 2) :
    (setL (setL cur ((P + 1) * 2) (pcells (l.drop P))) (P * 2) [.int .u64 k, .int .u64 x]).take ((n + 1) * 2) = pcells (insM l P (k, x)) := by
  have hd : (pcells (l.drop P)).length = (n - P) * 2 := by rw [pcells_len, List.length_drop, hl]
  have ht : (pcells (l.take P)).length = P * 2 := by rw [pcells_len, List.length_take, hl]; congr 1; omega
  have hr : pcells (insM l P (k, x)) = pcells (l.take P) ++ ([.int .u64 k, .int .u64 x] ++ pcells (l.drop P)) := by
    rw [insM, pcells_app]; rfl
  have hpl : pcells l = pcells (l.take P) ++ pcells (l.drop P) := by rw [← pcells_app, List.take_append_drop]
  apply List.ext_getElem?
  intro j
  rw [hr, List.getElem?_take]
  by_cases hj : j < (n + 1) * 2
  · rw [if_pos hj]
    by_cases h1 : j < P * 2
    · rw [setL_out _ _ _ _ (by omega), setL_out _ _ _ _ (by omega), List.getElem?_append_left (by omega)]
      have : cur[j]? = (pcells l)[j]? := by rw [← hcur, List.getElem?_take, if_pos (by omega)]
      rw [this, hpl, List.getElem?_append_left (by omega)]
    · by_cases h2 : j < (P + 1) * 2
      · have e : j = P * 2 + (j - P * 2) := by omega
        rw [e, setL_in _ _ _ _ (by simp; omega) (by rw [setL_len, hlen]; simp; omega), List.getElem?_append_right (by omega), ht, show P * 2 + (j - P * 2) - P * 2 = j - P * 2 by omega, List.getElem?_append_left (by simp; omega)]
      · have e : j = (P + 1) * 2 + (j - (P + 1) * 2) := by omega
        rw [setL_out _ _ _ _ (by simp; omega), e, setL_in _ _ _ _ (by omega) (by omega), List.getElem?_append_right (by omega), ht, List.getElem?_append_right (by simp; omega)]
        congr 1; simp; omega
  · rw [if_neg hj, List.getElem?_eq_none (by simp [hd, ht]; omega)]
theorem run_copy2 {Q : Program} (w : World) (dT sT ty elem : TypeId) (b o dLen dCap : Nat) (a : Addr) (sLen sCap : Nat) (cs : List Value)
    (hu : Q.underlying dT = some (.slice elem)) (hs : (Q.info? elem).map (·.size) = some 2) (hn : cs.length = Nat.min sLen dLen * 2)
    (hsrc : ∀ j v, cs[j]? = some v → w.cell? (a.add j) = some v) (hc : ∀ j, j < cs.length → (w.cell? ⟨b, o + j, none⟩).isSome = true) (hf : ∀ j, j < cs.length → w.frozen? ⟨b, o + j, none⟩ = false) (h1 : ∀ v ∈ cs, v.oneCell' = true) :
    (Builtin.copy_ #[dT, sT] ty #[.slice (some ⟨b, o, none⟩) dLen dCap, .slice (some a) sLen sCap]).run Q w = .ok (goInt (Nat.min sLen dLen)) (w.setCells b o cs) := by
  have hl := run_loadCells_list (P := Q) w a cs hsrc
  have hst := run_storeCells_cells (P := Q) b o cs 0 w (by simpa using hc) (by simpa using hf) h1
  cases hq : Q.info? elem with
  | none => simp [hq] at hs
  | some i =>
    have hi : i.size = 2 := by simpa [hq] using hs
    simp [Builtin.copy_, run_underlying hu, Builtin.lenOf, Builtin.firstCells, sizeOf, typeInfo, hq, hi, ← hn, hl, hst]
end Go.Proofs.YtkikdpdainmlcaaGreat
namespace Go.Proofs.YtkikdpdainmlcaaGreat
open Go.RowKit Go.Xt
/-! slices.Insert of one pair before another, where there is room. -/
theorem step_copy_eq {Q0 : Program} {ops : Array Oper} {o : Oper} {a : Act} {w : World} {K : Act → World → Prop} {Q : Exit → Act → World → Prop} {E : Prop}
    (hg : o.guard = none) (d x : Operand) (dT sT : TypeId) (hop : o.op = Op.call { callee := Callee.builtin Builtin.copy, args := #[d, x], argTypes := #[dT, sT] })
    (v u : Value) (hd : a.eval d = v) (hx : a.eval x = u) {v' : Value} {w' : World} (hr : (Builtin.copy_ #[dT, sT] o.type #[v, u]).run Q0 w = .ok v' w') (hK : K (a.put o.dst v') w') :
    if Region.wanted o (yielded ops a.tmps) = true then Oper.wp Q0 o a w K Q else E := by
  have hw : Region.wanted o (yielded ops a.tmps) = true := by simp [Region.wanted, hg]
  rw [if_pos hw]
  unfold Oper.wp
  simp [execOp, hop, resolve, invoke, builtin, hd, hx, hr, Result.andThen]
  exact hK
theorem own_shape {W : World} {base : Nat} {e : TypeId} {size g n c : Nat} {xs : List Value} (h : W.ownsRow base e size (.slice (some ⟨g, 0, none⟩) n c) n xs) : W.shape? g = some (e, c * size) := by
  rcases h.2 with ⟨h1, _⟩ | ⟨g', cap, cur, h1, h2, h3, h4, h5, h6, h7⟩
  · cases h1
  · injection h1 with a1 a2 a3
    injection a1 with a1; injection a1 with a1
    subst a1 a3
    simp [World.shape?, h3, h6]
set_option maxRecDepth 20000 in
set_option maxHeartbeats 4000000 in
theorem insert_mid (base g n c : Nat) (l : List (Int × Int)) (P gv : Nat) (k x : Int) (w : World) (hown : w.ownsRow base 51 2 (.slice (some ⟨g, 0, none⟩) n c) n (pcells l)) (hl : l.length = n) (hP : P < n) (hc : n + 1 ≤ c) (hn : n ≤ 1000000)
    (h0 : w.cell? ⟨gv, 0, none⟩ = some (.int .u64 k)) (h1 : w.cell? ⟨gv, 1, none⟩ = some (.int .u64 x)) (hne : gv ≠ g) (tA : TypeId) (kA : Nat) (hsv : w.shape? gv = some (tA, kA)) (hfv : ∀ o, w.frozen? ⟨gv, o, none⟩ = false) :
    Calls Tryz.prog 117 #[.slice (some ⟨g, 0, none⟩) n c, .int .i64 P, .slice (some ⟨gv, 0, none⟩) 1 1] w fun e w' => e = .returned (.slice (some ⟨g, 0, none⟩) (n + 1) c) ∧ w'.ownsRow base 51 2 (.slice (some ⟨g, 0, none⟩) (n + 1) c) (n + 1) (pcells (insM l P (k, x))) ∧ w.grownBy w' (some g) := by
  haveI : In gv w := ⟨World.block_lt_of_cell? w _ h0⟩
  have HO := Lib.hid hown
  have p1 : (P : Int) < (n : Int) := by omega
  have p2 : (P : Int) ≤ (n : Int) := by omega
  have p3 : ¬ P = n := by omega
  have p4 : ((P : Int) == (n : Int)) = false := by simp; omega
  have p5 : ¬ (c : Int) < (n : Int) + 1 := by omega
  have p6 : (n : Int) + 1 ≤ (c : Int) := by omega
  have p7 : IntKind.i64.wrap ((n : Int) + 1) = (n : Int) + 1 := by rw [IntKind.wrap_i64]; omega
  have p8 : IntKind.i64.wrap ((P : Int) + 1) = (P : Int) + 1 := by rw [IntKind.wrap_i64]; omega
  have p9 : n ≤ c := by omega
  obtain ⟨cur, hfull, hcur, hclen, _⟩ := own_full hown
  have hov : (callFunc 139 #[.slice (some ⟨gv, 0, none⟩) 1 1, .slice (some ⟨g, (P + 1) * 2, none⟩) (n - P) (c - (P + 1))]).run Tryz.prog w = .ok (.value (.bool false)) w := by
    rw [run_callFunc_extern Tryz.func139 (by kernel_rfl) (by kernel_rfl) (by kernel_rfl) (e := Extern.SlicesOverlaps.overlaps #[47, 47] #[4]) (by kernel_rfl),
      Lib.run_overlaps_apart w 47 4 51 Tryz.underlying47 2 (fun w => by kernel_rfl) ⟨gv, 0, none⟩ ⟨g, (P + 1) * 2, none⟩ 1 1 (n - P) (c - (P + 1)) hne tA 51 kA (c * 2) hsv (own_shape hown) (by omega) (hfv 0) (hfv kA)]
    rfl
  have hadd : ∀ (b o j : Nat), (⟨b, o, none⟩ : Addr).add j = ⟨b, o + j, none⟩ := fun b o j => by unfold Addr.add; split <;> simp_all
  have hsz : (Tryz.prog.info? 51).map (·.size) = some 2 := by
    obtain ⟨i, hi1, hz0, hz1, hz2⟩ := info_parts pairInfo
    rw [hi1]; simp [hz1]
  have hdl : (pcells (l.drop P)).length = (n - P) * 2 := by rw [pcells_len, List.length_drop, hl]
  have htl : (pcells (l.take P)).length = P * 2 := by rw [pcells_len, List.length_take, hl]; congr 1; omega
  have hfd : w.drew.ownsRow base 51 2 (.slice (some ⟨g, 0, none⟩) c c) c cur := own_nw hfull (Nw.drew (Nw.refl _))
  have hsome : ∀ (W : World) (xs : List Value), W.ownsRow base 51 2 (.slice (some ⟨g, 0, none⟩) c c) c xs → ∀ j, j < c * 2 → (W.cell? ⟨g, j, none⟩).isSome = true := fun W xs h j hj => by
    rw [h.cellAt j hj, List.getElem?_eq_getElem (by rw [h.1]; exact hj)]; rfl
  have hcp1 : ∀ ty dc sc, (Builtin.copy_ #[47, 47] ty #[.slice (some ⟨g, (P + 1) * 2, none⟩) (n - P) dc, .slice (some ⟨g, P * 2, none⟩) (n + 1 - P) sc]).run Tryz.prog w.drew = .ok (goInt (Nat.min (n + 1 - P) (n - P))) (w.drew.setCells g ((P + 1) * 2) (pcells (l.drop P))) := fun ty dc sc =>
    run_copy2 w.drew _ _ ty 51 g ((P + 1) * 2) (n - P) dc ⟨g, P * 2, none⟩ (n + 1 - P) sc (pcells (l.drop P)) Tryz.underlying47 hsz
      (by rw [hdl]; congr 1; simp only [Nat.min_def]; split <;> omega)
      (fun j v hj => by
        have hjl : j < (n - P) * 2 := by rw [← hdl]; exact (List.getElem?_eq_some_iff.1 hj).1
        rw [hadd, hfd.cellAt _ (by omega)]
        have h2 : (pcells l)[P * 2 + j]? = some v := by
          rw [← List.take_append_drop P l, pcells_app, List.getElem?_append_right (by omega), htl, show P * 2 + j - P * 2 = j by omega]; exact hj
        rw [← hcur, List.getElem?_take, if_pos (by omega)] at h2; exact h2)
      (fun j hj => hsome _ _ hfd _ (by omega)) (fun j _ => hfd.frozenAt _) (pcells_one _)
  obtain ⟨W1, hW1⟩ : ∃ W1, W1 = w.drew.setCells g ((P + 1) * 2) (pcells (l.drop P)) := ⟨_, rfl⟩
  rw [← hW1] at hcp1
  have hrow1 := own_setCells (pcells (l.drop P)) cur ((P + 1) * 2) w.drew hfd
  rw [← hW1] at hrow1
  have hgv : ∀ j v, [Value.int .u64 k, Value.int .u64 x][j]? = some v → W1.cell? ((⟨gv, 0, none⟩ : Addr).add j) = some v := fun j v hj => by
    rw [hadd, Nat.zero_add]
    have hb : ∀ i u, w.cell? ⟨gv, i, none⟩ = some u → W1.cell? ⟨gv, i, none⟩ = some u := fun i u hu =>
      (World.cell?_of_block (hrow1.2.block gv (World.block_lt_of_cell? w _ hu) (by simpa using hne))).trans hu
    match j, hj with
    | 0, hj => simp at hj; subst hj; exact hb _ _ h0
    | 1, hj => simp at hj; subst hj; exact hb _ _ h1
    | j + 2, hj => simp at hj
  have hcp2 : ∀ ty dc, (Builtin.copy_ #[47, 47] ty #[.slice (some ⟨g, P * 2, none⟩) (n + 1 - P) dc, .slice (some ⟨gv, 0, none⟩) 1 1]).run Tryz.prog W1 = .ok (goInt (Nat.min 1 (n + 1 - P))) (W1.setCells g (P * 2) [.int .u64 k, .int .u64 x]) := fun ty dc =>
    run_copy2 W1 _ _ ty 51 g (P * 2) (n + 1 - P) dc ⟨gv, 0, none⟩ 1 1 [.int .u64 k, .int .u64 x] Tryz.underlying47 hsz
      (by simp only [Nat.min_def]; split <;> simp <;> omega) hgv (fun j hj => hsome _ _ hrow1.1 _ (by simp at hj; omega)) (fun j _ => hrow1.1.frozenAt _) (by intro u hu; simp at hu; rcases hu with rfl | rfl <;> rfl)
  have hrow2 := own_setCells [.int .u64 k, .int .u64 x] _ (P * 2) W1 hrow1.1
  have hfin := own_take hrow2.1 hc
  rw [ins_cells hl hP hc hcur hclen] at hfin
  have FIN := Lib.hid hfin
  have GRW := Lib.hid (grownBy_trans (grownBy_trans (⟨rfl, rfl, rfl, Nat.le_refl _, fun _ _ _ => rfl⟩ : w.grownBy w.drew (some g)) hrow1.2) hrow2.2)
  have CP1 := Lib.hid hcp1
  have CP2 := Lib.hid hcp2
  have HW1 := Lib.hid hW1
  clear hadd hsz hdl htl hfd hsome hcp1 hrow1 hgv hcp2 hrow2 hfin hW1
  have q1 : (P : Int) ≤ (n : Int) + 1 := by omega
  have q2 : (P : Int) + 1 ≤ (n : Int) + 1 := by omega
  have q3 : (0 : Int) ≤ (P : Int) + 1 := by omega
  have q4 : ¬ c = P + 1 := by omega
  have q5 : ¬ c ≤ P + 1 := by omega
  have q6 : ¬ c = P := by omega
  have q7 : ¬ c ≤ P := by omega
  have q8 : ((P : Int) + 1).toNat = P + 1 := by omega
  have HCUR := Lib.hid hcur
  have HCL := Lib.hid hclen
  have HFU := Lib.hid hfull
  clear hown hcur hclen hfull
  go_enter Tryz.func117, Tryz.ntmps117
  go_wp2_with fail
  go_region_law (refine step_copy_eq rfl (.tmp 73) (.tmp 76) 47 47 rfl _ _ (by simp [Act.eval, Act.put]; rfl) (by simp [Act.eval, Act.put]; rfl) (CP1.out _ _ _) ?_)
  have hc2 := CP2.out 3 (c - P)
  go_wp2
  exact bodyPost_ret (results_tmp rfl _ _ _) rfl ⟨rfl, FIN.out, GRW.out⟩
end Go.Proofs.YtkikdpdainmlcaaGreat
