import Derived.Test.YtahagplegmcaaaaGreatDoorGVf
import Derived.Test.YtahagplegmcaaaaGreatDoorGQb
set_option linter.unusedVariables false
set_option linter.unusedSimpArgs false
set_option linter.unnecessarySimpa false
namespace Go.Proofs.YtahagplegmcaaaaGreatDoor
open Go.RowKit Go.Xt
/-! The reference's model: Uses, Fields, Mask, Formed. -/
abbrev ovx (x : Ox) : Value := .agg #[.int .u8 x.k, .int .u64 x.key, .int .u64 x.hi, .int .u64 x.val, .int .u64 x.old, .int .u64 x.by_, .int .u64 x.draw]
def usesI (k : Int) : Int := if k = 3 then 1 else if k = 4 then 37 else if k = 5 then 37 else if k = 6 then 1 else if k = 7 then 13 else if k = 8 then 51 else if k = 9 then 3 else if k = 11 then 3 else if k = 13 then 1 else 0
theorem uses_none {k : Int} (h : k ≠ 3 ∧ k ≠ 4 ∧ k ≠ 5 ∧ k ≠ 6 ∧ k ≠ 7 ∧ k ≠ 8 ∧ k ≠ 9 ∧ k ≠ 11 ∧ k ≠ 13) : usesI k = 0 := by simp [usesI, h]
set_option maxRecDepth 20000 in
set_option maxHeartbeats 4000000 in
theorem ruses_any (k : Int) (w : World) :
    Calls Tryz.prog 107 #[.int .u8 k] w fun e w' => e = .returned (.int .i64 (usesI k)) ∧ Nw w w' := by
  rcases (by omega : (k ≠ 3 ∧ k ≠ 4 ∧ k ≠ 5 ∧ k ≠ 6 ∧ k ≠ 7 ∧ k ≠ 8 ∧ k ≠ 9 ∧ k ≠ 11 ∧ k ≠ 13) ∨ k = 3 ∨ k = 4 ∨ k = 5 ∨ k = 6 ∨ k = 7 ∨ k = 8 ∨ k = 9 ∨ k = 11 ∨ k = 13) with h | rfl | rfl | rfl | rfl | rfl | rfl | rfl | rfl | rfl
  · have hw := Lib.hid (uses_none h)
    have e3 : (k == 3) = false := by simp; omega
    have e4 : (k == 4) = false := by simp; omega
    have e5 : (k == 5) = false := by simp; omega
    have e6 : (k == 6) = false := by simp; omega
    have e7 : (k == 7) = false := by simp; omega
    have e8 : (k == 8) = false := by simp; omega
    have e9 : (k == 9) = false := by simp; omega
    have e11 : (k == 11) = false := by simp; omega
    have e13 : (k == 13) = false := by simp; omega
    clear h
    go_enter Tryz.func107, Tryz.ntmps107
    go_wp2
    go_ret
    exact ⟨by rw [hw.out]; rfl, (by repeat (first | exact Xt.Nw.refl _ | refine Xt.Nw.drew ?_ | refine Xt.Nw.drewN ?_ _ | refine Xt.Nw.alloc ?_ _ | refine Xt.Nw.joined ?_ | refine Xt.Nw.drewd ?_ | refine Xt.Nw.drewdN ?_ | refine Xt.Nw.ext ?_ | refine Xt.Nw.ext_some ?_ (by assumption) | refine Xt.Nw.setCell ?_ (by simp [go_sem] <;> omega) _))⟩
  · go_enter Tryz.func107, Tryz.ntmps107
    go_wp2
    go_ret
    exact ⟨rfl, (by repeat (first | exact Xt.Nw.refl _ | refine Xt.Nw.drew ?_ | refine Xt.Nw.drewN ?_ _ | refine Xt.Nw.alloc ?_ _ | refine Xt.Nw.joined ?_ | refine Xt.Nw.drewd ?_ | refine Xt.Nw.drewdN ?_ | refine Xt.Nw.ext ?_ | refine Xt.Nw.ext_some ?_ (by assumption) | refine Xt.Nw.setCell ?_ (by simp [go_sem] <;> omega) _))⟩
  · go_enter Tryz.func107, Tryz.ntmps107
    go_wp2
    go_ret
    exact ⟨rfl, (by repeat (first | exact Xt.Nw.refl _ | refine Xt.Nw.drew ?_ | refine Xt.Nw.drewN ?_ _ | refine Xt.Nw.alloc ?_ _ | refine Xt.Nw.joined ?_ | refine Xt.Nw.drewd ?_ | refine Xt.Nw.drewdN ?_ | refine Xt.Nw.ext ?_ | refine Xt.Nw.ext_some ?_ (by assumption) | refine Xt.Nw.setCell ?_ (by simp [go_sem] <;> omega) _))⟩
  · go_enter Tryz.func107, Tryz.ntmps107
    go_wp2
    go_ret
    exact ⟨rfl, (by repeat (first | exact Xt.Nw.refl _ | refine Xt.Nw.drew ?_ | refine Xt.Nw.drewN ?_ _ | refine Xt.Nw.alloc ?_ _ | refine Xt.Nw.joined ?_ | refine Xt.Nw.drewd ?_ | refine Xt.Nw.drewdN ?_ | refine Xt.Nw.ext ?_ | refine Xt.Nw.ext_some ?_ (by assumption) | refine Xt.Nw.setCell ?_ (by simp [go_sem] <;> omega) _))⟩
  · go_enter Tryz.func107, Tryz.ntmps107
    go_wp2
    go_ret
    exact ⟨rfl, (by repeat (first | exact Xt.Nw.refl _ | refine Xt.Nw.drew ?_ | refine Xt.Nw.drewN ?_ _ | refine Xt.Nw.alloc ?_ _ | refine Xt.Nw.joined ?_ | refine Xt.Nw.drewd ?_ | refine Xt.Nw.drewdN ?_ | refine Xt.Nw.ext ?_ | refine Xt.Nw.ext_some ?_ (by assumption) | refine Xt.Nw.setCell ?_ (by simp [go_sem] <;> omega) _))⟩
  · go_enter Tryz.func107, Tryz.ntmps107
    go_wp2
    go_ret
    exact ⟨rfl, (by repeat (first | exact Xt.Nw.refl _ | refine Xt.Nw.drew ?_ | refine Xt.Nw.drewN ?_ _ | refine Xt.Nw.alloc ?_ _ | refine Xt.Nw.joined ?_ | refine Xt.Nw.drewd ?_ | refine Xt.Nw.drewdN ?_ | refine Xt.Nw.ext ?_ | refine Xt.Nw.ext_some ?_ (by assumption) | refine Xt.Nw.setCell ?_ (by simp [go_sem] <;> omega) _))⟩
  · go_enter Tryz.func107, Tryz.ntmps107
    go_wp2
    go_ret
    exact ⟨rfl, (by repeat (first | exact Xt.Nw.refl _ | refine Xt.Nw.drew ?_ | refine Xt.Nw.drewN ?_ _ | refine Xt.Nw.alloc ?_ _ | refine Xt.Nw.joined ?_ | refine Xt.Nw.drewd ?_ | refine Xt.Nw.drewdN ?_ | refine Xt.Nw.ext ?_ | refine Xt.Nw.ext_some ?_ (by assumption) | refine Xt.Nw.setCell ?_ (by simp [go_sem] <;> omega) _))⟩
  · go_enter Tryz.func107, Tryz.ntmps107
    go_wp2
    go_ret
    exact ⟨rfl, (by repeat (first | exact Xt.Nw.refl _ | refine Xt.Nw.drew ?_ | refine Xt.Nw.drewN ?_ _ | refine Xt.Nw.alloc ?_ _ | refine Xt.Nw.joined ?_ | refine Xt.Nw.drewd ?_ | refine Xt.Nw.drewdN ?_ | refine Xt.Nw.ext ?_ | refine Xt.Nw.ext_some ?_ (by assumption) | refine Xt.Nw.setCell ?_ (by simp [go_sem] <;> omega) _))⟩
  · go_enter Tryz.func107, Tryz.ntmps107
    go_wp2
    go_ret
    exact ⟨rfl, (by repeat (first | exact Xt.Nw.refl _ | refine Xt.Nw.drew ?_ | refine Xt.Nw.drewN ?_ _ | refine Xt.Nw.alloc ?_ _ | refine Xt.Nw.joined ?_ | refine Xt.Nw.drewd ?_ | refine Xt.Nw.drewdN ?_ | refine Xt.Nw.ext ?_ | refine Xt.Nw.ext_some ?_ (by assumption) | refine Xt.Nw.setCell ?_ (by simp [go_sem] <;> omega) _))⟩
  · go_enter Tryz.func107, Tryz.ntmps107
    go_wp2
    go_ret
    exact ⟨rfl, (by repeat (first | exact Xt.Nw.refl _ | refine Xt.Nw.drew ?_ | refine Xt.Nw.drewN ?_ _ | refine Xt.Nw.alloc ?_ _ | refine Xt.Nw.joined ?_ | refine Xt.Nw.drewd ?_ | refine Xt.Nw.drewdN ?_ | refine Xt.Nw.ext ?_ | refine Xt.Nw.ext_some ?_ (by assumption) | refine Xt.Nw.setCell ?_ (by simp [go_sem] <;> omega) _))⟩
def fin (x : Ox) : List Nat := [x.key.toNat, x.hi.toNat, x.val.toNat, x.old.toNat, x.by_.toNat, x.draw.toNat]
def nums (l : List Nat) : List Value := l.map fun (n : Nat) => Value.int .u64 (n : Int)
theorem fin_nums {x : Ox} (h : x.Wf) : nums (fin x) = [.int .u64 x.key, .int .u64 x.hi, .int .u64 x.val, .int .u64 x.old, .int .u64 x.by_, .int .u64 x.draw] := by
  have h1 := h.key.1; have h2 := h.hi.1; have h3 := h.val.1; have h4 := h.old.1; have h5 := h.by_.1; have h6 := h.draw.1
  simp only [nums, fin, List.map_cons, List.map_nil, Int.toNat_of_nonneg h1, Int.toNat_of_nonneg h2, Int.toNat_of_nonneg h3, Int.toNat_of_nonneg h4, Int.toNat_of_nonneg h5, Int.toNat_of_nonneg h6]
theorem Rd_built (w : World) (cs : Array Value) (xs : List Value) (n : Nat) (t : TypeId) (h : cs.toList = xs) (hn : xs.length = n * 1) : Rd (w.alloc (.cells cs t)) 1 (some ⟨w.heap.size, 0, none⟩) n xs :=
  ⟨hn, fun _ => ⟨_, 0, rfl, by simp, fun j u hu => by
    rw [World.cell?_alloc_new, Nat.zero_add, ← Array.getElem?_toList, h]; exact hu⟩⟩
theorem Rd_built2 (w : World) (cs : Array Value) (xs : List Value) (n g : Nat) (t : TypeId) (hg : g = w.heap.size) (h : cs.toList = xs) (hn : xs.length = n * 1) : Rd (w.alloc (.cells cs t)) 1 (some ⟨g, 0, none⟩) n xs := by
  rw [hg]; exact Rd_built w cs xs n t h hn
def SlE (m : Nat) (xs : List Value) (e : Ending) (W : World) : Prop := ∃ A n c, e = .returned (.slice A n c) ∧ Rd W 1 A n xs ∧ n ≤ m
set_option maxHeartbeats 1000000 in
theorem rfields_any (x : Ox) (w : World) (hx : x.Wf) :
    Calls Tryz.prog 115 #[ovx x] w fun e w' => SlE 6 (nums (fin x)) e w' ∧ Nw w w' := by
  have H := Lib.hid (fin_nums hx)
  clear hx
  go_enter Tryz.func115, Tryz.ntmps115
  go_wp2
  refine bodyPost_ret (results_tmp rfl _ _ _) rfl ⟨⟨_, 6, _, rfl, by rw [H.out]; exact Rd_built2 _ _ _ 6 _ _ (by simp) (by rfl) (by rfl), by decide⟩, (by repeat (first | exact Xt.Nw.refl _ | refine Xt.Nw.drew ?_ | refine Xt.Nw.drewN ?_ _ | refine Xt.Nw.alloc ?_ _ | refine Xt.Nw.joined ?_ | refine Xt.Nw.drewd ?_ | refine Xt.Nw.drewdN ?_ | refine Xt.Nw.ext ?_ | refine Xt.Nw.ext_some ?_ (by assumption) | refine Xt.Nw.setCell ?_ (by simp [go_sem] <;> omega) _))⟩
/-- Which of the fields are not 0. -/
def msk : Nat → List Nat → Nat
  | _, [] => 0
  | i, a :: r => (if a = 0 then 0 else 2 ^ i) + msk (i + 1) r
theorem msk_snoc (a : Nat) : ∀ (l : List Nat) (i : Nat), msk i (l ++ [a]) = msk i l + if a = 0 then 0 else 2 ^ (i + l.length)
  | [], i => by simp [msk]
  | b :: r, i => by
    rw [List.cons_append, msk, msk, msk_snoc a r (i + 1), List.length_cons, show i + (r.length + 1) = i + 1 + r.length by omega]; omega
theorem msk_le : ∀ (l : List Nat) (i : Nat), msk i l + 2 ^ i ≤ 2 ^ (i + l.length)
  | [], i => by simp [msk]
  | b :: r, i => by
    have h := msk_le r (i + 1)
    rw [msk, List.length_cons, show i + (r.length + 1) = i + 1 + r.length by omega]
    have h2 : 2 ^ (i + 1) = 2 ^ i + 2 ^ i := by rw [Nat.pow_succ]; omega
    rw [h2] at h
    generalize 2 ^ i = q at *
    split <;> omega
set_option maxHeartbeats 4000000 in
set_option maxRecDepth 20000 in
theorem rmask_any (x : Ox) (w : World) (hx : x.Wf) :
    Calls Tryz.prog 106 #[ovx x] w fun e w' => e = .returned (.int .i64 (msk 0 (fin x) : Nat)) ∧ Nw w w' := by
  obtain ⟨l, hl⟩ : ∃ l, fin x = l := ⟨_, rfl⟩
  rw [hl]
  go_enter Tryz.func106, Tryz.ntmps106
  go_wp2_with (go_at_call 115; refine (rfields_any x _ hx).mono ?_; rintro e W3 ⟨⟨A, nn, cA, rfl, hr, -⟩, hn3⟩)
  have hnn : nn = 6 := by have := hr.1; simp [nums, fin] at this; omega
  subst hnn
  have hn13 : Nw w W3 := Nw.trans ((by repeat (first | exact Xt.Nw.refl _ | refine Xt.Nw.drew ?_ | refine Xt.Nw.drewN ?_ _ | refine Xt.Nw.alloc ?_ _ | refine Xt.Nw.joined ?_ | refine Xt.Nw.drewd ?_ | refine Xt.Nw.drewdN ?_ | refine Xt.Nw.ext ?_ | refine Xt.Nw.ext_some ?_ (by assumption) | refine Xt.Nw.setCell ?_ (by simp [go_sem] <;> omega) _))) hn3
  have hl6 : l.length = 6 := by rw [← hl]; rfl
  have hb : ∀ k, k ≤ 6 → msk 0 (l.take k) < 64 := by
    intro k hk
    have h := msk_le (l.take k) 0
    have h2 : 2 ^ (0 + (l.take k).length) ≤ 2 ^ 6 := Nat.pow_le_pow_right (by omega) (by simp; omega)
    omega
  have HB := Lib.hid hb
  have HN := Lib.hid hn13
  have HL := Lib.hid hl
  rw [hl] at hr
  have HR := Lib.hid hr
  clear hr hn3 hn13 hb hl
  go_loopw [3, 5] (fun s i wr => ∃ (k m : Nat), k ≤ 6 ∧ s = .int .i64 (m : Int) ∧ i = .int .i64 k ∧ Hid (m = msk 0 (l.take k)) ∧ Nw W3 wr) (fun _ i _ => 6 - (intOf i).toNat)
  case atStart => exact ⟨0, 0, by omega, rfl, rfl, rfl, Nw.refl _⟩
  case round =>
    obtain ⟨k, m, hk, rfl, rfl, hm, hwr⟩ := hrel
    have hm64 : m < 64 := by rw [hm.out]; exact HB.out k hk
    by_cases hlt : k < 6
    · obtain ⟨g, o, rfl, hg, hc⟩ := (HR.out.nw hwr).2 (by omega)
      obtain ⟨x, hx⟩ : ∃ x, l[k]? = some x := ⟨l[k]'(by omega), List.getElem?_eq_getElem (by omega)⟩
      have hcx : wr.cell? ⟨g, o + k, none⟩ = some (.int .u64 (x : Int)) := hc k _ (by simp [nums, hx])
      have htk : l.take (k + 1) = l.take k ++ [x] := by
        obtain ⟨p1, q1⟩ := List.getElem?_eq_some_iff.1 hx
        rw [List.take_succ_eq_append_getElem p1, q1]
      have hnx : msk 0 (l.take (k + 1)) = m + if x = 0 then 0 else 2 ^ k := by
        rw [htk, msk_snoc, hm.out, List.length_take]
        congr 3; omega
      have HX := Lib.hid hnx
      have HWR := Lib.hid hwr
      haveI : In g wr := ⟨hg⟩
      clear hc hx htk hnx hwr hm
      by_cases h0 : x = 0
      · have f1 : ((x : Int) == 0) = true := by simp [h0]
        go_wp2
        exact ⟨⟨k + 1, m, by omega, rfl, by go_num, by rw [HX.out, if_pos h0]; rfl, HWR.out⟩, by simp [intOf]; omega⟩
      · have f1 : ((x : Int) == 0) = false := by simp [h0]
        have hpos : 2 ^ k < 64 := Nat.pow_lt_pow_right (n := 6) (by omega) hlt
        rcases (by omega : k = 0 ∨ k = 1 ∨ k = 2 ∨ k = 3 ∨ k = 4 ∨ k = 5) with hk0 | rfl | rfl | rfl | rfl | rfl
        · have hkI : (k : Int) = 0 := by omega
          have hc0 : wr.cell? ⟨g, o, none⟩ = some (.int .u64 (x : Int)) := by rw [hk0] at hcx; exact hcx
          have HK := Lib.hid hk0
          clear hk0 hcx
          go_wp2
          exact ⟨⟨1, m + 1, by omega, by go_num, by go_num, (by have h := HX.out; rw [if_neg h0, HK.out] at h; exact h.symm : m + 1 = _), HWR.out⟩, by simp [intOf, HK.out]⟩
        all_goals
          go_wp2
        all_goals first | (exfalso; omega) | skip
        · exact ⟨⟨1 + 1, m + 2, by omega, by go_num, by go_num, (by rw [HX.out, if_neg h0] : m + 2 = _), HWR.out⟩, by simp [intOf]⟩
        · exact ⟨⟨2 + 1, m + 4, by omega, by go_num, by go_num, (by rw [HX.out, if_neg h0] : m + 4 = _), HWR.out⟩, by simp [intOf]⟩
        · exact ⟨⟨3 + 1, m + 8, by omega, by go_num, by go_num, (by rw [HX.out, if_neg h0] : m + 8 = _), HWR.out⟩, by simp [intOf]⟩
        · exact ⟨⟨4 + 1, m + 16, by omega, by go_num, by go_num, (by rw [HX.out, if_neg h0] : m + 16 = _), HWR.out⟩, by simp [intOf]⟩
        · exact ⟨⟨5 + 1, m + 32, by omega, by go_num, by go_num, (by rw [HX.out, if_neg h0] : m + 32 = _), HWR.out⟩, by simp [intOf]⟩
    · obtain rfl : k = 6 := by omega
      go_wp2
      go_ret
      exact ⟨by rw [hm.out, List.take_of_length_le (by omega)]; rfl, HN.out.trans hwr⟩
/-- The mask of a list of marks. -/
def mskB : Nat → List Bool → Nat
  | _, [] => 0
  | i, b :: r => (if b then 2 ^ i else 0) + mskB (i + 1) r
theorem msk_B : ∀ (l : List Nat) (i : Nat), msk i l = mskB i (l.map fun a => decide (a ≠ 0))
  | [], _ => rfl
  | a :: r, i => by
    rw [msk, List.map_cons, mskB, msk_B r (i + 1)]
    by_cases h : a = 0 <;> simp [h]
theorem bits_ok : ∀ b1 b2 b3 b4 b5 b6 : Bool, ∀ k ∈ ([1, 2, 3, 4, 5, 6, 7, 8, 9, 10, 11, 12, 13, 14, 15] : List Int), (bits .andNot .i64 ((mskB 0 [b1, b2, b3, b4, b5, b6] : Nat) : Int) (usesI k) == 0) = ((uK k || !b1) && (uH k || !b2) && (uV k || !b3) && (uO k || !b4) && (uB k || !b5) && (uD k || !b6)) := by decide +kernel
theorem zero_B {z : Int} (h : 0 ≤ z) : (!decide (z.toNat ≠ 0)) = decide (z = 0) := by
  rw [Bool.eq_iff_iff]; simp; omega
theorem mask_ok {x : Ox} (hx : x.Wf) (hk : 1 ≤ x.k ∧ x.k ≤ 15) : (bits .andNot .i64 ((msk 0 (fin x) : Nat) : Int) (usesI x.k) == 0) = x.formed := by
  have hm : x.k ∈ ([1, 2, 3, 4, 5, 6, 7, 8, 9, 10, 11, 12, 13, 14, 15] : List Int) := by
    have : x.k = 1 ∨ x.k = 2 ∨ x.k = 3 ∨ x.k = 4 ∨ x.k = 5 ∨ x.k = 6 ∨ x.k = 7 ∨ x.k = 8 ∨ x.k = 9 ∨ x.k = 10 ∨ x.k = 11 ∨ x.k = 12 ∨ x.k = 13 ∨ x.k = 14 ∨ x.k = 15 := by omega
    simpa using this
  have hb := bits_ok (decide (x.key.toNat ≠ 0)) (decide (x.hi.toNat ≠ 0)) (decide (x.val.toNat ≠ 0)) (decide (x.old.toNat ≠ 0)) (decide (x.by_.toNat ≠ 0)) (decide (x.draw.toNat ≠ 0)) x.k hm
  rw [zero_B hx.key.1, zero_B hx.hi.1, zero_B hx.val.1, zero_B hx.old.1, zero_B hx.by_.1, zero_B hx.draw.1] at hb
  rw [msk_B]
  refine Eq.trans hb ?_
  unfold Ox.formed
  rw [decide_eq_true hk.1, decide_eq_true hk.2]
  simp only [Bool.true_and]
theorem formed_out {x : Ox} (hk : ¬ (1 ≤ x.k ∧ x.k ≤ 15)) : x.formed = false := by
  unfold Ox.formed
  by_cases h1 : 1 ≤ x.k
  · rw [decide_eq_false (show ¬ x.k ≤ 15 from fun h => hk ⟨h1, h⟩)]; simp
  · rw [decide_eq_false h1]; simp
set_option maxHeartbeats 4000000 in
set_option maxRecDepth 20000 in
theorem rformed_any (x : Ox) (w : World) (hx : x.Wf) :
    Calls Tryz.prog 94 #[ovx x] w fun e w' => e = .returned (.bool (x.formed)) ∧ Nw w w' := by
  have HX := Lib.hid hx
  have HM := Lib.hid (fun W => rmask_any x W hx)
  have HU := Lib.hid (fun W => ruses_any x.k W)
  by_cases h1 : 1 ≤ x.k
  · have d1 : decide ((1 : Int) ≤ x.k) = true := by simpa using h1
    by_cases h2 : x.k ≤ 15
    · have d2 : decide (x.k ≤ (15 : Int)) = true := by simpa using h2
      have hd := mask_ok hx ⟨h1, h2⟩
      obtain ⟨fb, hfb⟩ : ∃ b, b = x.formed := ⟨_, rfl⟩
      rw [← hfb] at hd ⊢
      obtain ⟨m, hm⟩ : ∃ m : Int, m = ((msk 0 (fin x) : Nat) : Int) := ⟨_, rfl⟩
      obtain ⟨u, hu⟩ : ∃ u : Int, u = usesI x.k := ⟨_, rfl⟩
      rw [← hm, ← hu] at hd
      rw [← hm] at HM
      rw [← hu] at HU
      clear hx hm hu hfb
      go_enter Tryz.func94, Tryz.ntmps94
      go_wp2_with fail
      (refine wp_region_nw (by kernel_rfl) (by kernel_rfl) ?_; (repeat (go_big_quiet_step (first | (go_at_call 106; exact quiet_of (HM.out _)) | (go_at_call 107; exact quiet_of (HU.out _))))); refine wpQuiet_nil ?_; intro _ hreg; obtain ⟨dW, rfl⟩ : Nw _ _ := hreg)
      go_wp2
      go_ret
      exact ⟨rfl, (by repeat (first | exact Xt.Nw.refl _ | refine Xt.Nw.drew ?_ | refine Xt.Nw.drewN ?_ _ | refine Xt.Nw.alloc ?_ _ | refine Xt.Nw.joined ?_ | refine Xt.Nw.drewd ?_ | refine Xt.Nw.drewdN ?_ | refine Xt.Nw.ext ?_ | refine Xt.Nw.ext_some ?_ (by assumption) | refine Xt.Nw.setCell ?_ (by simp [go_sem] <;> omega) _))⟩
    · have d2 : decide (x.k ≤ (15 : Int)) = false := by simpa using h2
      have hf := Lib.hid (formed_out (x := x) (by omega))
      clear hx
      go_enter Tryz.func94, Tryz.ntmps94
      go_wp2_with fail
      (refine wp_region_nw (by kernel_rfl) (by kernel_rfl) ?_; (repeat (go_big_quiet_step (fail))); refine wpQuiet_nil ?_; intro _ hreg; obtain ⟨dW, rfl⟩ : Nw _ _ := hreg)
      go_wp2
      go_ret
      exact ⟨by rw [hf.out]; rfl, (by repeat (first | exact Xt.Nw.refl _ | refine Xt.Nw.drew ?_ | refine Xt.Nw.drewN ?_ _ | refine Xt.Nw.alloc ?_ _ | refine Xt.Nw.joined ?_ | refine Xt.Nw.drewd ?_ | refine Xt.Nw.drewdN ?_ | refine Xt.Nw.ext ?_ | refine Xt.Nw.ext_some ?_ (by assumption) | refine Xt.Nw.setCell ?_ (by simp [go_sem] <;> omega) _))⟩
  · have d1 : decide ((1 : Int) ≤ x.k) = false := by simpa using h1
    have hf := Lib.hid (formed_out (x := x) (by omega))
    clear hx
    go_enter Tryz.func94, Tryz.ntmps94
    go_wp2_with fail
    (refine wp_region_nw (by kernel_rfl) (by kernel_rfl) ?_; (repeat (go_big_quiet_step (fail))); refine wpQuiet_nil ?_; intro _ hreg; obtain ⟨dW, rfl⟩ : Nw _ _ := hreg)
    go_wp2
    go_ret
    exact ⟨by rw [hf.out]; rfl, (by repeat (first | exact Xt.Nw.refl _ | refine Xt.Nw.drew ?_ | refine Xt.Nw.drewN ?_ _ | refine Xt.Nw.alloc ?_ _ | refine Xt.Nw.joined ?_ | refine Xt.Nw.drewd ?_ | refine Xt.Nw.drewdN ?_ | refine Xt.Nw.ext ?_ | refine Xt.Nw.ext_some ?_ (by assumption) | refine Xt.Nw.setCell ?_ (by simp [go_sem] <;> omega) _))⟩
end Go.Proofs.YtahagplegmcaaaaGreatDoor
namespace Go.Proofs.YtahagplegmcaaaaGreatDoor
open Go.RowKit Go.Xt
/-! The reference's model: Static. -/
set_option maxRecDepth 20000 in
set_option maxHeartbeats 8000000 in
theorem static_any (x : Ox) (w : World) (hx : x.Wf) :
    Calls Tryz.prog 64 #[ovx x] w fun e w' => e = .returned (.int .i64 (chkO x)) ∧ Nw w w' := by
  have HF := Lib.hid (fun W => rformed_any x W hx)
  have hc : chkO x = if x.formed = false then 2 else if uH x.k = true ∧ x.hi < x.key ∨ x.k = 8 ∧ x.by_ = 0 then 13 else if x.k = 8 ∧ 18446744073709551615 - x.by_ < x.hi then 12 else 0 := rfl
  have hb := hx.hi
  obtain ⟨k, a, h, c, d, b, f⟩ := x
  simp only at HF hc hb ⊢
  have e1 : 0 ≤ h := hb.1
  have e2 : h ≤ 18446744073709551615 := by omega
  cases hf : (⟨k, a, h, c, d, b, f⟩ : Ox).formed with
  | false =>
    rw [hf] at HF
    have HC := Lib.hid (show chkO ⟨k, a, h, c, d, b, f⟩ = 2 by rw [hc, if_pos hf])
    clear hf hc hx hb
    go_enter Tryz.func64, Tryz.ntmps64
    go_wp2_with (go_at_call 94; refine (HF.out _).mono ?_; rintro e w' ⟨rfl, dW, rfl⟩)
    go_ret
    exact ⟨by rw [HC.out]; rfl, (by repeat (first | exact Xt.Nw.refl _ | refine Xt.Nw.drew ?_ | refine Xt.Nw.drewN ?_ _ | refine Xt.Nw.alloc ?_ _ | refine Xt.Nw.joined ?_ | refine Xt.Nw.drewd ?_ | refine Xt.Nw.drewdN ?_ | refine Xt.Nw.ext ?_ | refine Xt.Nw.ext_some ?_ (by assumption) | refine Xt.Nw.setCell ?_ (by simp [go_sem] <;> omega) _))⟩
  | true =>
    rw [hf] at HF
    rw [if_neg (by rw [hf]; simp)] at hc
    clear hf hx hb
    by_cases k8 : k = 8
    · have u : uH k = true := by simp [uH, k8]
      have g8 : (k == 8) = true := by simpa using k8
      by_cases h1 : h < a
      · have d1 : decide (h < a) = true := by simpa using h1
        have HC := Lib.hid (show chkO ⟨k, a, h, c, d, b, f⟩ = 13 by rw [hc]; rw [if_pos (.inl ⟨u, h1⟩)])
        clear hc u k8 h1
        go_enter Tryz.func64, Tryz.ntmps64
        go_wp2_with (go_at_call 94; refine (HF.out _).mono ?_; rintro e w' ⟨rfl, dW, rfl⟩)
        go_ret
        exact ⟨by rw [HC.out]; rfl, (by repeat (first | exact Xt.Nw.refl _ | refine Xt.Nw.drew ?_ | refine Xt.Nw.drewN ?_ _ | refine Xt.Nw.alloc ?_ _ | refine Xt.Nw.joined ?_ | refine Xt.Nw.drewd ?_ | refine Xt.Nw.drewdN ?_ | refine Xt.Nw.ext ?_ | refine Xt.Nw.ext_some ?_ (by assumption) | refine Xt.Nw.setCell ?_ (by simp [go_sem] <;> omega) _))⟩
      · have d1 : decide (h < a) = false := by simpa using h1
        by_cases h2 : b = 0
        · have d2 : (b == 0) = true := by simpa using h2
          have HC := Lib.hid (show chkO ⟨k, a, h, c, d, b, f⟩ = 13 by rw [hc]; rw [if_pos (.inr ⟨k8, h2⟩)])
          clear hc u k8 h1 h2
          go_enter Tryz.func64, Tryz.ntmps64
          go_wp2_with (go_at_call 94; refine (HF.out _).mono ?_; rintro e w' ⟨rfl, dW, rfl⟩)
          go_ret
          exact ⟨by rw [HC.out]; rfl, (by repeat (first | exact Xt.Nw.refl _ | refine Xt.Nw.drew ?_ | refine Xt.Nw.drewN ?_ _ | refine Xt.Nw.alloc ?_ _ | refine Xt.Nw.joined ?_ | refine Xt.Nw.drewd ?_ | refine Xt.Nw.drewdN ?_ | refine Xt.Nw.ext ?_ | refine Xt.Nw.ext_some ?_ (by assumption) | refine Xt.Nw.setCell ?_ (by simp [go_sem] <;> omega) _))⟩
        · have d2 : (b == 0) = false := by simpa using h2
          by_cases h3 : 18446744073709551615 - h < b
          · have d3 : decide (18446744073709551615 - h < b) = true := by simpa using h3
            have HC := Lib.hid (show chkO ⟨k, a, h, c, d, b, f⟩ = 12 by rw [hc]; rw [if_neg (fun q => q.elim (fun q => h1 q.2) (fun q => h2 q.2)), if_pos ⟨k8, by omega⟩])
            clear hc u k8 h1 h2 h3
            go_enter Tryz.func64, Tryz.ntmps64
            go_wp2_with (go_at_call 94; refine (HF.out _).mono ?_; rintro e w' ⟨rfl, dW, rfl⟩)
            go_ret
            exact ⟨by rw [HC.out]; rfl, (by repeat (first | exact Xt.Nw.refl _ | refine Xt.Nw.drew ?_ | refine Xt.Nw.drewN ?_ _ | refine Xt.Nw.alloc ?_ _ | refine Xt.Nw.joined ?_ | refine Xt.Nw.drewd ?_ | refine Xt.Nw.drewdN ?_ | refine Xt.Nw.ext ?_ | refine Xt.Nw.ext_some ?_ (by assumption) | refine Xt.Nw.setCell ?_ (by simp [go_sem] <;> omega) _))⟩
          · have d3 : decide (18446744073709551615 - h < b) = false := by simpa using h3
            have HC := Lib.hid (show chkO ⟨k, a, h, c, d, b, f⟩ = 0 by rw [hc]; rw [if_neg (fun q => q.elim (fun q => h1 q.2) (fun q => h2 q.2)), if_neg (fun q => by have := q.2; omega)])
            clear hc u k8 h1 h2 h3
            go_enter Tryz.func64, Tryz.ntmps64
            go_wp2_with (go_at_call 94; refine (HF.out _).mono ?_; rintro e w' ⟨rfl, dW, rfl⟩)
            go_ret
            exact ⟨by rw [HC.out]; rfl, (by repeat (first | exact Xt.Nw.refl _ | refine Xt.Nw.drew ?_ | refine Xt.Nw.drewN ?_ _ | refine Xt.Nw.alloc ?_ _ | refine Xt.Nw.joined ?_ | refine Xt.Nw.drewd ?_ | refine Xt.Nw.drewdN ?_ | refine Xt.Nw.ext ?_ | refine Xt.Nw.ext_some ?_ (by assumption) | refine Xt.Nw.setCell ?_ (by simp [go_sem] <;> omega) _))⟩
    · have g8 : (k == 8) = false := by simpa using k8
      by_cases k9 : k = 9
      · have u : uH k = true := by simp [uH, k9]
        have g9 : (k == 9) = true := by simpa using k9
        by_cases h1 : h < a
        · have d1 : decide (h < a) = true := by simpa using h1
          have HC := Lib.hid (show chkO ⟨k, a, h, c, d, b, f⟩ = 13 by rw [hc]; rw [if_pos (.inl ⟨u, h1⟩)])
          clear hc u k8 k9 h1
          go_enter Tryz.func64, Tryz.ntmps64
          go_wp2_with (go_at_call 94; refine (HF.out _).mono ?_; rintro e w' ⟨rfl, dW, rfl⟩)
          go_ret
          exact ⟨by rw [HC.out]; rfl, (by repeat (first | exact Xt.Nw.refl _ | refine Xt.Nw.drew ?_ | refine Xt.Nw.drewN ?_ _ | refine Xt.Nw.alloc ?_ _ | refine Xt.Nw.joined ?_ | refine Xt.Nw.drewd ?_ | refine Xt.Nw.drewdN ?_ | refine Xt.Nw.ext ?_ | refine Xt.Nw.ext_some ?_ (by assumption) | refine Xt.Nw.setCell ?_ (by simp [go_sem] <;> omega) _))⟩
        · have d1 : decide (h < a) = false := by simpa using h1
          have HC := Lib.hid (show chkO ⟨k, a, h, c, d, b, f⟩ = 0 by rw [hc]; rw [if_neg (fun q => q.elim (fun q => h1 q.2) (fun q => k8 q.1)), if_neg (fun q => k8 q.1)])
          clear hc u k8 k9 h1
          go_enter Tryz.func64, Tryz.ntmps64
          go_wp2_with (go_at_call 94; refine (HF.out _).mono ?_; rintro e w' ⟨rfl, dW, rfl⟩)
          go_ret
          exact ⟨by rw [HC.out]; rfl, (by repeat (first | exact Xt.Nw.refl _ | refine Xt.Nw.drew ?_ | refine Xt.Nw.drewN ?_ _ | refine Xt.Nw.alloc ?_ _ | refine Xt.Nw.joined ?_ | refine Xt.Nw.drewd ?_ | refine Xt.Nw.drewdN ?_ | refine Xt.Nw.ext ?_ | refine Xt.Nw.ext_some ?_ (by assumption) | refine Xt.Nw.setCell ?_ (by simp [go_sem] <;> omega) _))⟩
      · have g9 : (k == 9) = false := by simpa using k9
        by_cases k11 : k = 11
        · have u : uH k = true := by simp [uH, k11]
          have g11 : (k == 11) = true := by simpa using k11
          by_cases h1 : h < a
          · have d1 : decide (h < a) = true := by simpa using h1
            have HC := Lib.hid (show chkO ⟨k, a, h, c, d, b, f⟩ = 13 by rw [hc]; rw [if_pos (.inl ⟨u, h1⟩)])
            clear hc u k8 k9 k11 h1
            go_enter Tryz.func64, Tryz.ntmps64
            go_wp2_with (go_at_call 94; refine (HF.out _).mono ?_; rintro e w' ⟨rfl, dW, rfl⟩)
            go_ret
            exact ⟨by rw [HC.out]; rfl, (by repeat (first | exact Xt.Nw.refl _ | refine Xt.Nw.drew ?_ | refine Xt.Nw.drewN ?_ _ | refine Xt.Nw.alloc ?_ _ | refine Xt.Nw.joined ?_ | refine Xt.Nw.drewd ?_ | refine Xt.Nw.drewdN ?_ | refine Xt.Nw.ext ?_ | refine Xt.Nw.ext_some ?_ (by assumption) | refine Xt.Nw.setCell ?_ (by simp [go_sem] <;> omega) _))⟩
          · have d1 : decide (h < a) = false := by simpa using h1
            have HC := Lib.hid (show chkO ⟨k, a, h, c, d, b, f⟩ = 0 by rw [hc]; rw [if_neg (fun q => q.elim (fun q => h1 q.2) (fun q => k8 q.1)), if_neg (fun q => k8 q.1)])
            clear hc u k8 k9 k11 h1
            go_enter Tryz.func64, Tryz.ntmps64
            go_wp2_with (go_at_call 94; refine (HF.out _).mono ?_; rintro e w' ⟨rfl, dW, rfl⟩)
            go_ret
            exact ⟨by rw [HC.out]; rfl, (by repeat (first | exact Xt.Nw.refl _ | refine Xt.Nw.drew ?_ | refine Xt.Nw.drewN ?_ _ | refine Xt.Nw.alloc ?_ _ | refine Xt.Nw.joined ?_ | refine Xt.Nw.drewd ?_ | refine Xt.Nw.drewdN ?_ | refine Xt.Nw.ext ?_ | refine Xt.Nw.ext_some ?_ (by assumption) | refine Xt.Nw.setCell ?_ (by simp [go_sem] <;> omega) _))⟩
        · have u : uH k = false := by simp [uH, k8, k9, k11]
          have g11 : (k == 11) = false := by simpa using k11
          have HC := Lib.hid (show chkO ⟨k, a, h, c, d, b, f⟩ = 0 by rw [hc]; rw [if_neg (fun q => q.elim (fun q => by rw [u] at q; cases q.1) (fun q => k8 q.1)), if_neg (fun q => k8 q.1)])
          clear hc u k8 k9 k11
          go_enter Tryz.func64, Tryz.ntmps64
          go_wp2_with (go_at_call 94; refine (HF.out _).mono ?_; rintro e w' ⟨rfl, dW, rfl⟩)
          go_ret
          exact ⟨by rw [HC.out]; rfl, (by repeat (first | exact Xt.Nw.refl _ | refine Xt.Nw.drew ?_ | refine Xt.Nw.drewN ?_ _ | refine Xt.Nw.alloc ?_ _ | refine Xt.Nw.joined ?_ | refine Xt.Nw.drewd ?_ | refine Xt.Nw.drewdN ?_ | refine Xt.Nw.ext ?_ | refine Xt.Nw.ext_some ?_ (by assumption) | refine Xt.Nw.setCell ?_ (by simp [go_sem] <;> omega) _))⟩
end Go.Proofs.YtahagplegmcaaaaGreatDoor
