import Derived.Test.YtnldlkkmjabenaaDoorTe
namespace Go.Proofs.YtnldlkkmjabenaaDoor
open Go.RowKit Go.Xt
/-! The reference's join, Mask, Formed, Op. -/
set_option maxHeartbeats 1000000 in
theorem rjoin_any (b : List UInt8) (A : Option Addr) (n c : Nat) (l : List Nat) (w : World) (hn : n ≤ 1000) (hb : b.length ≤ 1000000000) (hl : ∀ x ∈ l, x < 18446744073709551616) (hr : Rd w 1 A n (nums l)) :
    Calls Tryd.prog 22 #[.string ⟨b.toArray⟩, .slice A n c] w fun e w' => e = .returned (.string ⟨(jn b l).toArray⟩) ∧ Nw w w' := by
  have hln : l.length = n := by simpa [nums] using hr.1
  have HR := Lib.hid hr
  clear hr
  go_enter Tryd.func22, Tryd.ntmps22
  go_wp2
  go_loopw [0, 5] (fun s i wr => ∃ (k : Nat) (bs : List UInt8), k ≤ n ∧ s = .string ⟨bs.toArray⟩ ∧ i = .int .i64 k ∧ bs = jn b (l.take k) ∧ bs.length ≤ b.length + 21 * k ∧ Nw w wr) (fun _ i _ => n - (intOf i).toNat)
  case atStart => exact ⟨0, b, by omega, rfl, rfl, by simp [jn], by omega, Nw.refl _⟩
  case round =>
    obtain ⟨k, bs, hk, rfl, rfl, hbs, hlen, d, rfl⟩ := hrel
    have HB := Lib.hid hbs
    clear hbs
    by_cases hlt : k < n
    · obtain ⟨g, o, rfl, hg, hc⟩ := HR.out.2 (by omega)
      obtain ⟨x, hx⟩ : ∃ x, l[k]? = some x := ⟨l[k]'(by omega), List.getElem?_eq_getElem (by omega)⟩
      have hcx : w.cell? ⟨g, o + k, none⟩ = some (.int .u64 (x : Int)) := hc k _ (by simp [nums, hx])
      have hx64 : x < 18446744073709551616 := hl x (List.mem_of_getElem? hx)
      have HX := Lib.hid hx
      have hx20 := dec_len x hx64
      haveI : In g w := ⟨hg⟩
      clear hc hx
      go_wp2_with (go_at_call 23; refine (digits_any x hx64 _).mono ?_; rintro e w' ⟨rfl, dW, rfl⟩)
      all_goals first | (exfalso; omega) | skip
      refine ⟨⟨k + 1, bs ++ (32 :: Lib.decDigits x), by omega, ret_s _ _ (by rw [ba_app, ba_app]; simp), by go_num, ?_, by simp; omega, (by repeat (first | exact Xt.Nw.refl _ | refine Xt.Nw.drew ?_ | refine Xt.Nw.drewN ?_ _ | refine Xt.Nw.alloc ?_ _ | refine Xt.Nw.joined ?_ | refine Xt.Nw.drewd ?_ | refine Xt.Nw.drewdN ?_ | refine Xt.Nw.ext ?_ | refine Xt.Nw.ext_some ?_ (by assumption) | refine Xt.Nw.setCell ?_ (by simp [go_sem] <;> omega) _))⟩, by simp [intOf]; omega⟩
      obtain ⟨p1, q1⟩ := List.getElem?_eq_some_iff.1 HX.out
      rw [List.take_succ_eq_append_getElem p1, q1, HB.out]
      simp [jn]
    · go_wp2
      go_ret
      refine ⟨ret_eq (ret_s _ _ ?_), (by repeat (first | exact Xt.Nw.refl _ | refine Xt.Nw.drew ?_ | refine Xt.Nw.drewN ?_ _ | refine Xt.Nw.alloc ?_ _ | refine Xt.Nw.joined ?_ | refine Xt.Nw.drewd ?_ | refine Xt.Nw.drewdN ?_ | refine Xt.Nw.ext ?_ | refine Xt.Nw.ext_some ?_ (by assumption) | refine Xt.Nw.setCell ?_ (by simp [go_sem] <;> omega) _))⟩
      rw [HB.out, List.take_of_length_le (by omega)]
/-- Which of the fields are not 0. -/
def msk : Nat → List Nat → Nat
  | _, [] => 0
  | i, a :: r => (if a = 0 then 0 else 2 ^ i) + msk (i + 1) r
theorem msk_snoc (a : Nat) : ∀ (l : List Nat) (i : Nat), msk i (l ++ [a]) = msk i l + if a = 0 then 0 else 2 ^ (i + l.length)
  | [], i => by simp [msk]
  | b :: r, i => by
    rw [List.cons_append, msk, msk, msk_snoc a r (i + 1), List.length_cons, show i + (r.length + 1) = i + 1 + r.length by omega]; omega
theorem msk_le : ∀ (l : List Nat) (i : Nat), msk i l + 2 ^ i ≤ 2 ^ (i + l.length)
  | [], i => by simp [msk]
  | b :: r, i => by
    have h := msk_le r (i + 1)
    rw [msk, List.length_cons, show i + (r.length + 1) = i + 1 + r.length by omega]
    have h2 : 2 ^ (i + 1) = 2 ^ i + 2 ^ i := by rw [Nat.pow_succ]; omega
    rw [h2] at h
    generalize 2 ^ i = q at *
    split <;> omega
set_option maxHeartbeats 4000000 in
set_option maxRecDepth 20000 in
theorem rmask_any (x : Opn) (w : World) (hx : WfO x) :
    Calls Tryd.prog 30 #[ov x] w fun e w' => e = .returned (.int .i64 (msk 0 (fin x) : Nat)) ∧ Nw w w' := by
  obtain ⟨l, hl⟩ : ∃ l, fin x = l := ⟨_, rfl⟩
  rw [hl]
  go_enter Tryd.func30, Tryd.ntmps30
  go_wp2_with (go_at_call 24; refine (rfields_any x _ hx).mono ?_; rintro e W3 ⟨⟨A, nn, cA, rfl, hr, -⟩, hn3⟩)
  have hnn : nn = 6 := by have := hr.1; simp [nums, fin] at this; omega
  subst hnn
  have hn13 : Nw w W3 := Nw.trans ((by repeat (first | exact Xt.Nw.refl _ | refine Xt.Nw.drew ?_ | refine Xt.Nw.drewN ?_ _ | refine Xt.Nw.alloc ?_ _ | refine Xt.Nw.joined ?_ | refine Xt.Nw.drewd ?_ | refine Xt.Nw.drewdN ?_ | refine Xt.Nw.ext ?_ | refine Xt.Nw.ext_some ?_ (by assumption) | refine Xt.Nw.setCell ?_ (by simp [go_sem] <;> omega) _))) hn3
  have hl6 : l.length = 6 := by rw [← hl]; rfl
  have hb : ∀ k, k ≤ 6 → msk 0 (l.take k) < 64 := by
    intro k hk
    have h := msk_le (l.take k) 0
    have h2 : 2 ^ (0 + (l.take k).length) ≤ 2 ^ 6 := Nat.pow_le_pow_right (by omega) (by simp; omega)
    omega
  have HB := Lib.hid hb
  have HN := Lib.hid hn13
  have HL := Lib.hid hl
  rw [hl] at hr
  have HR := Lib.hid hr
  clear hr hn3 hn13 hb hl
  go_loopw [3, 5] (fun s i wr => ∃ (k m : Nat), k ≤ 6 ∧ s = .int .i64 (m : Int) ∧ i = .int .i64 k ∧ Hid (m = msk 0 (l.take k)) ∧ Nw W3 wr) (fun _ i _ => 6 - (intOf i).toNat)
  case atStart => exact ⟨0, 0, by omega, rfl, rfl, rfl, Nw.refl _⟩
  case round =>
    obtain ⟨k, m, hk, rfl, rfl, hm, hwr⟩ := hrel
    have hm64 : m < 64 := by rw [hm.out]; exact HB.out k hk
    by_cases hlt : k < 6
    · obtain ⟨g, o, rfl, hg, hc⟩ := (HR.out.nw hwr).2 (by omega)
      obtain ⟨x, hx⟩ : ∃ x, l[k]? = some x := ⟨l[k]'(by omega), List.getElem?_eq_getElem (by omega)⟩
      have hcx : wr.cell? ⟨g, o + k, none⟩ = some (.int .u64 (x : Int)) := hc k _ (by simp [nums, hx])
      have htk : l.take (k + 1) = l.take k ++ [x] := by
        obtain ⟨p1, q1⟩ := List.getElem?_eq_some_iff.1 hx
        rw [List.take_succ_eq_append_getElem p1, q1]
      have hnx : msk 0 (l.take (k + 1)) = m + if x = 0 then 0 else 2 ^ k := by
        rw [htk, msk_snoc, hm.out, List.length_take]
        congr 3; omega
      have HX := Lib.hid hnx
      have HWR := Lib.hid hwr
      haveI : In g wr := ⟨hg⟩
      clear hc hx htk hnx hwr hm
      by_cases h0 : x = 0
      · have f1 : ((x : Int) == 0) = true := by simp [h0]
        go_wp2
        exact ⟨⟨k + 1, m, by omega, rfl, by go_num, by rw [HX.out, if_pos h0]; rfl, HWR.out⟩, by simp [intOf]; omega⟩
      · have f1 : ((x : Int) == 0) = false := by simp [h0]
        have hpos : 2 ^ k < 64 := Nat.pow_lt_pow_right (n := 6) (by omega) hlt
        rcases (by omega : k = 0 ∨ k = 1 ∨ k = 2 ∨ k = 3 ∨ k = 4 ∨ k = 5) with hk0 | rfl | rfl | rfl | rfl | rfl
        · have hkI : (k : Int) = 0 := by omega
          have hc0 : wr.cell? ⟨g, o, none⟩ = some (.int .u64 (x : Int)) := by rw [hk0] at hcx; exact hcx
          have HK := Lib.hid hk0
          clear hk0 hcx
          go_wp2
          exact ⟨⟨1, m + 1, by omega, by go_num, by go_num, (by have h := HX.out; rw [if_neg h0, HK.out] at h; exact h.symm : m + 1 = _), HWR.out⟩, by simp [intOf, HK.out]⟩
        all_goals
          go_wp2
        all_goals first | (exfalso; omega) | skip
        · exact ⟨⟨1 + 1, m + 2, by omega, by go_num, by go_num, (by rw [HX.out, if_neg h0] : m + 2 = _), HWR.out⟩, by simp [intOf]⟩
        · exact ⟨⟨2 + 1, m + 4, by omega, by go_num, by go_num, (by rw [HX.out, if_neg h0] : m + 4 = _), HWR.out⟩, by simp [intOf]⟩
        · exact ⟨⟨3 + 1, m + 8, by omega, by go_num, by go_num, (by rw [HX.out, if_neg h0] : m + 8 = _), HWR.out⟩, by simp [intOf]⟩
        · exact ⟨⟨4 + 1, m + 16, by omega, by go_num, by go_num, (by rw [HX.out, if_neg h0] : m + 16 = _), HWR.out⟩, by simp [intOf]⟩
        · exact ⟨⟨5 + 1, m + 32, by omega, by go_num, by go_num, (by rw [HX.out, if_neg h0] : m + 32 = _), HWR.out⟩, by simp [intOf]⟩
    · obtain rfl : k = 6 := by omega
      go_wp2
      go_ret
      exact ⟨by rw [hm.out, List.take_of_length_le (by omega)]; rfl, HN.out.trans hwr⟩
/-- The mask of a list of marks. -/
def mskB : Nat → List Bool → Nat
  | _, [] => 0
  | i, b :: r => (if b then 2 ^ i else 0) + mskB (i + 1) r
theorem msk_B : ∀ (l : List Nat) (i : Nat), msk i l = mskB i (l.map fun a => decide (a ≠ 0))
  | [], _ => rfl
  | a :: r, i => by
    rw [msk, List.map_cons, mskB, msk_B r (i + 1)]
    by_cases h : a = 0 <;> simp [h]
/-- The fields that are marked are among those. -/
def okB (l : List Nat) (b1 b2 b3 b4 b5 b6 : Bool) : Bool := (decide (1 ∈ l) || !b1) && (decide (2 ∈ l) || !b2) && (decide (3 ∈ l) || !b3) && (decide (4 ∈ l) || !b4) && (decide (5 ∈ l) || !b5) && (decide (6 ∈ l) || !b6)
theorem bits_ok : ∀ b1 b2 b3 b4 b5 b6 : Bool, ∀ k ∈ ([1, 2, 3, 4, 5, 6, 7, 8, 9, 10, 11, 12, 13, 14, 15] : List Int), (bits .andNot .i64 ((mskB 0 [b1, b2, b3, b4, b5, b6] : Nat) : Int) (usesI k) == 0) = okB (offs k) b1 b2 b3 b4 b5 b6 := by decide +kernel
theorem used_iff {x : Opn} (hx : WfO x) : okB (offs x.kd) (decide (x.ky.toNat ≠ 0)) (decide (x.hi.toNat ≠ 0)) (decide (x.vl.toNat ≠ 0)) (decide (x.od.toNat ≠ 0)) (decide (x.bt.toNat ≠ 0)) (decide (x.dr.toNat ≠ 0)) = decide (usedO x = x) := by
  have h1 := hx.ky; have h2 := hx.hi; have h3 := hx.vl; have h4 := hx.od; have h5 := hx.bt; have h6 := hx.dr
  rw [Bool.eq_iff_iff, decide_eq_true_iff, opn_eq]
  have hf : ∀ (p : Prop) [Decidable p] (z : Int), 0 ≤ z → ((decide p || !decide (z.toNat ≠ 0)) = true ↔ (if p then z else 0) = z) := by
    intro p _ z hz
    by_cases hp : p
    · simp [hp]
    · simp [hp]; omega
  simp only [okB, Bool.and_eq_true]
  rw [hf _ _ h1.1, hf _ _ h2.1, hf _ _ h3.1, hf _ _ h4.1, hf _ _ h5.1, hf _ _ h6.1]
  simp only [usedO, partO, true_and, and_assoc]
theorem mask_ok {x : Opn} (hx : WfO x) (hk : 1 ≤ x.kd ∧ x.kd ≤ 15) : (bits .andNot .i64 ((msk 0 (fin x) : Nat) : Int) (usesI x.kd) == 0) = decide (usedO x = x) := by
  rw [msk_B, ← used_iff hx]
  refine bits_ok _ _ _ _ _ _ x.kd ?_
  have : x.kd = 1 ∨ x.kd = 2 ∨ x.kd = 3 ∨ x.kd = 4 ∨ x.kd = 5 ∨ x.kd = 6 ∨ x.kd = 7 ∨ x.kd = 8 ∨ x.kd = 9 ∨ x.kd = 10 ∨ x.kd = 11 ∨ x.kd = 12 ∨ x.kd = 13 ∨ x.kd = 14 ∨ x.kd = 15 := by omega
  simpa using this
def fmd (x : Opn) : Bool := decide (¬ (wordL x.kd = [] ∨ usedO x ≠ x))
theorem fmd_in {x : Opn} (hk : 1 ≤ x.kd ∧ x.kd ≤ 15) : fmd x = decide (usedO x = x) := by
  have h := (kinds_word x.kd (by omega)).2.1
  unfold fmd; simp [h]
theorem fmd_out {x : Opn} (hx : WfO x) (hk : ¬ (1 ≤ x.kd ∧ x.kd ≤ 15)) : fmd x = false := by
  have h := wordL_none hx.kd.1 (by have := hx.kd; omega)
  unfold fmd; simp [h]
set_option maxHeartbeats 4000000 in
set_option maxRecDepth 20000 in
theorem rformed_any (x : Opn) (w : World) (hx : WfO x) :
    Calls Tryd.prog 21 #[ov x] w fun e w' => e = .returned (.bool (fmd x)) ∧ Nw w w' := by
  have HX := Lib.hid hx
  have HM := Lib.hid (fun W => rmask_any x W hx)
  have HU := Lib.hid (fun W => ruses_any x.kd W)
  by_cases h1 : 1 ≤ x.kd
  · have d1 : decide ((1 : Int) ≤ x.kd) = true := by simpa using h1
    by_cases h2 : x.kd ≤ 15
    · have d2 : decide (x.kd ≤ (15 : Int)) = true := by simpa using h2
      have hd := mask_ok hx ⟨h1, h2⟩
      rw [← fmd_in ⟨h1, h2⟩] at hd
      obtain ⟨m, hm⟩ : ∃ m : Int, m = ((msk 0 (fin x) : Nat) : Int) := ⟨_, rfl⟩
      obtain ⟨u, hu⟩ : ∃ u : Int, u = usesI x.kd := ⟨_, rfl⟩
      rw [← hm, ← hu] at hd
      rw [← hm] at HM
      rw [← hu] at HU
      clear hx hm hu
      go_enter Tryd.func21, Tryd.ntmps21
      go_wp2_with fail
      (refine wp_region_nw (by kernel_rfl) (by kernel_rfl) ?_; (repeat (go_big_quiet_step (first | (go_at_call 30; exact quiet_of (HM.out _)) | (go_at_call 31; exact quiet_of (HU.out _))))); refine wpQuiet_nil ?_; intro _ hreg; obtain ⟨dW, rfl⟩ : Nw _ _ := hreg)
      go_wp2
      go_ret
      exact ⟨rfl, (by repeat (first | exact Xt.Nw.refl _ | refine Xt.Nw.drew ?_ | refine Xt.Nw.drewN ?_ _ | refine Xt.Nw.alloc ?_ _ | refine Xt.Nw.joined ?_ | refine Xt.Nw.drewd ?_ | refine Xt.Nw.drewdN ?_ | refine Xt.Nw.ext ?_ | refine Xt.Nw.ext_some ?_ (by assumption) | refine Xt.Nw.setCell ?_ (by simp [go_sem] <;> omega) _))⟩
    · have d2 : decide (x.kd ≤ (15 : Int)) = false := by simpa using h2
      have hf := Lib.hid (fmd_out hx (by omega))
      clear hx
      go_enter Tryd.func21, Tryd.ntmps21
      go_wp2_with fail
      (refine wp_region_nw (by kernel_rfl) (by kernel_rfl) ?_; (repeat (go_big_quiet_step (fail))); refine wpQuiet_nil ?_; intro _ hreg; obtain ⟨dW, rfl⟩ : Nw _ _ := hreg)
      go_wp2
      go_ret
      exact ⟨by rw [hf.out]; rfl, (by repeat (first | exact Xt.Nw.refl _ | refine Xt.Nw.drew ?_ | refine Xt.Nw.drewN ?_ _ | refine Xt.Nw.alloc ?_ _ | refine Xt.Nw.joined ?_ | refine Xt.Nw.drewd ?_ | refine Xt.Nw.drewdN ?_ | refine Xt.Nw.ext ?_ | refine Xt.Nw.ext_some ?_ (by assumption) | refine Xt.Nw.setCell ?_ (by simp [go_sem] <;> omega) _))⟩
  · have d1 : decide ((1 : Int) ≤ x.kd) = false := by simpa using h1
    have hf := Lib.hid (fmd_out hx (by omega))
    clear hx
    go_enter Tryd.func21, Tryd.ntmps21
    go_wp2_with fail
    (refine wp_region_nw (by kernel_rfl) (by kernel_rfl) ?_; (repeat (go_big_quiet_step (fail))); refine wpQuiet_nil ?_; intro _ hreg; obtain ⟨dW, rfl⟩ : Nw _ _ := hreg)
    go_wp2
    go_ret
    exact ⟨by rw [hf.out]; rfl, (by repeat (first | exact Xt.Nw.refl _ | refine Xt.Nw.drew ?_ | refine Xt.Nw.drewN ?_ _ | refine Xt.Nw.alloc ?_ _ | refine Xt.Nw.joined ?_ | refine Xt.Nw.drewd ?_ | refine Xt.Nw.drewdN ?_ | refine Xt.Nw.ext ?_ | refine Xt.Nw.ext_some ?_ (by assumption) | refine Xt.Nw.setCell ?_ (by simp [go_sem] <;> omega) _))⟩
theorem jn_cons (b : List UInt8) (n : Nat) (l : List Nat) : jn b (n :: l) = jn (b ++ (32 :: Lib.decDigits n)) l := rfl
end Go.Proofs.YtnldlkkmjabenaaDoor
