import Derived.Test.YtnldlkkmjabenaaDoorTf
import Derived.Deep.RegionHeld3
namespace Go.Proofs.YtnldlkkmjabenaaDoor
open Go.RowKit Go.Xt
/-! The reference's Op. -/
theorem rjoin_b (s : ByteArray) (A : Option Addr) (n c : Nat) (l : List Nat) (w : World) (hn : n ≤ 1000) (hb : s.size ≤ 1000000000) (hl : ∀ x ∈ l, x < 18446744073709551616) (hr : Rd w 1 A n (nums l)) :
    Calls Tryd.prog 22 #[.string s, .slice A n c] w fun e w' => e = .returned (.string ⟨(jn s.data.toList l).toArray⟩) ∧ Nw w w' := by
  have h := rjoin_any s.data.toList A n c l w hn (by rw [data_len]; exact hb) hl hr
  rwa [← ba_eq s] at h
theorem op_size (ds : ByteArray) (h : ds.size ≤ 20) : ((⟨#[111, 112, 32]⟩ : ByteArray) ++ ds).size ≤ 1000000000 := by
  rw [ByteArray.size_append]; have h3 : (⟨#[111, 112, 32]⟩ : ByteArray).size = 3 := rfl
  omega
set_option maxHeartbeats 4000000 in
set_option maxRecDepth 20000 in
theorem rop_any (x : Opn) (w : World) (hx : WfO x) :
    Calls Tryd.prog 10 #[ov x] w fun e w' => e = .returned (.string ⟨(lineO x).toArray⟩) ∧ Nw w w' := by
  obtain ⟨W0, hW0⟩ : ∃ W0, W0 = w.alloc (.cells #[.int .u8 x.kd, .int .u64 x.ky, .int .u64 x.hi, .int .u64 x.vl, .int .u64 x.od, .int .u64 x.bt, .int .u64 x.dr] 24) := ⟨_, rfl⟩
  have hN0 : Nw w W0 := by rw [hW0]; exact (by repeat (first | exact Xt.Nw.refl _ | refine Xt.Nw.drew ?_ | refine Xt.Nw.drewN ?_ _ | refine Xt.Nw.alloc ?_ _ | refine Xt.Nw.joined ?_ | refine Xt.Nw.drewd ?_ | refine Xt.Nw.drewdN ?_ | refine Xt.Nw.ext ?_ | refine Xt.Nw.ext_some ?_ (by assumption) | refine Xt.Nw.setCell ?_ (by simp [go_sem] <;> omega) _))
  have hA0 : AtO W0 w.heap.size x := by
    rw [hW0]; exact ⟨by simp, by simp [go_sem], sel_cases ⟨by simp [go_sem, sel], by simp [go_sem, sel], by simp [go_sem, sel], by simp [go_sem, sel], by simp [go_sem, sel], by simp [go_sem, sel]⟩⟩
  have HW0 := Lib.hid hW0
  have HN0 := Lib.hid hN0
  have HA0 := Lib.hid hA0
  have HX := Lib.hid hx
  have HFm := Lib.hid (fun W => rformed_any x W hx)
  have hk := hx.kd
  have b0 : W0.cell? ⟨w.heap.size, 0, none⟩ = some (.int .u8 x.kd) := hA0.2.1
  have b1 : W0.cell? ⟨w.heap.size, 1, none⟩ = some (.int .u64 x.ky) := hA0.2.2 1 (by omega) (by omega)
  have b2 : W0.cell? ⟨w.heap.size, 2, none⟩ = some (.int .u64 x.hi) := hA0.2.2 2 (by omega) (by omega)
  have b3 : W0.cell? ⟨w.heap.size, 3, none⟩ = some (.int .u64 x.vl) := hA0.2.2 3 (by omega) (by omega)
  have b4 : W0.cell? ⟨w.heap.size, 4, none⟩ = some (.int .u64 x.od) := hA0.2.2 4 (by omega) (by omega)
  have b5 : W0.cell? ⟨w.heap.size, 5, none⟩ = some (.int .u64 x.bt) := hA0.2.2 5 (by omega) (by omega)
  have b6 : W0.cell? ⟨w.heap.size, 6, none⟩ = some (.int .u64 x.dr) := hA0.2.2 6 (by omega) (by omega)
  clear hW0 hN0 hA0
  by_cases hp : wordL x.kd = [] ∨ usedO x ≠ x
  · have hf : fmd x = false := by unfold fmd; simp only [hp, not_true_eq_false, decide_false]
    have HL := Lib.hid (show lineO x = jn ([111, 112, 32] ++ Lib.decDigits x.kd.toNat) (fin x) by rw [lineO, if_pos hp, allF, jn_cons]; rfl)
    have hD := (fun W => digits_any x.kd.toNat (by omega) W)
    rw [hf] at HFm
    have h20 := dec_len x.kd.toNat (by omega)
    obtain ⟨ds, hds⟩ : ∃ ds : ByteArray, ds = ⟨(Lib.decDigits x.kd.toNat).toArray⟩ := ⟨_, rfl⟩
    rw [← hds] at hD
    have hsz : ds.size ≤ 20 := by rw [hds]; show (Lib.decDigits x.kd.toNat).toArray.size ≤ 20; simpa using h20
    have hsz2 : ¬ 9223372036854775807 < 3 + ds.size := by omega
    have hsz3 : ¬ 9223372036854775807 < (⟨#[111, 112, 32]⟩ : ByteArray).size + ds.size := hsz2
    have HDS := Lib.hid hds
    have HSZ := Lib.hid hsz
    have HD := Lib.hid hD
    have hkn : ((x.kd.toNat : Nat) : Int) = x.kd := by omega
    rw [hkn] at HD
    clear hD hds h20 hsz
    have hk0 := hk.1
    have hk1 := hk.2
    have hkw : IntKind.u64.wrap x.kd = x.kd := by simp [IntKind.wrap, IntKind.bits, IntKind.signed]; omega
    clear hx hp hf hk
    go_enter Tryd.func10, Tryd.ntmps10
    go_wp2_with (fail)
    rw [← HW0.out]
    refine (HFm.out _).mono ?_
    rintro e W1 ⟨rfl, hn1⟩
    have c0 := cell_nw b0 hn1
    have c1 := cell_nw b1 hn1
    have c2 := cell_nw b2 hn1
    have c3 := cell_nw b3 hn1
    have c4 := cell_nw b4 hn1
    have c5 := cell_nw b5 hn1
    have c6 := cell_nw b6 hn1
    have HN1 := Lib.hid (HN0.out.trans hn1)
    clear hn1 b0 b1 b2 b3 b4 b5 b6
    go_upto_region 2 with (fail)
    go_region_held3 (fun w' => Nw W1 w' ∧ w'.cell? ⟨w.heap.size, 0, none⟩ = some (.int .u8 x.kd) ∧ w'.cell? ⟨w.heap.size, 1, none⟩ = some (.int .u64 x.ky) ∧ w'.cell? ⟨w.heap.size, 2, none⟩ = some (.int .u64 x.hi) ∧ w'.cell? ⟨w.heap.size, 3, none⟩ = some (.int .u64 x.vl) ∧ w'.cell? ⟨w.heap.size, 4, none⟩ = some (.int .u64 x.od) ∧ w'.cell? ⟨w.heap.size, 5, none⟩ = some (.int .u64 x.bt) ∧ w'.cell? ⟨w.heap.size, 6, none⟩ = some (.int .u64 x.dr)) (exact ⟨(by (repeat (first | exact Xt.Nw.refl _ | assumption | (exact (‹Xt.Nw W1 _ ∧ _›).1) | refine Xt.Nw.drew ?_ | refine Xt.Nw.drewN ?_ _ | refine Xt.Nw.alloc ?_ _ | refine Xt.Nw.ext ?_))), cell_nw c0 (by (repeat (first | exact Xt.Nw.refl _ | assumption | (exact (‹Xt.Nw W1 _ ∧ _›).1) | refine Xt.Nw.drew ?_ | refine Xt.Nw.drewN ?_ _ | refine Xt.Nw.alloc ?_ _ | refine Xt.Nw.ext ?_))), cell_nw c1 (by (repeat (first | exact Xt.Nw.refl _ | assumption | (exact (‹Xt.Nw W1 _ ∧ _›).1) | refine Xt.Nw.drew ?_ | refine Xt.Nw.drewN ?_ _ | refine Xt.Nw.alloc ?_ _ | refine Xt.Nw.ext ?_))), cell_nw c2 (by (repeat (first | exact Xt.Nw.refl _ | assumption | (exact (‹Xt.Nw W1 _ ∧ _›).1) | refine Xt.Nw.drew ?_ | refine Xt.Nw.drewN ?_ _ | refine Xt.Nw.alloc ?_ _ | refine Xt.Nw.ext ?_))), cell_nw c3 (by (repeat (first | exact Xt.Nw.refl _ | assumption | (exact (‹Xt.Nw W1 _ ∧ _›).1) | refine Xt.Nw.drew ?_ | refine Xt.Nw.drewN ?_ _ | refine Xt.Nw.alloc ?_ _ | refine Xt.Nw.ext ?_))), cell_nw c4 (by (repeat (first | exact Xt.Nw.refl _ | assumption | (exact (‹Xt.Nw W1 _ ∧ _›).1) | refine Xt.Nw.drew ?_ | refine Xt.Nw.drewN ?_ _ | refine Xt.Nw.alloc ?_ _ | refine Xt.Nw.ext ?_))), cell_nw c5 (by (repeat (first | exact Xt.Nw.refl _ | assumption | (exact (‹Xt.Nw W1 _ ∧ _›).1) | refine Xt.Nw.drew ?_ | refine Xt.Nw.drewN ?_ _ | refine Xt.Nw.alloc ?_ _ | refine Xt.Nw.ext ?_))), cell_nw c6 (by (repeat (first | exact Xt.Nw.refl _ | assumption | (exact (‹Xt.Nw W1 _ ∧ _›).1) | refine Xt.Nw.drew ?_ | refine Xt.Nw.drewN ?_ _ | refine Xt.Nw.alloc ?_ _ | refine Xt.Nw.ext ?_)))⟩)
      ((first
        | (go_at_call 23; refine (HD.out _).mono ?_; rintro e w' ⟨rfl, dW, rfl⟩)
        | (go_at_call 24; refine (rfields_any x _ HX.out).mono ?_; rintro e w' ⟨⟨A, nn, cA, rfl, hr, hnn⟩, dF, rfl⟩)
        | (go_at_call 22; refine (rjoin_b _ A nn cA (fin x) _ (by omega) (op_size _ HSZ.out) (fin_lt HX.out) (by first | exact hr | exact hr.nw (by (repeat (first | exact Xt.Nw.refl _ | assumption | (exact (‹Xt.Nw W1 _ ∧ _›).1) | refine Xt.Nw.drew ?_ | refine Xt.Nw.drewN ?_ _ | refine Xt.Nw.alloc ?_ _ | refine Xt.Nw.ext ?_))))).mono ?_; rintro e w' ⟨rfl, dJ, rfl⟩)))
    all_goals go_wp2
    all_goals go_ret
    all_goals exact ⟨by rw [HL.out, HDS.out]; rfl, HN1.out.trans (by (repeat (first | exact Xt.Nw.refl _ | assumption | (exact (‹Xt.Nw W1 _ ∧ _›).1) | refine Xt.Nw.drew ?_ | refine Xt.Nw.drewN ?_ _ | refine Xt.Nw.alloc ?_ _ | refine Xt.Nw.ext ?_)))⟩
  · have hf : fmd x = true := by unfold fmd; simpa using hp
    have HL := Lib.hid (show lineO x = jn (wordL x.kd) (useF x) by rw [lineO, if_neg hp])
    have hD := (fun W => rword_any x.kd W hk.1 hk.2)
    rw [hf] at HFm
    obtain ⟨ds, hds⟩ : ∃ ds : ByteArray, ds = ⟨(wordL x.kd).toArray⟩ := ⟨_, rfl⟩
    rw [← hds] at hD
    have hsz : ds.size ≤ 20 := by rw [hds]; show (wordL x.kd).toArray.size ≤ 20; have := wordL_len x.kd; simp; omega
    have HDS := Lib.hid hds
    have HSZ := Lib.hid hsz
    have HD := Lib.hid hD
    have hk0 := hk.1
    have hk1 := hk.2
    clear hx hp hf hk hD hds hsz
    go_enter Tryd.func10, Tryd.ntmps10
    go_wp2_with (fail)
    rw [← HW0.out]
    refine (HFm.out _).mono ?_
    rintro e W1 ⟨rfl, hn1⟩
    have c0 := cell_nw b0 hn1
    have c1 := cell_nw b1 hn1
    have c2 := cell_nw b2 hn1
    have c3 := cell_nw b3 hn1
    have c4 := cell_nw b4 hn1
    have c5 := cell_nw b5 hn1
    have c6 := cell_nw b6 hn1
    have HN1 := Lib.hid (HN0.out.trans hn1)
    clear hn1 b0 b1 b2 b3 b4 b5 b6
    go_upto_region 3 with (fail)
    go_region_held3 (fun w' => Nw W1 w' ∧ w'.cell? ⟨w.heap.size, 0, none⟩ = some (.int .u8 x.kd) ∧ w'.cell? ⟨w.heap.size, 1, none⟩ = some (.int .u64 x.ky) ∧ w'.cell? ⟨w.heap.size, 2, none⟩ = some (.int .u64 x.hi) ∧ w'.cell? ⟨w.heap.size, 3, none⟩ = some (.int .u64 x.vl) ∧ w'.cell? ⟨w.heap.size, 4, none⟩ = some (.int .u64 x.od) ∧ w'.cell? ⟨w.heap.size, 5, none⟩ = some (.int .u64 x.bt) ∧ w'.cell? ⟨w.heap.size, 6, none⟩ = some (.int .u64 x.dr)) (exact ⟨(by (repeat (first | exact Xt.Nw.refl _ | assumption | (exact (‹Xt.Nw W1 _ ∧ _›).1) | refine Xt.Nw.drew ?_ | refine Xt.Nw.drewN ?_ _ | refine Xt.Nw.alloc ?_ _ | refine Xt.Nw.ext ?_))), cell_nw c0 (by (repeat (first | exact Xt.Nw.refl _ | assumption | (exact (‹Xt.Nw W1 _ ∧ _›).1) | refine Xt.Nw.drew ?_ | refine Xt.Nw.drewN ?_ _ | refine Xt.Nw.alloc ?_ _ | refine Xt.Nw.ext ?_))), cell_nw c1 (by (repeat (first | exact Xt.Nw.refl _ | assumption | (exact (‹Xt.Nw W1 _ ∧ _›).1) | refine Xt.Nw.drew ?_ | refine Xt.Nw.drewN ?_ _ | refine Xt.Nw.alloc ?_ _ | refine Xt.Nw.ext ?_))), cell_nw c2 (by (repeat (first | exact Xt.Nw.refl _ | assumption | (exact (‹Xt.Nw W1 _ ∧ _›).1) | refine Xt.Nw.drew ?_ | refine Xt.Nw.drewN ?_ _ | refine Xt.Nw.alloc ?_ _ | refine Xt.Nw.ext ?_))), cell_nw c3 (by (repeat (first | exact Xt.Nw.refl _ | assumption | (exact (‹Xt.Nw W1 _ ∧ _›).1) | refine Xt.Nw.drew ?_ | refine Xt.Nw.drewN ?_ _ | refine Xt.Nw.alloc ?_ _ | refine Xt.Nw.ext ?_))), cell_nw c4 (by (repeat (first | exact Xt.Nw.refl _ | assumption | (exact (‹Xt.Nw W1 _ ∧ _›).1) | refine Xt.Nw.drew ?_ | refine Xt.Nw.drewN ?_ _ | refine Xt.Nw.alloc ?_ _ | refine Xt.Nw.ext ?_))), cell_nw c5 (by (repeat (first | exact Xt.Nw.refl _ | assumption | (exact (‹Xt.Nw W1 _ ∧ _›).1) | refine Xt.Nw.drew ?_ | refine Xt.Nw.drewN ?_ _ | refine Xt.Nw.alloc ?_ _ | refine Xt.Nw.ext ?_))), cell_nw c6 (by (repeat (first | exact Xt.Nw.refl _ | assumption | (exact (‹Xt.Nw W1 _ ∧ _›).1) | refine Xt.Nw.drew ?_ | refine Xt.Nw.drewN ?_ _ | refine Xt.Nw.alloc ?_ _ | refine Xt.Nw.ext ?_)))⟩)
      ((first
        | (go_at_call 20; refine (HD.out _).mono ?_; rintro e w' ⟨rfl, dW, rfl⟩)
        | (go_at_call 25; refine (rorder_any x _ HX.out).mono ?_; rintro e w' ⟨⟨A, nn, cA, rfl, hr, hnn⟩, dF, rfl⟩)
        | (go_at_call 22; refine (rjoin_b _ A nn cA (useF x) _ (by omega) (by have := HSZ.out; omega) (useF_lt HX.out) (by first | exact hr | exact hr.nw (by (repeat (first | exact Xt.Nw.refl _ | assumption | (exact (‹Xt.Nw W1 _ ∧ _›).1) | refine Xt.Nw.drew ?_ | refine Xt.Nw.drewN ?_ _ | refine Xt.Nw.alloc ?_ _ | refine Xt.Nw.ext ?_))))).mono ?_; rintro e w' ⟨rfl, dJ, rfl⟩)))
    all_goals go_wp2
    all_goals go_ret
    all_goals exact ⟨by rw [HL.out, HDS.out]; rfl, HN1.out.trans (by (repeat (first | exact Xt.Nw.refl _ | assumption | (exact (‹Xt.Nw W1 _ ∧ _›).1) | refine Xt.Nw.drew ?_ | refine Xt.Nw.drewN ?_ _ | refine Xt.Nw.alloc ?_ _ | refine Xt.Nw.ext ?_)))⟩
end Go.Proofs.YtnldlkkmjabenaaDoor
