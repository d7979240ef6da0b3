import Derived.Test.YtjpgechcfkhoaaaFj0
namespace Go.Proofs.Ytjpgechcfkhoaaa
open Go.RowKit Go.Xt
/-- The worlds in which the results are overwritten. -/
structure Ov (W1 W : World) (Aa : Option Addr) (na : Nat) (Ap : Option Addr) (np : Nat) (Ax : Option Addr) (nx : Nat) (Ac : Option Addr) (nc : Nat) : Prop where
  nw : Nw W1 W
  a : Rm W1.heap.size W Aa na (na * 18)
  p : Rm W1.heap.size W Ap np (np * 18)
  x : Rm W1.heap.size W Ax nx nx
  c : Rm W1.heap.size W Ac nc nc
theorem Ov.set {W1 W : World} {Aa Ap Ax Ac : Option Addr} {na np nx nc : Nat} (h : Ov W1 W Aa na Ap np Ax nx Ac nc) {b : Nat} (hb : W1.heap.size ≤ b) (o : Nat) (vs : List Value) : Ov W1 (W.setCells b o vs) Aa na Ap np Ax nx Ac nc :=
  ⟨Nw.cells h.nw hb o vs, h.a.set b o vs, h.p.set b o vs, h.x.set b o vs, h.c.set b o vs⟩
set_option maxRecDepth 20000 in
set_option maxHeartbeats 8000000 in
theorem hmatches_any (A : Option Addr) (n c : Nat) (l : List Cl) (t s : Int) (w : World) (hnc : n ≤ c) (hc : c ≤ 9223372036854775807) (hl : Cs w A n l) (hw : ∀ y ∈ l, WfC y) :
    Calls Try.prog 3 #[.slice A n c, .int .i64 t, .int .i64 s] w fun e w' => e = .returned (.bool true) ∧ Nw w w' := by
  obtain ⟨L, hL⟩ : ∃ L, l.take 40 = L := ⟨_, rfl⟩
  obtain ⟨n1, hn1⟩ : ∃ n1, L.length = n1 := ⟨_, rfl⟩
  have hn40 : n1 ≤ 40 := by rw [← hn1, ← hL]; exact few_len l
  have hwL : ∀ y ∈ L, WfC y := by rw [← hL]; exact few_wf hw
  obtain ⟨p0, q0, hpq⟩ : ∃ p0 q0, chkV L = .tuple #[.int .i64 p0, .int .i64 q0] := by
    rcases chk_cases L with ⟨_, h⟩ | ⟨i, _, h⟩
    · exact ⟨_, _, h⟩
    · exact ⟨_, _, h⟩
  obtain ⟨na, hna⟩ : ∃ na, (ofT t L).length = na := ⟨_, rfl⟩
  have hna40 : na ≤ 40 := by have := ofT_len t L; omega
  obtain ⟨nx, hnx⟩ : ∃ nx, (pendK L n1).length = nx := ⟨_, rfl⟩
  have hnx40 : nx ≤ 40 := by have := pendK_le L n1; omega
  obtain ⟨np, hnp⟩ : ∃ np, (preW s L).length = np := ⟨_, rfl⟩
  have hnp40 : np ≤ 40 := by have := preW_len s L; omega
  obtain ⟨pe, hpe⟩ : ∃ pe, preE s L = pe := ⟨_, rfl⟩
  have HL := Lib.hid hl
  have HWL := Lib.hid hwL
  have HN1 := Lib.hid hn1
  have HL1 := Lib.hid hL
  have hpq := Lib.hid hpq
  have HNA := Lib.hid hna
  have HNX := Lib.hid hnx
  have HNP := Lib.hid hnp
  have HPE := Lib.hid hpe
  clear hl hw hwL hn1 hL hna hnx hnp hpe
  go_enter Try.func3, Try.ntmps3
  go_wp2_with fail
  refine (few_cs _ hnc hc HL1.out HN1.out HL.out).mono ?_
  rintro e W1 ⟨A1, c1, rfl, h1, hn1⟩
  have HW1 := Lib.hid hn1
  have H1 := Lib.hid h1
  have HP0 := Lib.hid (HL.out.nw hn1)
  clear h1 hn1 HL
  go_wp2_with fail
  go_loopw [8] (fun a wr => ∃ R : Nat, R ≤ 2 ∧ a = .int .i64 R ∧ Nw W1 wr) (fun a _ => 2 - (intOf a).toNat)
  case atStart => exact ⟨0, by omega, rfl, Nw.refl _⟩
  case round =>
    obtain ⟨R, hR, rfl, d, rfl⟩ := hrel
    by_cases hRlt : R < 2
    · have hR2 : (R : Int) < 2 := by omega
      go_wp2_with fail
      refine (check_any A1 n1 c1 L _ (by omega) H1.out.2.1 H1.out.2.2.1 (H1.out.1.nw ((by repeat (first | exact Xt.Nw.refl _ | refine Xt.Nw.drew ?_ | refine Xt.Nw.drewN ?_ _ | refine Xt.Nw.alloc ?_ _ | refine Xt.Nw.joined ?_ | refine Xt.Nw.drewd ?_ | refine Xt.Nw.drewdN ?_ | refine Xt.Nw.ext ?_ | refine Xt.Nw.ext_some ?_ (by assumption) | refine Xt.Nw.setCell ?_ (by simp [go_sem] <;> omega) _)))) HWL.out).mono ?_
      rw [hpq.out]
      rintro e w' ⟨rfl, dW, rfl⟩
      go_wp2_with fail
      refine (few_cs _ hnc hc HL1.out HN1.out (HP0.out.nw ((by repeat (first | exact Xt.Nw.refl _ | refine Xt.Nw.drew ?_ | refine Xt.Nw.drewN ?_ _ | refine Xt.Nw.alloc ?_ _ | refine Xt.Nw.joined ?_ | refine Xt.Nw.drewd ?_ | refine Xt.Nw.drewdN ?_ | refine Xt.Nw.ext ?_ | refine Xt.Nw.ext_some ?_ (by assumption) | refine Xt.Nw.setCell ?_ (by simp [go_sem] <;> omega) _))))).mono ?_
      rintro e w' ⟨A2, c2, rfl, h2, dW, rfl⟩
      have H2 := Lib.hid h2.1
      clear h2
      go_wp2_with fail
      refine (rcheck_any A2 n1 c2 L _ (by omega) (H2.out.nw ((by repeat (first | exact Xt.Nw.refl _ | refine Xt.Nw.drew ?_ | refine Xt.Nw.drewN ?_ _ | refine Xt.Nw.alloc ?_ _ | refine Xt.Nw.joined ?_ | refine Xt.Nw.drewd ?_ | refine Xt.Nw.drewdN ?_ | refine Xt.Nw.ext ?_ | refine Xt.Nw.ext_some ?_ (by assumption) | refine Xt.Nw.setCell ?_ (by simp [go_sem] <;> omega) _)))) HWL.out).mono ?_
      rw [hpq.out]
      rintro e w' ⟨rfl, dW, rfl⟩
      go_wp2_with fail
      refine (of_all t A1 n1 c1 L _ (by omega) (H1.out.1.nw ((by repeat (first | exact Xt.Nw.refl _ | refine Xt.Nw.drew ?_ | refine Xt.Nw.drewN ?_ _ | refine Xt.Nw.alloc ?_ _ | refine Xt.Nw.joined ?_ | refine Xt.Nw.drewd ?_ | refine Xt.Nw.drewdN ?_ | refine Xt.Nw.ext ?_ | refine Xt.Nw.ext_some ?_ (by assumption) | refine Xt.Nw.setCell ?_ (by simp [go_sem] <;> omega) _))))).mono ?_
      rintro e w' ⟨v, rfl, hown, dW, rfl⟩
      obtain ⟨Aa, ca, rfl, ha, ra⟩ := hown.rm HNA.out
      have HA := Lib.hid ha
      have RA := Lib.hid (ra.mono (base' := W1.heap.size) (Nw.grown ((by repeat (first | exact Xt.Nw.refl _ | refine Xt.Nw.drew ?_ | refine Xt.Nw.drewN ?_ _ | refine Xt.Nw.alloc ?_ _ | refine Xt.Nw.joined ?_ | refine Xt.Nw.drewd ?_ | refine Xt.Nw.drewdN ?_ | refine Xt.Nw.ext ?_ | refine Xt.Nw.ext_some ?_ (by assumption) | refine Xt.Nw.setCell ?_ (by simp [go_sem] <;> omega) _)))).size)
      clear hown ha ra
      go_wp2_with fail
      refine (few_cs _ hnc hc HL1.out HN1.out (HP0.out.nw ((by repeat (first | exact Xt.Nw.refl _ | refine Xt.Nw.drew ?_ | refine Xt.Nw.drewN ?_ _ | refine Xt.Nw.alloc ?_ _ | refine Xt.Nw.joined ?_ | refine Xt.Nw.drewd ?_ | refine Xt.Nw.drewdN ?_ | refine Xt.Nw.ext ?_ | refine Xt.Nw.ext_some ?_ (by assumption) | refine Xt.Nw.setCell ?_ (by simp [go_sem] <;> omega) _))))).mono ?_
      rintro e w' ⟨A3, c3, rfl, h3, dW, rfl⟩
      have H3 := Lib.hid h3.1
      clear h3
      go_wp2_with fail
      refine (rof_any t A3 n1 c3 L _ (by omega) (H3.out.nw ((by repeat (first | exact Xt.Nw.refl _ | refine Xt.Nw.drew ?_ | refine Xt.Nw.drewN ?_ _ | refine Xt.Nw.alloc ?_ _ | refine Xt.Nw.joined ?_ | refine Xt.Nw.drewd ?_ | refine Xt.Nw.drewdN ?_ | refine Xt.Nw.ext ?_ | refine Xt.Nw.ext_some ?_ (by assumption) | refine Xt.Nw.setCell ?_ (by simp [go_sem] <;> omega) _))))).mono ?_
      rintro e w' ⟨v, rfl, hown, dW, rfl⟩
      obtain ⟨Ab, cb, rfl, hb, rb⟩ := hown.rm HNA.out
      have HBB := Lib.hid hb
      clear hown hb rb
      go_wp2_with fail
      refine (pending_any A1 n1 c1 L _ (by omega) (H1.out.1.nw ((by repeat (first | exact Xt.Nw.refl _ | refine Xt.Nw.drew ?_ | refine Xt.Nw.drewN ?_ _ | refine Xt.Nw.alloc ?_ _ | refine Xt.Nw.joined ?_ | refine Xt.Nw.drewd ?_ | refine Xt.Nw.drewdN ?_ | refine Xt.Nw.ext ?_ | refine Xt.Nw.ext_some ?_ (by assumption) | refine Xt.Nw.setCell ?_ (by simp [go_sem] <;> omega) _))))).mono ?_
      rintro e w' ⟨v, rfl, hown, dW, rfl⟩
      obtain ⟨Ax, cx, rfl, hx, rx⟩ := hown.rm HNX.out
      have HX := Lib.hid hx
      have RX := Lib.hid (rx.mono (base' := W1.heap.size) (Nw.grown ((by repeat (first | exact Xt.Nw.refl _ | refine Xt.Nw.drew ?_ | refine Xt.Nw.drewN ?_ _ | refine Xt.Nw.alloc ?_ _ | refine Xt.Nw.joined ?_ | refine Xt.Nw.drewd ?_ | refine Xt.Nw.drewdN ?_ | refine Xt.Nw.ext ?_ | refine Xt.Nw.ext_some ?_ (by assumption) | refine Xt.Nw.setCell ?_ (by simp [go_sem] <;> omega) _)))).size)
      clear hown hx rx
      go_wp2_with fail
      refine (few_cs _ hnc hc HL1.out HN1.out (HP0.out.nw ((by repeat (first | exact Xt.Nw.refl _ | refine Xt.Nw.drew ?_ | refine Xt.Nw.drewN ?_ _ | refine Xt.Nw.alloc ?_ _ | refine Xt.Nw.joined ?_ | refine Xt.Nw.drewd ?_ | refine Xt.Nw.drewdN ?_ | refine Xt.Nw.ext ?_ | refine Xt.Nw.ext_some ?_ (by assumption) | refine Xt.Nw.setCell ?_ (by simp [go_sem] <;> omega) _))))).mono ?_
      rintro e w' ⟨A4, c4, rfl, h4, dW, rfl⟩
      have H4 := Lib.hid h4.1
      clear h4
      go_wp2_with fail
      refine (rpending_any A4 n1 c4 L _ (by omega) (H4.out.nw ((by repeat (first | exact Xt.Nw.refl _ | refine Xt.Nw.drew ?_ | refine Xt.Nw.drewN ?_ _ | refine Xt.Nw.alloc ?_ _ | refine Xt.Nw.joined ?_ | refine Xt.Nw.drewd ?_ | refine Xt.Nw.drewdN ?_ | refine Xt.Nw.ext ?_ | refine Xt.Nw.ext_some ?_ (by assumption) | refine Xt.Nw.setCell ?_ (by simp [go_sem] <;> omega) _))))).mono ?_
      rintro e w' ⟨v, rfl, hown, dW, rfl⟩
      obtain ⟨Ay, cy, rfl, hy, ry⟩ := hown.rm HNX.out
      have HY := Lib.hid hy
      clear hown hy ry
      go_wp2_with fail
      refine (effects_any A1 n1 c1 L _ (by omega) H1.out.2.1 H1.out.2.2.1 (H1.out.1.nw ((by repeat (first | exact Xt.Nw.refl _ | refine Xt.Nw.drew ?_ | refine Xt.Nw.drewN ?_ _ | refine Xt.Nw.alloc ?_ _ | refine Xt.Nw.joined ?_ | refine Xt.Nw.drewd ?_ | refine Xt.Nw.drewdN ?_ | refine Xt.Nw.ext ?_ | refine Xt.Nw.ext_some ?_ (by assumption) | refine Xt.Nw.setCell ?_ (by simp [go_sem] <;> omega) _)))) HWL.out).mono ?_
      rintro e w' ⟨v, yc, rfl, hyc, hown, dW, rfl⟩
      obtain ⟨nc, hnc'⟩ : ∃ nc, yc.length = nc := ⟨_, rfl⟩
      have hnc40 : nc ≤ 40 := by have h := hyc.len; have h2 := HN1.out; omega
      obtain ⟨Ac, cc, rfl, hcc, rc⟩ := hown.rm (n := nc) (by rw [natI_len, hnc'])
      have HC := Lib.hid hcc
      have RC := Lib.hid (rc.mono (base' := W1.heap.size) (Nw.grown ((by repeat (first | exact Xt.Nw.refl _ | refine Xt.Nw.drew ?_ | refine Xt.Nw.drewN ?_ _ | refine Xt.Nw.alloc ?_ _ | refine Xt.Nw.joined ?_ | refine Xt.Nw.drewd ?_ | refine Xt.Nw.drewdN ?_ | refine Xt.Nw.ext ?_ | refine Xt.Nw.ext_some ?_ (by assumption) | refine Xt.Nw.setCell ?_ (by simp [go_sem] <;> omega) _)))).size)
      have HYC := Lib.hid hyc
      have HNC := Lib.hid hnc'
      clear hown hcc rc hyc hnc'
      go_wp2_with fail
      refine (few_cs _ hnc hc HL1.out HN1.out (HP0.out.nw ((by repeat (first | exact Xt.Nw.refl _ | refine Xt.Nw.drew ?_ | refine Xt.Nw.drewN ?_ _ | refine Xt.Nw.alloc ?_ _ | refine Xt.Nw.joined ?_ | refine Xt.Nw.drewd ?_ | refine Xt.Nw.drewdN ?_ | refine Xt.Nw.ext ?_ | refine Xt.Nw.ext_some ?_ (by assumption) | refine Xt.Nw.setCell ?_ (by simp [go_sem] <;> omega) _))))).mono ?_
      rintro e w' ⟨A5, c5, rfl, h5, dW, rfl⟩
      have H5 := Lib.hid h5.1
      clear h5
      go_wp2_with fail
      refine (reffects_any A5 n1 c5 L _ (by omega) (H5.out.nw ((by repeat (first | exact Xt.Nw.refl _ | refine Xt.Nw.drew ?_ | refine Xt.Nw.drewN ?_ _ | refine Xt.Nw.alloc ?_ _ | refine Xt.Nw.joined ?_ | refine Xt.Nw.drewd ?_ | refine Xt.Nw.drewdN ?_ | refine Xt.Nw.ext ?_ | refine Xt.Nw.ext_some ?_ (by assumption) | refine Xt.Nw.setCell ?_ (by simp [go_sem] <;> omega) _)))) HWL.out).mono ?_
      rintro e w' ⟨v, yd, rfl, hyd, hown, dW, rfl⟩
      obtain rfl := HYC.out.unique hyd
      obtain ⟨Ad, cd, rfl, hdd, rd⟩ := hown.rm (n := nc) (by rw [natI_len, HNC.out])
      have HD := Lib.hid hdd
      clear hown hdd rd hyd
      go_wp2_with fail
      refine (prefix_any s A1 n1 c1 L _ (by omega) H1.out.2.1 H1.out.2.2.1 (H1.out.1.nw ((by repeat (first | exact Xt.Nw.refl _ | refine Xt.Nw.drew ?_ | refine Xt.Nw.drewN ?_ _ | refine Xt.Nw.alloc ?_ _ | refine Xt.Nw.joined ?_ | refine Xt.Nw.drewd ?_ | refine Xt.Nw.drewdN ?_ | refine Xt.Nw.ext ?_ | refine Xt.Nw.ext_some ?_ (by assumption) | refine Xt.Nw.setCell ?_ (by simp [go_sem] <;> omega) _)))) HWL.out).mono ?_
      rw [HPE.out]
      rintro e w' ⟨v, rfl, hown, dW, rfl⟩
      obtain ⟨Ap, cp, rfl, hp, rp⟩ := hown.rm HNP.out
      have HP := Lib.hid hp
      have RP := Lib.hid (rp.mono (base' := W1.heap.size) (Nw.grown ((by repeat (first | exact Xt.Nw.refl _ | refine Xt.Nw.drew ?_ | refine Xt.Nw.drewN ?_ _ | refine Xt.Nw.alloc ?_ _ | refine Xt.Nw.joined ?_ | refine Xt.Nw.drewd ?_ | refine Xt.Nw.drewdN ?_ | refine Xt.Nw.ext ?_ | refine Xt.Nw.ext_some ?_ (by assumption) | refine Xt.Nw.setCell ?_ (by simp [go_sem] <;> omega) _)))).size)
      clear hown hp rp
      go_wp2_with fail
      refine (few_cs _ hnc hc HL1.out HN1.out (HP0.out.nw ((by repeat (first | exact Xt.Nw.refl _ | refine Xt.Nw.drew ?_ | refine Xt.Nw.drewN ?_ _ | refine Xt.Nw.alloc ?_ _ | refine Xt.Nw.joined ?_ | refine Xt.Nw.drewd ?_ | refine Xt.Nw.drewdN ?_ | refine Xt.Nw.ext ?_ | refine Xt.Nw.ext_some ?_ (by assumption) | refine Xt.Nw.setCell ?_ (by simp [go_sem] <;> omega) _))))).mono ?_
      rintro e w' ⟨A6, c6, rfl, h6, dW, rfl⟩
      have H6 := Lib.hid h6.1
      clear h6
      go_wp2_with fail
      refine (rprefix_any s A6 n1 c6 L _ (by omega) (H6.out.nw ((by repeat (first | exact Xt.Nw.refl _ | refine Xt.Nw.drew ?_ | refine Xt.Nw.drewN ?_ _ | refine Xt.Nw.alloc ?_ _ | refine Xt.Nw.joined ?_ | refine Xt.Nw.drewd ?_ | refine Xt.Nw.drewdN ?_ | refine Xt.Nw.ext ?_ | refine Xt.Nw.ext_some ?_ (by assumption) | refine Xt.Nw.setCell ?_ (by simp [go_sem] <;> omega) _)))) HWL.out).mono ?_
      rw [HPE.out, preW_eq]
      rintro e w' ⟨v, rfl, hown, dW, rfl⟩
      obtain ⟨Aq, cq, rfl, hq, rq⟩ := hown.rm HNP.out
      have HQ := Lib.hid hq
      clear hown hq rq
      go_wp2_with fail
      refine (equalCalls_any Aa Ab na na _ _ (ofT t L) (ofT t L) _ (by omega) (by omega) (HA.out.nw ((by repeat (first | exact Xt.Nw.refl _ | refine Xt.Nw.drew ?_ | refine Xt.Nw.drewN ?_ _ | refine Xt.Nw.alloc ?_ _ | refine Xt.Nw.joined ?_ | refine Xt.Nw.drewd ?_ | refine Xt.Nw.drewdN ?_ | refine Xt.Nw.ext ?_ | refine Xt.Nw.ext_some ?_ (by assumption) | refine Xt.Nw.setCell ?_ (by simp [go_sem] <;> omega) _)))) (HBB.out.nw ((by repeat (first | exact Xt.Nw.refl _ | refine Xt.Nw.drew ?_ | refine Xt.Nw.drewN ?_ _ | refine Xt.Nw.alloc ?_ _ | refine Xt.Nw.joined ?_ | refine Xt.Nw.drewd ?_ | refine Xt.Nw.drewdN ?_ | refine Xt.Nw.ext ?_ | refine Xt.Nw.ext_some ?_ (by assumption) | refine Xt.Nw.setCell ?_ (by simp [go_sem] <;> omega) _))))).mono ?_
      rintro e w' ⟨rfl, dW, rfl⟩
      go_wp2_with fail
      refine (equalInts_any Ax Ay nx nx _ _ (pendK L n1) (pendK L n1) _ (by omega) (by omega) (HX.out.nw ((by repeat (first | exact Xt.Nw.refl _ | refine Xt.Nw.drew ?_ | refine Xt.Nw.drewN ?_ _ | refine Xt.Nw.alloc ?_ _ | refine Xt.Nw.joined ?_ | refine Xt.Nw.drewd ?_ | refine Xt.Nw.drewdN ?_ | refine Xt.Nw.ext ?_ | refine Xt.Nw.ext_some ?_ (by assumption) | refine Xt.Nw.setCell ?_ (by simp [go_sem] <;> omega) _)))) (HY.out.nw ((by repeat (first | exact Xt.Nw.refl _ | refine Xt.Nw.drew ?_ | refine Xt.Nw.drewN ?_ _ | refine Xt.Nw.alloc ?_ _ | refine Xt.Nw.joined ?_ | refine Xt.Nw.drewd ?_ | refine Xt.Nw.drewdN ?_ | refine Xt.Nw.ext ?_ | refine Xt.Nw.ext_some ?_ (by assumption) | refine Xt.Nw.setCell ?_ (by simp [go_sem] <;> omega) _))))).mono ?_
      rintro e w' ⟨rfl, dW, rfl⟩
      go_wp2_with fail
      refine (equalInts_any Ac Ad nc nc _ _ (natI yc) (natI yc) _ (by omega) (by omega) (HC.out.nw ((by repeat (first | exact Xt.Nw.refl _ | refine Xt.Nw.drew ?_ | refine Xt.Nw.drewN ?_ _ | refine Xt.Nw.alloc ?_ _ | refine Xt.Nw.joined ?_ | refine Xt.Nw.drewd ?_ | refine Xt.Nw.drewdN ?_ | refine Xt.Nw.ext ?_ | refine Xt.Nw.ext_some ?_ (by assumption) | refine Xt.Nw.setCell ?_ (by simp [go_sem] <;> omega) _)))) (HD.out.nw ((by repeat (first | exact Xt.Nw.refl _ | refine Xt.Nw.drew ?_ | refine Xt.Nw.drewN ?_ _ | refine Xt.Nw.alloc ?_ _ | refine Xt.Nw.joined ?_ | refine Xt.Nw.drewd ?_ | refine Xt.Nw.drewdN ?_ | refine Xt.Nw.ext ?_ | refine Xt.Nw.ext_some ?_ (by assumption) | refine Xt.Nw.setCell ?_ (by simp [go_sem] <;> omega) _))))).mono ?_
      rintro e w' ⟨rfl, dW, rfl⟩
      go_wp2_with fail
      refine (equalCalls_any Ap Aq np np _ _ (preW s L) (preW s L) _ (by omega) (by omega) (HP.out.nw ((by repeat (first | exact Xt.Nw.refl _ | refine Xt.Nw.drew ?_ | refine Xt.Nw.drewN ?_ _ | refine Xt.Nw.alloc ?_ _ | refine Xt.Nw.joined ?_ | refine Xt.Nw.drewd ?_ | refine Xt.Nw.drewdN ?_ | refine Xt.Nw.ext ?_ | refine Xt.Nw.ext_some ?_ (by assumption) | refine Xt.Nw.setCell ?_ (by simp [go_sem] <;> omega) _)))) (HQ.out.nw ((by repeat (first | exact Xt.Nw.refl _ | refine Xt.Nw.drew ?_ | refine Xt.Nw.drewN ?_ _ | refine Xt.Nw.alloc ?_ _ | refine Xt.Nw.joined ?_ | refine Xt.Nw.drewd ?_ | refine Xt.Nw.drewdN ?_ | refine Xt.Nw.ext ?_ | refine Xt.Nw.ext_some ?_ (by assumption) | refine Xt.Nw.setCell ?_ (by simp [go_sem] <;> omega) _))))).mono ?_
      rintro e w' ⟨rfl, dW, rfl⟩
      go_wp2_with fail
      refine (few_cs _ hnc hc HL1.out HN1.out (HP0.out.nw ((by repeat (first | exact Xt.Nw.refl _ | refine Xt.Nw.drew ?_ | refine Xt.Nw.drewN ?_ _ | refine Xt.Nw.alloc ?_ _ | refine Xt.Nw.joined ?_ | refine Xt.Nw.drewd ?_ | refine Xt.Nw.drewdN ?_ | refine Xt.Nw.ext ?_ | refine Xt.Nw.ext_some ?_ (by assumption) | refine Xt.Nw.setCell ?_ (by simp [go_sem] <;> omega) _))))).mono ?_
      rintro e w' ⟨A7, c7, rfl, h7, dW, rfl⟩
      have H7 := Lib.hid h7.1
      clear h7
      go_wp2_with fail
      refine (equalCalls_any A1 A7 n1 n1 _ _ L L _ (by omega) (by omega) (H1.out.1.nw ((by repeat (first | exact Xt.Nw.refl _ | refine Xt.Nw.drew ?_ | refine Xt.Nw.drewN ?_ _ | refine Xt.Nw.alloc ?_ _ | refine Xt.Nw.joined ?_ | refine Xt.Nw.drewd ?_ | refine Xt.Nw.drewdN ?_ | refine Xt.Nw.ext ?_ | refine Xt.Nw.ext_some ?_ (by assumption) | refine Xt.Nw.setCell ?_ (by simp [go_sem] <;> omega) _)))) (H7.out.nw ((by repeat (first | exact Xt.Nw.refl _ | refine Xt.Nw.drew ?_ | refine Xt.Nw.drewN ?_ _ | refine Xt.Nw.alloc ?_ _ | refine Xt.Nw.joined ?_ | refine Xt.Nw.drewd ?_ | refine Xt.Nw.drewdN ?_ | refine Xt.Nw.ext ?_ | refine Xt.Nw.ext_some ?_ (by assumption) | refine Xt.Nw.setCell ?_ (by simp [go_sem] <;> omega) _))))).mono ?_
      rintro e W9 ⟨rfl, hn9⟩
      have g9 : Nw W1 W9 := Nw.trans ((by repeat (first | exact Xt.Nw.refl _ | refine Xt.Nw.drew ?_ | refine Xt.Nw.drewN ?_ _ | refine Xt.Nw.alloc ?_ _ | refine Xt.Nw.joined ?_ | refine Xt.Nw.drewd ?_ | refine Xt.Nw.drewdN ?_ | refine Xt.Nw.ext ?_ | refine Xt.Nw.ext_some ?_ (by assumption) | refine Xt.Nw.setCell ?_ (by simp [go_sem] <;> omega) _))) hn9
      have g9a : Rm W1.heap.size W9 Aa na (na * 18) := RA.out.nw (Nw.trans ((by repeat (first | exact Xt.Nw.refl _ | refine Xt.Nw.drew ?_ | refine Xt.Nw.drewN ?_ _ | refine Xt.Nw.alloc ?_ _ | refine Xt.Nw.joined ?_ | refine Xt.Nw.drewd ?_ | refine Xt.Nw.drewdN ?_ | refine Xt.Nw.ext ?_ | refine Xt.Nw.ext_some ?_ (by assumption) | refine Xt.Nw.setCell ?_ (by simp [go_sem] <;> omega) _))) hn9)
      have g9p : Rm W1.heap.size W9 Ap np (np * 18) := RP.out.nw (Nw.trans ((by repeat (first | exact Xt.Nw.refl _ | refine Xt.Nw.drew ?_ | refine Xt.Nw.drewN ?_ _ | refine Xt.Nw.alloc ?_ _ | refine Xt.Nw.joined ?_ | refine Xt.Nw.drewd ?_ | refine Xt.Nw.drewdN ?_ | refine Xt.Nw.ext ?_ | refine Xt.Nw.ext_some ?_ (by assumption) | refine Xt.Nw.setCell ?_ (by simp [go_sem] <;> omega) _))) hn9)
      have g9x : Rm W1.heap.size W9 Ax nx nx := RX.out.nw (Nw.trans ((by repeat (first | exact Xt.Nw.refl _ | refine Xt.Nw.drew ?_ | refine Xt.Nw.drewN ?_ _ | refine Xt.Nw.alloc ?_ _ | refine Xt.Nw.joined ?_ | refine Xt.Nw.drewd ?_ | refine Xt.Nw.drewdN ?_ | refine Xt.Nw.ext ?_ | refine Xt.Nw.ext_some ?_ (by assumption) | refine Xt.Nw.setCell ?_ (by simp [go_sem] <;> omega) _))) hn9)
      have g9c : Rm W1.heap.size W9 Ac nc nc := RC.out.nw (Nw.trans ((by repeat (first | exact Xt.Nw.refl _ | refine Xt.Nw.drew ?_ | refine Xt.Nw.drewN ?_ _ | refine Xt.Nw.alloc ?_ _ | refine Xt.Nw.joined ?_ | refine Xt.Nw.drewd ?_ | refine Xt.Nw.drewdN ?_ | refine Xt.Nw.ext ?_ | refine Xt.Nw.ext_some ?_ (by assumption) | refine Xt.Nw.setCell ?_ (by simp [go_sem] <;> omega) _))) hn9)
      have G9 := Lib.hid (⟨g9, g9a, g9p, g9x, g9c⟩ : Ov W1 W9 Aa na Ap np Ax nx Ac nc)
      clear hn9 g9 g9a g9p g9x g9c HA HBB HX HY HC HD HP HQ RA RP RX RC H2 H3 H4 H5 H6 H7
      go_wp2_with fail
      go_loopw [25] (fun a wr => ∃ z : Nat, z ≤ na ∧ a = .int .i64 z ∧ Hid (Ov W1 wr Aa na Ap np Ax nx Ac nc)) (fun a _ => na - (intOf a).toNat)
      case atStart => exact ⟨0, by omega, rfl, G9.out⟩
      case round =>
        obtain ⟨z, hz, rfl, hov⟩ := hrel
        by_cases hlt : z < na
        · obtain ⟨bb, rfl, hbb, hth⟩ := hov.out.a (by omega)
          have hst := store_zero hth (z * 18) (by omega)
          have hov2 := Lib.hid (hov.out.set hbb (z * 18) zcl)
          have hzn : (z : Int) < (na : Int) := by omega
          clear hov hth
          go_wp2
          refine ⟨⟨z + 1, by omega, by go_num, hov2.out⟩, by simp [intOf]; omega⟩
        · have hlt2 : ¬ (z : Int) < (na : Int) := by omega
          go_wp2_with fail
          go_loopw [26] (fun a wr => ∃ z : Nat, z ≤ np ∧ a = .int .i64 z ∧ Hid (Ov W1 wr Aa na Ap np Ax nx Ac nc)) (fun a _ => np - (intOf a).toNat)
          case atStart => exact ⟨0, by omega, rfl, hov.out⟩
          case round =>
            clear hov
            obtain ⟨z, hz, rfl, hov⟩ := hrel
            by_cases hlt : z < np
            · obtain ⟨bb, rfl, hbb, hth⟩ := hov.out.p (by omega)
              have hst := store_zero hth (z * 18) (by omega)
              have hov2 := Lib.hid (hov.out.set hbb (z * 18) zcl)
              have hzn : (z : Int) < (np : Int) := by omega
              clear hov hth
              go_wp2
              refine ⟨⟨z + 1, by omega, by go_num, hov2.out⟩, by simp [intOf]; omega⟩
            · have hlt2 : ¬ (z : Int) < (np : Int) := by omega
              go_wp2_with fail
              go_loopw [27] (fun a wr => ∃ z : Nat, z ≤ nx ∧ a = .int .i64 z ∧ Hid (Ov W1 wr Aa na Ap np Ax nx Ac nc)) (fun a _ => nx - (intOf a).toNat)
              case atStart => exact ⟨0, by omega, rfl, hov.out⟩
              case round =>
                clear hov
                obtain ⟨z, hz, rfl, hov⟩ := hrel
                by_cases hlt : z < nx
                · obtain ⟨bb, rfl, hbb, hth⟩ := hov.out.x (by omega)
                  obtain ⟨h1s, h1f⟩ := hth z (by omega)
                  rw [Nat.zero_add] at h1s h1f
                  obtain ⟨u0, h1c⟩ := Option.isSome_iff_exists.1 h1s
                  have hov2 := Lib.hid (hov.out.set hbb z [.int .i64 (-1)])
                  clear h1s
                  have hzn : (z : Int) < (nx : Int) := by omega
                  clear hov hth
                  go_wp2
                  refine ⟨⟨z + 1, by omega, by go_num, hov2.out⟩, by simp [intOf]; omega⟩
                · have hlt2 : ¬ (z : Int) < (nx : Int) := by omega
                  go_wp2_with fail
                  go_loopw [28] (fun a wr => ∃ z : Nat, z ≤ nc ∧ a = .int .i64 z ∧ Hid (Ov W1 wr Aa na Ap np Ax nx Ac nc)) (fun a _ => nc - (intOf a).toNat)
                  case atStart => exact ⟨0, by omega, rfl, hov.out⟩
                  case round =>
                    clear hov
                    obtain ⟨z, hz, rfl, hov⟩ := hrel
                    by_cases hlt : z < nc
                    · obtain ⟨bb, rfl, hbb, hth⟩ := hov.out.c (by omega)
                      obtain ⟨h1s, h1f⟩ := hth z (by omega)
                      rw [Nat.zero_add] at h1s h1f
                      obtain ⟨u0, h1c⟩ := Option.isSome_iff_exists.1 h1s
                      have hov2 := Lib.hid (hov.out.set hbb z [.int .i64 (-1)])
                      clear h1s
                      have hzn : (z : Int) < (nc : Int) := by omega
                      clear hov hth
                      go_wp2
                      refine ⟨⟨z + 1, by omega, by go_num, hov2.out⟩, by simp [intOf]; omega⟩
                    · have hlt2 : ¬ (z : Int) < (nc : Int) := by omega
                      have hov3 := Lib.hid hov.out.nw
                      clear hov
                      go_wp2
                      refine ⟨⟨R + 1, by omega, by go_num, hov3.out⟩, by simp [intOf]; omega⟩
    · have hR2 : R = 2 := by omega
      subst hR2
      go_wp2_with fail
      refine (awake_any _).mono ?_
      rintro e w' ⟨rfl, dW, rfl⟩
      go_wp2
      go_ret
      exact ⟨rfl, HW1.out.trans ((by repeat (first | exact Xt.Nw.refl _ | refine Xt.Nw.drew ?_ | refine Xt.Nw.drewN ?_ _ | refine Xt.Nw.alloc ?_ _ | refine Xt.Nw.joined ?_ | refine Xt.Nw.drewd ?_ | refine Xt.Nw.drewdN ?_ | refine Xt.Nw.ext ?_ | refine Xt.Nw.ext_some ?_ (by assumption) | refine Xt.Nw.setCell ?_ (by simp [go_sem] <;> omega) _)))⟩
end Go.Proofs.Ytjpgechcfkhoaaa
