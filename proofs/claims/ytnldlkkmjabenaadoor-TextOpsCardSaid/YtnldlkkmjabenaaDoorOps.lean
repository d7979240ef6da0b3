import Derived.Test.YtnldlkkmjabenaaDoorN
import Derived.Test.YtnldlkkmjabenaaDoorTi
namespace Go.Proofs.YtnldlkkmjabenaaDoor
open Go.RowKit Go.Xt
set_option maxRecDepth 20000 in
set_option maxHeartbeats 4000000 in
theorem ops_any (a : Opn) (s : ByteArray) (w : World) (H : FmtAt w) (HP : PuAt w) (HS : SpAt w) (ha : WfO a) :
    Calls Tryd.prog 3 #[ov a, .string s] w fun e w' => e = .returned (.bool true) ∧ Nw w w' := by
  obtain ⟨W1, hW1⟩ : ∃ W1, W1 = w.alloc (.cells #[.int .u8 a.kd, .int .u64 a.ky, .int .u64 a.hi, .int .u64 a.vl, .int .u64 a.od, .int .u64 a.bt, .int .u64 a.dr] 24) := ⟨_, rfl⟩
  have hN1 : Nw w W1 := by rw [hW1]; exact (by repeat (first | exact Xt.Nw.refl _ | refine Xt.Nw.drew ?_ | refine Xt.Nw.drewN ?_ _ | refine Xt.Nw.alloc ?_ _ | refine Xt.Nw.joined ?_ | refine Xt.Nw.drewd ?_ | refine Xt.Nw.drewdN ?_ | refine Xt.Nw.ext ?_ | refine Xt.Nw.ext_some ?_ (by assumption) | refine Xt.Nw.setCell ?_ (by simp [go_sem] <;> omega) _))
  have a0 : W1.cell? ⟨w.heap.size, 0, none⟩ = some (.int .u8 a.kd) := by rw [hW1]; simp [go_sem]
  have a1 : W1.cell? ⟨w.heap.size, 1, none⟩ = some (.int .u64 a.ky) := by rw [hW1]; simp [go_sem]
  have a2 : W1.cell? ⟨w.heap.size, 2, none⟩ = some (.int .u64 a.hi) := by rw [hW1]; simp [go_sem]
  have a3 : W1.cell? ⟨w.heap.size, 3, none⟩ = some (.int .u64 a.vl) := by rw [hW1]; simp [go_sem]
  have a4 : W1.cell? ⟨w.heap.size, 4, none⟩ = some (.int .u64 a.od) := by rw [hW1]; simp [go_sem]
  have a5 : W1.cell? ⟨w.heap.size, 5, none⟩ = some (.int .u64 a.bt) := by rw [hW1]; simp [go_sem]
  have a6 : W1.cell? ⟨w.heap.size, 6, none⟩ = some (.int .u64 a.dr) := by rw [hW1]; simp [go_sem]
  haveI : In w.heap.size W1 := ⟨World.block_lt_of_cell? W1 _ a0⟩
  have HW1 := Lib.hid hW1
  have HN1 := Lib.hid hN1
  have HF := Lib.hid (H.nw hN1)
  have HPU := Lib.hid (HP.nw hN1)
  have HSP := Lib.hid (HS.nw hN1)
  have hkn := Lib.hid (fun W (hw : Nw W1 W) => known_any W (HF.out.nw hw) (HPU.out.nw hw) (HSP.out.nw hw))
  by_cases hbig : 300 < s.size
  · have d1 : decide ((300 : Int) < (s.size : Int)) = true := by rw [decide_eq_true_eq]; omega
    clear hW1 hN1 H HP HS ha
    go_enter Tryd.func3, Tryd.ntmps3
    go_wp2_with fail
    rw [← HW1.out]
    refine (hkn.out _ (Nw.refl _)).mono ?_
    rintro e w' ⟨rfl, dW, rfl⟩
    go_wp2
    go_ret
    exact ⟨rfl, HN1.out.trans ((by repeat (first | exact Xt.Nw.refl _ | refine Xt.Nw.drew ?_ | refine Xt.Nw.drewN ?_ _ | refine Xt.Nw.alloc ?_ _ | refine Xt.Nw.joined ?_ | refine Xt.Nw.drewd ?_ | refine Xt.Nw.drewdN ?_ | refine Xt.Nw.ext ?_ | refine Xt.Nw.ext_some ?_ (by assumption) | refine Xt.Nw.setCell ?_ (by simp [go_sem] <;> omega) _)))⟩
  · have d1 : decide ((300 : Int) < (s.size : Int)) = false := by rw [decide_eq_false_iff_not]; omega
    have ra := Lib.hid (fun W (h : Nw W1 W) => op_any a W (HF.out.nw h) ha)
    have rr := Lib.hid (fun W => rop_any a W ha)
    obtain ⟨la, hla⟩ : ∃ la : ByteArray, la = ⟨(lineO a).toArray⟩ := ⟨_, rfl⟩
    rw [← hla] at ra rr
    have hws := words_size s
    have rps := Lib.hid (fun W (h : Nw W1 W) => parseop_any s W (HF.out.nw h) (HPU.out.nw h) (HSP.out.nw h) (by omega) (fun x hx => by have := hws.2 x hx; omega) (by have := hws.1; omega))
    have rpr := Lib.hid (fun W => rparse_any s W)
    rw [rp_eq s] at rpr
    generalize parseW s (wordsB s) = Y at rps rpr
    obtain ⟨y, ey⟩ := Y
    clear hW1 hN1 H HP HS ha hws hla
    go_enter Tryd.func3, Tryd.ntmps3
    go_wp2_with fail
    rw [← HW1.out]
    refine (ra.out _ (Nw.refl _)).mono ?_
    rintro e w' ⟨rfl, dA, rfl⟩
    go_wp2_with fail
    refine (rps.out _ ((by repeat (first | exact Xt.Nw.refl _ | refine Xt.Nw.drew ?_ | refine Xt.Nw.drewN ?_ _ | refine Xt.Nw.alloc ?_ _ | refine Xt.Nw.joined ?_ | refine Xt.Nw.drewd ?_ | refine Xt.Nw.drewdN ?_ | refine Xt.Nw.ext ?_ | refine Xt.Nw.ext_some ?_ (by assumption) | refine Xt.Nw.setCell ?_ (by simp [go_sem] <;> omega) _)))).mono ?_
    rintro e w' ⟨rfl, dB, rfl⟩
    go_wp2_with fail
    refine (rpr.out _).mono ?_
    rintro e w' ⟨rfl, dC, rfl⟩
    go_wp2_with fail
    refine (rr.out _).mono ?_
    rintro e w' ⟨rfl, dD, rfl⟩
    go_wp2
    go_ret
    exact ⟨rfl, HN1.out.trans ((by repeat (first | exact Xt.Nw.refl _ | refine Xt.Nw.drew ?_ | refine Xt.Nw.drewN ?_ _ | refine Xt.Nw.alloc ?_ _ | refine Xt.Nw.joined ?_ | refine Xt.Nw.drewd ?_ | refine Xt.Nw.drewdN ?_ | refine Xt.Nw.ext ?_ | refine Xt.Nw.ext_some ?_ (by assumption) | refine Xt.Nw.setCell ?_ (by simp [go_sem] <;> omega) _)))⟩
end Go.Proofs.YtnldlkkmjabenaaDoor
