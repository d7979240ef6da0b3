import Derived.Test.YtnldlkkmjabenaaDoorN
import Derived.Test.YtnldlkkmjabenaaDoorS
namespace Go.Proofs.YtnldlkkmjabenaaDoor
open Go.RowKit Go.Xt
set_option maxRecDepth 20000 in
set_option maxHeartbeats 4000000 in
theorem lines_any (a b : Opn) (s : ByteArray) (w : World) (H : FmtAt w) (HP : PuAt w) (HS : SpAt w) (ha : WfO a) (hb : WfO b) :
    Calls Tryd.prog 4 #[ov a, ov b, .string s] w fun e w' => e = .returned (.bool true) ∧ Nw w w' := by
  obtain ⟨W1, hW1⟩ : ∃ W1, W1 = (w.alloc (.cells #[.int .u8 a.kd, .int .u64 a.ky, .int .u64 a.hi, .int .u64 a.vl, .int .u64 a.od, .int .u64 a.bt, .int .u64 a.dr] 24)).alloc (.cells #[.int .u8 b.kd, .int .u64 b.ky, .int .u64 b.hi, .int .u64 b.vl, .int .u64 b.od, .int .u64 b.bt, .int .u64 b.dr] 24) := ⟨_, rfl⟩
  have hN1 : Nw w W1 := by rw [hW1]; exact (by repeat (first | exact Xt.Nw.refl _ | refine Xt.Nw.drew ?_ | refine Xt.Nw.drewN ?_ _ | refine Xt.Nw.alloc ?_ _ | refine Xt.Nw.joined ?_ | refine Xt.Nw.drewd ?_ | refine Xt.Nw.drewdN ?_ | refine Xt.Nw.ext ?_ | refine Xt.Nw.ext_some ?_ (by assumption) | refine Xt.Nw.setCell ?_ (by simp [go_sem] <;> omega) _))
  have a0 : W1.cell? ⟨w.heap.size, 0, none⟩ = some (.int .u8 a.kd) := by rw [hW1]; simp [go_sem]
  have a1 : W1.cell? ⟨w.heap.size, 1, none⟩ = some (.int .u64 a.ky) := by rw [hW1]; simp [go_sem]
  have a2 : W1.cell? ⟨w.heap.size, 2, none⟩ = some (.int .u64 a.hi) := by rw [hW1]; simp [go_sem]
  have a3 : W1.cell? ⟨w.heap.size, 3, none⟩ = some (.int .u64 a.vl) := by rw [hW1]; simp [go_sem]
  have a4 : W1.cell? ⟨w.heap.size, 4, none⟩ = some (.int .u64 a.od) := by rw [hW1]; simp [go_sem]
  have a5 : W1.cell? ⟨w.heap.size, 5, none⟩ = some (.int .u64 a.bt) := by rw [hW1]; simp [go_sem]
  have a6 : W1.cell? ⟨w.heap.size, 6, none⟩ = some (.int .u64 a.dr) := by rw [hW1]; simp [go_sem]
  have b0 : W1.cell? ⟨w.heap.size + 1, 0, none⟩ = some (.int .u8 b.kd) := by rw [hW1]; simp [go_sem]
  have b1 : W1.cell? ⟨w.heap.size + 1, 1, none⟩ = some (.int .u64 b.ky) := by rw [hW1]; simp [go_sem]
  have b2 : W1.cell? ⟨w.heap.size + 1, 2, none⟩ = some (.int .u64 b.hi) := by rw [hW1]; simp [go_sem]
  have b3 : W1.cell? ⟨w.heap.size + 1, 3, none⟩ = some (.int .u64 b.vl) := by rw [hW1]; simp [go_sem]
  have b4 : W1.cell? ⟨w.heap.size + 1, 4, none⟩ = some (.int .u64 b.od) := by rw [hW1]; simp [go_sem]
  have b5 : W1.cell? ⟨w.heap.size + 1, 5, none⟩ = some (.int .u64 b.bt) := by rw [hW1]; simp [go_sem]
  have b6 : W1.cell? ⟨w.heap.size + 1, 6, none⟩ = some (.int .u64 b.dr) := by rw [hW1]; simp [go_sem]
  haveI : In w.heap.size W1 := ⟨World.block_lt_of_cell? W1 _ a0⟩
  haveI : In (w.heap.size + 1) W1 := ⟨World.block_lt_of_cell? W1 _ b0⟩
  have HW1 := Lib.hid hW1
  have HN1 := Lib.hid hN1
  have HF := Lib.hid (H.nw hN1)
  have HPU := Lib.hid (HP.nw hN1)
  have HSP := Lib.hid (HS.nw hN1)
  have hkn := Lib.hid (fun W (hw : Nw W1 W) => known_any W (HF.out.nw hw) (HPU.out.nw hw) (HSP.out.nw hw))
  by_cases hbig : 300 < s.size
  · have d1 : decide ((300 : Int) < (s.size : Int)) = true := by rw [decide_eq_true_eq]; omega
    clear hW1 hN1 H HP HS ha hb
    go_enter Tryd.func4, Tryd.ntmps4
    go_wp2_with fail
    rw [← HW1.out]
    refine (hkn.out _ (Nw.refl _)).mono ?_
    rintro e w' ⟨rfl, dW, rfl⟩
    go_wp2
    go_ret
    exact ⟨rfl, HN1.out.trans ((by repeat (first | exact Xt.Nw.refl _ | refine Xt.Nw.drew ?_ | refine Xt.Nw.drewN ?_ _ | refine Xt.Nw.alloc ?_ _ | refine Xt.Nw.joined ?_ | refine Xt.Nw.drewd ?_ | refine Xt.Nw.drewdN ?_ | refine Xt.Nw.ext ?_ | refine Xt.Nw.ext_some ?_ (by assumption) | refine Xt.Nw.setCell ?_ (by simp [go_sem] <;> omega) _)))⟩
  · have d1 : decide ((300 : Int) < (s.size : Int)) = false := by rw [decide_eq_false_iff_not]; omega
    have ra := Lib.hid (fun W (h : Nw W1 W) => op_any a W (HF.out.nw h) ha)
    have rb := Lib.hid (fun W (h : Nw W1 W) => op_any b W (HF.out.nw h) hb)
    have hiff : decide ((⟨(lineO a).toArray⟩ : ByteArray) = ⟨(lineO b).toArray⟩) = decide (a = b) := by
      have : ((⟨(lineO a).toArray⟩ : ByteArray) = ⟨(lineO b).toArray⟩) ↔ a = b := ⟨fun e => lineO_inj ha hb (by have := congrArg (fun z : ByteArray => z.data.toList) e; simpa using this), fun e => by rw [e]⟩
      simp only [this]
    have hch := line_chars ha
    have hll := line_len ha
    obtain ⟨la, hla⟩ : ∃ la : ByteArray, la = ⟨(lineO a).toArray⟩ := ⟨_, rfl⟩
    obtain ⟨lb, hlb⟩ : ∃ lb : ByteArray, lb = ⟨(lineO b).toArray⟩ := ⟨_, rfl⟩
    have hld : la.data.toList = lineO a := by rw [hla]
    have hls : la.size ≤ 200 := by
      have : la.size = la.data.toList.length := by rw [Array.length_toList]; rfl
      rw [this, hld]; exact hll
    have hpl := parse_line ha hld
    rw [← hla, ← hlb] at hiff
    rw [← hla] at ra
    rw [← hlb] at rb
    have hq : (la.toList == lb.toList) = decide (a = b) := by rw [str_beq]; exact hiff
    have hwl := words_size la
    have rpa := Lib.hid (fun W (h : Nw W1 W) => parseop_any la W (HF.out.nw h) (HPU.out.nw h) (HSP.out.nw h) (by omega) (fun x hx => by have := hwl.2 x hx; omega) (by have := hwl.1; omega))
    rw [hpl] at rpa
    have hws := words_size s
    have rps := Lib.hid (fun W (h : Nw W1 W) => parseop_any s W (HF.out.nw h) (HPU.out.nw h) (HSP.out.nw h) (by omega) (fun x hx => by have := hws.2 x hx; omega) (by have := hws.1; omega))
    have hcs := parse_cases s (wordsB s)
    have hbk := Lib.hid (fun x (h : parseW s (wordsB s) = (x, 0)) => parse_back h)
    have hch2 : ∀ (i : Nat) (hi : i < la.size), (32 : Int) ≤ ((la[i]'hi).toNat : Int) ∧ ((la[i]'hi).toNat : Int) ≤ 122 := fun i hi => by
      have hm : la[i]'hi ∈ lineO a := by
        rw [← hld, Array.mem_toList_iff]
        exact Array.getElem_mem (xs := la.data) (i := i) hi
      have h1 := UInt8.le_iff_toNat_le.1 (hch _ hm).1
      have h2 := UInt8.le_iff_toNat_le.1 (hch _ hm).2
      have e1 : (32 : UInt8).toNat = 32 := rfl
      have e2 : (122 : UInt8).toNat = 122 := rfl
      omega
    obtain ⟨n, hn⟩ : ∃ n, n = la.size := ⟨_, rfl⟩
    have HCH := Lib.hid hch2
    have HNL := Lib.hid hn
    clear hW1 hN1 H HP HS ha hb hiff hch hll hla hlb hld hpl hwl hws hch2 hn
    go_enter Tryd.func4, Tryd.ntmps4
    go_wp2_with fail
    rw [← HW1.out]
    refine (ra.out _ (Nw.refl _)).mono ?_
    rintro e w' ⟨rfl, dW, rfl⟩
    go_wp2_with fail
    refine (rb.out _ ((by repeat (first | exact Xt.Nw.refl _ | refine Xt.Nw.drew ?_ | refine Xt.Nw.drewN ?_ _ | refine Xt.Nw.alloc ?_ _ | refine Xt.Nw.joined ?_ | refine Xt.Nw.drewd ?_ | refine Xt.Nw.drewdN ?_ | refine Xt.Nw.ext ?_ | refine Xt.Nw.ext_some ?_ (by assumption) | refine Xt.Nw.setCell ?_ (by simp [go_sem] <;> omega) _)))).mono ?_
    rintro e w' ⟨rfl, dX, rfl⟩
    go_wp2_with fail
    refine (rpa.out _ ((by repeat (first | exact Xt.Nw.refl _ | refine Xt.Nw.drew ?_ | refine Xt.Nw.drewN ?_ _ | refine Xt.Nw.alloc ?_ _ | refine Xt.Nw.joined ?_ | refine Xt.Nw.drewd ?_ | refine Xt.Nw.drewdN ?_ | refine Xt.Nw.ext ?_ | refine Xt.Nw.ext_some ?_ (by assumption) | refine Xt.Nw.setCell ?_ (by simp [go_sem] <;> omega) _)))).mono ?_
    rintro e w' ⟨rfl, dY, rfl⟩
    go_wp2_with fail
    go_loopw [13] (fun v wr => ∃ k : Nat, k ≤ n ∧ v = .int .i64 k ∧ Nw W1 wr) (fun v _ => n - (intOf v).toNat)
    case atStart => exact ⟨0, by omega, rfl, (by repeat (first | exact Xt.Nw.refl _ | refine Xt.Nw.drew ?_ | refine Xt.Nw.drewN ?_ _ | refine Xt.Nw.alloc ?_ _ | refine Xt.Nw.joined ?_ | refine Xt.Nw.drewd ?_ | refine Xt.Nw.drewdN ?_ | refine Xt.Nw.ext ?_ | refine Xt.Nw.ext_some ?_ (by assumption) | refine Xt.Nw.setCell ?_ (by simp [go_sem] <;> omega) _))⟩
    case round =>
      obtain ⟨k, hk, rfl, hwr⟩ := hrel
      have HWR := Lib.hid hwr
      clear hwr
      by_cases hlt : k < n
      · have hk2 : k < la.size := by have := HNL.out; omega
        have e1 : (k : Int) < (la.size : Int) := by omega
        have hc := HCH.out k hk2
        have c1 : ¬ ((la[k]'hk2).toNat : Int) < 32 := by omega
        have c2 : ¬ (122 : Int) < ((la[k]'hk2).toNat : Int) := by omega
        clear hc
        go_wp2
        all_goals first
          | (exfalso; omega)
          | exact ⟨⟨k + 1, by omega, by go_num, HWR.out⟩, by simp [intOf]; omega⟩
      · have e1 : ¬ (k : Int) < (la.size : Int) := by have := HNL.out; omega
        go_wp2_with fail
        refine (rps.out _ HWR.out).mono ?_
        rintro e w' ⟨rfl, dZ, rfl⟩
        rcases hcs with hc | ⟨x, hc⟩
        · rw [hc]
          clear hbk rps
          go_wp2_with fail
          refine (hkn.out _ (HWR.out.trans ((by repeat (first | exact Xt.Nw.refl _ | refine Xt.Nw.drew ?_ | refine Xt.Nw.drewN ?_ _ | refine Xt.Nw.alloc ?_ _ | refine Xt.Nw.joined ?_ | refine Xt.Nw.drewd ?_ | refine Xt.Nw.drewdN ?_ | refine Xt.Nw.ext ?_ | refine Xt.Nw.ext_some ?_ (by assumption) | refine Xt.Nw.setCell ?_ (by simp [go_sem] <;> omega) _))))).mono ?_
          rintro e w' ⟨rfl, dV, rfl⟩
          go_wp2
          go_ret
          exact ⟨rfl, HN1.out.trans (HWR.out.trans ((by repeat (first | exact Xt.Nw.refl _ | refine Xt.Nw.drew ?_ | refine Xt.Nw.drewN ?_ _ | refine Xt.Nw.alloc ?_ _ | refine Xt.Nw.joined ?_ | refine Xt.Nw.drewd ?_ | refine Xt.Nw.drewdN ?_ | refine Xt.Nw.ext ?_ | refine Xt.Nw.ext_some ?_ (by assumption) | refine Xt.Nw.setCell ?_ (by simp [go_sem] <;> omega) _))))⟩
        · obtain ⟨hwx, hlx⟩ := hbk.out x hc
          have hsx : (⟨(lineO x).toArray⟩ : ByteArray) = s := by rw [hlx]
          have rx := Lib.hid (fun W (h : Nw W1 W) => op_any x W (HF.out.nw h) hwx)
          rw [hsx] at rx
          have hss : (s.toList == s.toList) = true := by simp
          rw [hc]
          clear hbk rps hc hwx hlx hsx
          go_wp2_with fail
          refine (rx.out _ (HWR.out.trans ((by repeat (first | exact Xt.Nw.refl _ | refine Xt.Nw.drew ?_ | refine Xt.Nw.drewN ?_ _ | refine Xt.Nw.alloc ?_ _ | refine Xt.Nw.joined ?_ | refine Xt.Nw.drewd ?_ | refine Xt.Nw.drewdN ?_ | refine Xt.Nw.ext ?_ | refine Xt.Nw.ext_some ?_ (by assumption) | refine Xt.Nw.setCell ?_ (by simp [go_sem] <;> omega) _))))).mono ?_
          rintro e w' ⟨rfl, dV, rfl⟩
          go_wp2_with fail
          refine (hkn.out _ (HWR.out.trans ((by repeat (first | exact Xt.Nw.refl _ | refine Xt.Nw.drew ?_ | refine Xt.Nw.drewN ?_ _ | refine Xt.Nw.alloc ?_ _ | refine Xt.Nw.joined ?_ | refine Xt.Nw.drewd ?_ | refine Xt.Nw.drewdN ?_ | refine Xt.Nw.ext ?_ | refine Xt.Nw.ext_some ?_ (by assumption) | refine Xt.Nw.setCell ?_ (by simp [go_sem] <;> omega) _))))).mono ?_
          rintro e w' ⟨rfl, dU, rfl⟩
          go_wp2
          go_ret
          exact ⟨rfl, HN1.out.trans (HWR.out.trans ((by repeat (first | exact Xt.Nw.refl _ | refine Xt.Nw.drew ?_ | refine Xt.Nw.drewN ?_ _ | refine Xt.Nw.alloc ?_ _ | refine Xt.Nw.joined ?_ | refine Xt.Nw.drewd ?_ | refine Xt.Nw.drewdN ?_ | refine Xt.Nw.ext ?_ | refine Xt.Nw.ext_some ?_ (by assumption) | refine Xt.Nw.setCell ?_ (by simp [go_sem] <;> omega) _))))⟩
end Go.Proofs.YtnldlkkmjabenaaDoor
