import Derived.Test.YtahagplegmcaaaaGreatDoorGVm
import Derived.BigQuiet
set_option linter.unusedVariables false
set_option linter.unusedSimpArgs false
set_option linter.unnecessarySimpa false
namespace Go.Proofs.YtahagplegmcaaaaGreatDoor
open Go.RowKit Go.Xt
/-! Key domains: the reference's Check. -/
set_option maxRecDepth 20000 in
set_option maxHeartbeats 8000000 in
theorem rdcheck_any (w : World) (k n : Int) (A : Option Addr) (l : List Nat) (c : Nat) (h : Rd w 1 A l.length (nums l)) :
    Calls Tryz.prog 47 #[domV k n A l.length c] w fun e w' => e = .returned (.int .i64 (chkD k n l)) ∧ Nw w w' := by
  have hc : chkD k n l = if domB k n l then 0 else 2 := rfl
  obtain ⟨m, hm⟩ : ∃ m, m = l.length := ⟨_, rfl⟩
  unfold domB at hc
  rw [← hm] at h hc ⊢
  have HR := Lib.hid h
  have HM := Lib.hid hm
  clear h hm
  unfold domV
  by_cases k1 : k = 1
  · subst k1
    by_cases hn : n = 0
    · subst hn
      by_cases hm0 : m = 0
      · subst hm0
        have HC := Lib.hid (show chkD _ _ l = 0 by rw [hc]; first | (simp_all; done) | (simp_all; omega) | (simp_all; intros; omega))
        clear hc
        go_enter Tryz.func47, Tryz.ntmps47
        go_wp2
        go_ret
        exact ⟨by rw [HC.out]; rfl, (by repeat (first | exact Xt.Nw.refl _ | refine Xt.Nw.drew ?_ | refine Xt.Nw.drewN ?_ _ | refine Xt.Nw.alloc ?_ _ | refine Xt.Nw.joined ?_ | refine Xt.Nw.drewd ?_ | refine Xt.Nw.drewdN ?_ | refine Xt.Nw.ext ?_ | refine Xt.Nw.ext_some ?_ (by assumption) | refine Xt.Nw.setCell ?_ (by simp [go_sem] <;> omega) _))⟩
      · have g1 : ((m : Int) == 0) = false := by simpa using hm0
        have HC := Lib.hid (show chkD _ _ l = 2 by rw [hc]; first | (simp_all; done) | (simp_all; omega) | (simp_all; intros; omega))
        clear hc
        go_enter Tryz.func47, Tryz.ntmps47
        go_wp2
        go_ret
        exact ⟨by rw [HC.out]; rfl, (by repeat (first | exact Xt.Nw.refl _ | refine Xt.Nw.drew ?_ | refine Xt.Nw.drewN ?_ _ | refine Xt.Nw.alloc ?_ _ | refine Xt.Nw.joined ?_ | refine Xt.Nw.drewd ?_ | refine Xt.Nw.drewdN ?_ | refine Xt.Nw.ext ?_ | refine Xt.Nw.ext_some ?_ (by assumption) | refine Xt.Nw.setCell ?_ (by simp [go_sem] <;> omega) _))⟩
    · have g1 : (n == 0) = false := by simpa using hn
      have HC := Lib.hid (show chkD _ _ l = 2 by rw [hc]; first | (simp_all; done) | (simp_all; omega) | (simp_all; intros; omega))
      clear hc
      go_enter Tryz.func47, Tryz.ntmps47
      go_wp2
      go_ret
      exact ⟨by rw [HC.out]; rfl, (by repeat (first | exact Xt.Nw.refl _ | refine Xt.Nw.drew ?_ | refine Xt.Nw.drewN ?_ _ | refine Xt.Nw.alloc ?_ _ | refine Xt.Nw.joined ?_ | refine Xt.Nw.drewd ?_ | refine Xt.Nw.drewdN ?_ | refine Xt.Nw.ext ?_ | refine Xt.Nw.ext_some ?_ (by assumption) | refine Xt.Nw.setCell ?_ (by simp [go_sem] <;> omega) _))⟩
  by_cases k2 : k = 2
  · subst k2
    by_cases hn : 1 ≤ n
    · have d1 : decide (1 ≤ n) = true := by simpa using hn
      by_cases h64 : n ≤ 64
      · have d2 : decide (n ≤ 64) = true := by simpa using h64
        by_cases hm0 : m = 0
        · subst hm0
          have HC := Lib.hid (show chkD _ _ l = 0 by rw [hc]; first | (simp_all; done) | (simp_all; omega) | (simp_all; intros; omega))
          clear hc
          go_enter Tryz.func47, Tryz.ntmps47
          go_wp2
          go_ret
          exact ⟨by rw [HC.out]; rfl, (by repeat (first | exact Xt.Nw.refl _ | refine Xt.Nw.drew ?_ | refine Xt.Nw.drewN ?_ _ | refine Xt.Nw.alloc ?_ _ | refine Xt.Nw.joined ?_ | refine Xt.Nw.drewd ?_ | refine Xt.Nw.drewdN ?_ | refine Xt.Nw.ext ?_ | refine Xt.Nw.ext_some ?_ (by assumption) | refine Xt.Nw.setCell ?_ (by simp [go_sem] <;> omega) _))⟩
        · have g1 : ((m : Int) == 0) = false := by simpa using hm0
          have HC := Lib.hid (show chkD _ _ l = 2 by rw [hc]; first | (simp_all; done) | (simp_all; omega) | (simp_all; intros; omega))
          clear hc
          go_enter Tryz.func47, Tryz.ntmps47
          go_wp2
          go_ret
          exact ⟨by rw [HC.out]; rfl, (by repeat (first | exact Xt.Nw.refl _ | refine Xt.Nw.drew ?_ | refine Xt.Nw.drewN ?_ _ | refine Xt.Nw.alloc ?_ _ | refine Xt.Nw.joined ?_ | refine Xt.Nw.drewd ?_ | refine Xt.Nw.drewdN ?_ | refine Xt.Nw.ext ?_ | refine Xt.Nw.ext_some ?_ (by assumption) | refine Xt.Nw.setCell ?_ (by simp [go_sem] <;> omega) _))⟩
      · have d2 : decide (n ≤ 64) = false := by simpa using h64
        have HC := Lib.hid (show chkD _ _ l = 2 by rw [hc]; first | (simp_all; done) | (simp_all; omega) | (simp_all; intros; omega))
        clear hc
        go_enter Tryz.func47, Tryz.ntmps47
        go_wp2
        go_ret
        exact ⟨by rw [HC.out]; rfl, (by repeat (first | exact Xt.Nw.refl _ | refine Xt.Nw.drew ?_ | refine Xt.Nw.drewN ?_ _ | refine Xt.Nw.alloc ?_ _ | refine Xt.Nw.joined ?_ | refine Xt.Nw.drewd ?_ | refine Xt.Nw.drewdN ?_ | refine Xt.Nw.ext ?_ | refine Xt.Nw.ext_some ?_ (by assumption) | refine Xt.Nw.setCell ?_ (by simp [go_sem] <;> omega) _))⟩
    · have d1 : decide (1 ≤ n) = false := by simpa using hn
      have HC := Lib.hid (show chkD _ _ l = 2 by rw [hc]; first | (simp_all; done) | (simp_all; omega) | (simp_all; intros; omega))
      clear hc
      go_enter Tryz.func47, Tryz.ntmps47
      go_wp2
      go_ret
      exact ⟨by rw [HC.out]; rfl, (by repeat (first | exact Xt.Nw.refl _ | refine Xt.Nw.drew ?_ | refine Xt.Nw.drewN ?_ _ | refine Xt.Nw.alloc ?_ _ | refine Xt.Nw.joined ?_ | refine Xt.Nw.drewd ?_ | refine Xt.Nw.drewdN ?_ | refine Xt.Nw.ext ?_ | refine Xt.Nw.ext_some ?_ (by assumption) | refine Xt.Nw.setCell ?_ (by simp [go_sem] <;> omega) _))⟩
  by_cases k3 : k = 3
  · subst k3
    by_cases hn : n = 0
    · subst hn
      by_cases hm1 : 1 ≤ m
      · have e1 : ¬ (m : Int) < 1 := by omega
        have d1 : decide ((m : Int) < 1) = false := by simpa using e1
        by_cases hm6 : m < 64
        · have e2 : ¬ (63 : Int) < (m : Int) := by omega
          have d2 : decide ((63 : Int) < (m : Int)) = false := by simpa using e2
          have hc' : chkD 3 0 l = if ascB 0 l then 0 else 2 := by
            rw [hc]; have := HM.out; simp [hm1, hm6]
          have HC' := Lib.hid hc'
          clear hc hc'
          obtain ⟨x0, hx0⟩ : ∃ y, l[0]? = some y := ⟨_, List.getElem?_eq_getElem (by have := HM.out; omega)⟩
          obtain ⟨g, o, rfl, hg, hcc⟩ := HR.out.2 (by omega)
          have hc0 : w.cell? ⟨g, o, none⟩ = some (.int .u64 (x0 : Int)) := hcc 0 _ (nums_at hx0)
          have ha0 : ascB 0 l = if x0 ≤ 0 then false else ascB x0 (l.drop (0 + 1)) := ascB_step (k := 0) hx0
          have HA0 := Lib.hid ha0
          have HCC := Lib.hid hcc
          haveI : In g w := ⟨hg⟩
          clear hcc ha0
          by_cases hz : x0 = 0
          · have g3 : ((x0 : Int) == 0) = true := by simp [hz]
            have HC := Lib.hid (show chkD 3 0 l = 2 by rw [HC'.out, HA0.out]; simp [hz])
            clear hz hx0
            go_enter Tryz.func47, Tryz.ntmps47
            go_wp2
            go_ret
            exact ⟨by rw [HC.out]; rfl, (by repeat (first | exact Xt.Nw.refl _ | refine Xt.Nw.drew ?_ | refine Xt.Nw.drewN ?_ _ | refine Xt.Nw.alloc ?_ _ | refine Xt.Nw.joined ?_ | refine Xt.Nw.drewd ?_ | refine Xt.Nw.drewdN ?_ | refine Xt.Nw.ext ?_ | refine Xt.Nw.ext_some ?_ (by assumption) | refine Xt.Nw.setCell ?_ (by simp [go_sem] <;> omega) _))⟩
          · have g3 : ((x0 : Int) == 0) = false := by simp [hz]
            have hs : ascB 0 l = ascB (l.getD 0 0) (l.drop (0 + 1)) := by
              rw [HA0.out, if_neg (by omega), List.getD_eq_getElem?_getD, hx0]; rfl
            have HS := Lib.hid hs
            clear hz hx0 hs
            go_enter Tryz.func47, Tryz.ntmps47
            go_wp2
            obtain ⟨W1, hW1⟩ : ∃ W1, W1 = w.alloc (.cells #[.int .u8 3, .int .i64 0, .slice (some ⟨g, o, none⟩) m c] 24) := ⟨_, rfl⟩
            rw [← hW1]
            have hn1 : Nw w W1 := by rw [hW1]; exact (by repeat (first | exact Xt.Nw.refl _ | refine Xt.Nw.drew ?_ | refine Xt.Nw.drewN ?_ _ | refine Xt.Nw.alloc ?_ _ | refine Xt.Nw.joined ?_ | refine Xt.Nw.drewd ?_ | refine Xt.Nw.drewdN ?_ | refine Xt.Nw.ext ?_ | refine Xt.Nw.ext_some ?_ (by assumption) | refine Xt.Nw.setCell ?_ (by simp [go_sem] <;> omega) _))
            have b2 : W1.cell? ⟨w.heap.size, 2, none⟩ = some (.slice (some ⟨g, o, none⟩) m c) := by rw [hW1]; simp [go_sem]
            have hlt1 : w.heap.size < W1.heap.size := by rw [hW1]; simp [go_sem]
            have HN1 := Lib.hid hn1
            clear hW1 hn1
            go_loopw [3] (fun i wr => ∃ j : Nat, j < m ∧ i = .int .i64 ((j : Int) + 1) ∧ Hid (ascB 0 l = ascB (l.getD j 0) (l.drop (j + 1))) ∧ Nw W1 wr) (fun i _ => m - (intOf i).toNat)
            case atStart => exact ⟨0, by omega, by simp, HS.out, Nw.refl _⟩
            case round =>
              obtain ⟨j, hj, rfl, hs, hwr⟩ := hrel
              replace b2 := cell_nw b2 hwr
              have hw2 := HN1.out.trans hwr
              obtain ⟨y, hy⟩ : ∃ y, l[j]? = some y := ⟨_, List.getElem?_eq_getElem (by have := HM.out; omega)⟩
              have cy : wr.cell? ⟨g, o + j, none⟩ = some (.int .u64 (y : Int)) := cell_nw (HCC.out j _ (nums_at hy)) hw2
              have hgy : l.getD j 0 = y := by rw [List.getD_eq_getElem?_getD, hy]; rfl
              haveI : In g wr := ⟨Nat.lt_of_lt_of_le hg hw2.grown.size⟩
              haveI : In w.heap.size wr := ⟨Nat.lt_of_lt_of_le hlt1 hwr.grown.size⟩
              by_cases hlt : j + 1 < m
              · obtain ⟨x, hx⟩ : ∃ x, l[j + 1]? = some x := ⟨_, List.getElem?_eq_getElem (by have := HM.out; omega)⟩
                have cx : wr.cell? ⟨g, o + (j + 1), none⟩ = some (.int .u64 (x : Int)) := cell_nw (HCC.out (j + 1) _ (nums_at hx)) hw2
                have hst := hs.out
                rw [hgy, ascB_step hx] at hst
                have HST := Lib.hid hst
                have HW2 := Lib.hid hw2
                have HWR := Lib.hid hwr
                have hgx : l.getD (j + 1) 0 = x := by rw [List.getD_eq_getElem?_getD, hx]; rfl
                have HGX := Lib.hid hgx
                have k1 : (j : Int) + 1 < (m : Int) := by omega
                have k0 : (0 : Int) ≤ (j : Int) + 1 := by omega
                have k2 : (0 : Int) ≤ (j : Int) := by omega
                have k3 : (j : Int) < (m : Int) := by omega
                have n1 : ((j : Int) + 1).toNat = j + 1 := by omega
                have n2 : (j : Int) + 1 - 1 = j := by omega
                clear hx hst hs hy hgy hgx hw2 hwr
                by_cases hle : x ≤ y
                · have d5 : ((x : Int) ≤ (y : Int)) := by omega
                  have HC := Lib.hid (show chkD 3 0 l = 2 by rw [HC'.out, HST.out, if_pos hle]; rfl)
                  go_wp2_with fail
                  go_quiet (fail)
                  go_wp2
                  go_ret
                  exact ⟨by rw [HC.out]; rfl, HN1.out.trans (by first | exact HWR.out | exact Nw.drewN HWR.out _ | exact Nw.drew HWR.out)⟩
                · have d5 : ¬ ((x : Int) ≤ (y : Int)) := by omega
                  go_wp2_with fail
                  go_quiet (fail)
                  go_wp2
                  exact ⟨⟨j + 1, hlt, by go_num, (by rw [HGX.out, HST.out, if_neg hle] : ascB 0 l = _), by first | exact HWR.out | exact Nw.drewN HWR.out _ | exact Nw.drew HWR.out⟩, by simp [intOf]; omega⟩
              · have k1 : ¬ (j : Int) + 1 < (m : Int) := by omega
                have HC := Lib.hid (show chkD 3 0 l = 0 by rw [HC'.out, hs.out, List.drop_eq_nil_of_le (by have := HM.out; omega)]; rfl)
                go_wp2
                go_ret
                exact ⟨by rw [HC.out]; rfl, hw2⟩
        · have e2 : (63 : Int) < (m : Int) := by omega
          have d2 : decide ((63 : Int) < (m : Int)) = true := by simpa using e2
          have HC := Lib.hid (show chkD _ _ l = 2 by rw [hc]; first | (simp_all; done) | (simp_all; omega) | (simp_all; intros; omega))
          clear hc
          go_enter Tryz.func47, Tryz.ntmps47
          go_wp2
          go_ret
          exact ⟨by rw [HC.out]; rfl, (by repeat (first | exact Xt.Nw.refl _ | refine Xt.Nw.drew ?_ | refine Xt.Nw.drewN ?_ _ | refine Xt.Nw.alloc ?_ _ | refine Xt.Nw.joined ?_ | refine Xt.Nw.drewd ?_ | refine Xt.Nw.drewdN ?_ | refine Xt.Nw.ext ?_ | refine Xt.Nw.ext_some ?_ (by assumption) | refine Xt.Nw.setCell ?_ (by simp [go_sem] <;> omega) _))⟩
      · have e1 : (m : Int) < 1 := by omega
        have d1 : decide ((m : Int) < 1) = true := by simpa using e1
        have HC := Lib.hid (show chkD _ _ l = 2 by rw [hc]; first | (simp_all; done) | (simp_all; omega) | (simp_all; intros; omega))
        clear hc
        go_enter Tryz.func47, Tryz.ntmps47
        go_wp2
        go_ret
        exact ⟨by rw [HC.out]; rfl, (by repeat (first | exact Xt.Nw.refl _ | refine Xt.Nw.drew ?_ | refine Xt.Nw.drewN ?_ _ | refine Xt.Nw.alloc ?_ _ | refine Xt.Nw.joined ?_ | refine Xt.Nw.drewd ?_ | refine Xt.Nw.drewdN ?_ | refine Xt.Nw.ext ?_ | refine Xt.Nw.ext_some ?_ (by assumption) | refine Xt.Nw.setCell ?_ (by simp [go_sem] <;> omega) _))⟩
    · have g1 : (n == 0) = false := by simpa using hn
      have HC := Lib.hid (show chkD _ _ l = 2 by rw [hc]; first | (simp_all; done) | (simp_all; omega) | (simp_all; intros; omega))
      clear hc
      go_enter Tryz.func47, Tryz.ntmps47
      go_wp2
      go_ret
      exact ⟨by rw [HC.out]; rfl, (by repeat (first | exact Xt.Nw.refl _ | refine Xt.Nw.drew ?_ | refine Xt.Nw.drewN ?_ _ | refine Xt.Nw.alloc ?_ _ | refine Xt.Nw.joined ?_ | refine Xt.Nw.drewd ?_ | refine Xt.Nw.drewdN ?_ | refine Xt.Nw.ext ?_ | refine Xt.Nw.ext_some ?_ (by assumption) | refine Xt.Nw.setCell ?_ (by simp [go_sem] <;> omega) _))⟩
  · have g1 : (k == 1) = false := by simpa using k1
    have g2 : (k == 2) = false := by simpa using k2
    have g3 : (k == 3) = false := by simpa using k3
    have HC := Lib.hid (show chkD _ _ l = 2 by rw [hc]; first | (simp_all; done) | (simp_all; omega) | (simp_all; intros; omega))
    clear hc
    go_enter Tryz.func47, Tryz.ntmps47
    go_wp2
    go_ret
    exact ⟨by rw [HC.out]; rfl, (by repeat (first | exact Xt.Nw.refl _ | refine Xt.Nw.drew ?_ | refine Xt.Nw.drewN ?_ _ | refine Xt.Nw.alloc ?_ _ | refine Xt.Nw.joined ?_ | refine Xt.Nw.drewd ?_ | refine Xt.Nw.drewdN ?_ | refine Xt.Nw.ext ?_ | refine Xt.Nw.ext_some ?_ (by assumption) | refine Xt.Nw.setCell ?_ (by simp [go_sem] <;> omega) _))⟩
end Go.Proofs.YtahagplegmcaaaaGreatDoor
