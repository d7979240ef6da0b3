import Derived.Test.YtjpgechcfkhoaaaFi
import Derived.Test.YtjpgechcfkhoaaaFm0
namespace Go.Proofs.Ytjpgechcfkhoaaa
open Go.RowKit Go.Xt
theorem sumT_mono (f : Nat → Nat) {T T' : Nat} (h : T ≤ T') : sumT f T ≤ sumT f T' := by
  induction h with
  | refl => exact Nat.le_refl _
  | step _ ih => rw [sumT]; omega
set_option maxRecDepth 20000 in
set_option maxHeartbeats 8000000 in
theorem hthreads_any (A : Option Addr) (n c : Nat) (l : List Cl) (w : World) (hnc : n ≤ c) (hc : c ≤ 9223372036854775807) (hl : Cs w A n l) (hw : ∀ y ∈ l, WfC y) :
    Calls Try.prog 8 #[.slice A n c] w fun e w' => e = .returned (.bool true) ∧ Nw w w' := by
  obtain ⟨L, hL⟩ : ∃ L, l.take 40 = L := ⟨_, rfl⟩
  obtain ⟨n1, hn1⟩ : ∃ n1, L.length = n1 := ⟨_, rfl⟩
  have hn40 : n1 ≤ 40 := by rw [← hn1, ← hL]; exact few_len l
  have hwL : ∀ y ∈ L, WfC y := by rw [← hL]; exact few_wf hw
  have HL := Lib.hid hl
  have HWL := Lib.hid hwL
  have HN1 := Lib.hid hn1
  have HL1 := Lib.hid hL
  clear hl hw hwL hL
  rcases chk_cases L with ⟨hb, hv⟩ | ⟨i, hb, hv⟩
  · have HB := Lib.hid hb
    have HV := Lib.hid hv
    obtain ⟨f, hf⟩ : ∃ f : Nat → Nat, f = fun t : Nat => (ofT (t : Int) L).length := ⟨_, rfl⟩
    obtain ⟨g, hg⟩ : ∃ g : Nat → Nat, g = fun t : Nat => (pendK (ofT (t : Int) L) (ofT (t : Int) L).length).length := ⟨_, rfl⟩
    obtain ⟨nx, hnx⟩ : ∃ nx, (pendK L n1).length = nx := ⟨_, rfl⟩
    have hsf : sumT f 64 = n1 := by rw [hf, sum_all hb, hn1]
    have hsg : sumT g 64 = nx := by rw [hg, sum_pend hb, hn1, hnx]
    have hnx40 : nx ≤ 40 := by
      have := pendK_cnt L n1
      have h2 := List.length_filter_le (fun x : Cl => decide (x.ans < 0)) (L.take n1)
      rw [List.length_take] at h2; omega
    have HSF := Lib.hid hsf
    have HSG := Lib.hid hsg
    have HF := Lib.hid hf
    have HG := Lib.hid hg
    have HNX := Lib.hid hnx
    clear hb hv hf hg hsf hsg hnx hn1
    go_enter Try.func8, Try.ntmps8
    go_wp2_with fail
    refine (few_cs _ hnc hc HL1.out HN1.out HL.out).mono ?_
    rintro e w' ⟨A1, c1, rfl, h1, dW, rfl⟩
    have H1 := Lib.hid h1
    clear h1
    go_wp2_with fail
    refine (check_any A1 n1 c1 L _ (by omega) H1.out.2.1 H1.out.2.2.1 (H1.out.1.nw ((by repeat (first | exact Xt.Nw.refl _ | refine Xt.Nw.drew ?_ | refine Xt.Nw.drewN ?_ _ | refine Xt.Nw.alloc ?_ _ | refine Xt.Nw.joined ?_ | refine Xt.Nw.drewd ?_ | refine Xt.Nw.drewdN ?_ | refine Xt.Nw.ext ?_ | refine Xt.Nw.ext_some ?_ (by assumption) | refine Xt.Nw.setCell ?_ (by simp [go_sem] <;> omega) _)))) HWL.out).mono ?_
    rw [HV.out]
    rintro e W1 ⟨rfl, hn1⟩
    have HW1 := Lib.hid (show Nw w W1 from Nw.trans ((by repeat (first | exact Xt.Nw.refl _ | refine Xt.Nw.drew ?_ | refine Xt.Nw.drewN ?_ _ | refine Xt.Nw.alloc ?_ _ | refine Xt.Nw.joined ?_ | refine Xt.Nw.drewd ?_ | refine Xt.Nw.drewdN ?_ | refine Xt.Nw.ext ?_ | refine Xt.Nw.ext_some ?_ (by assumption) | refine Xt.Nw.setCell ?_ (by simp [go_sem] <;> omega) _))) hn1)
    have HC1 := Lib.hid (H1.out.1.nw hn1)
    have hc1 := H1.out.2.1
    have hm1 := H1.out.2.2.1
    clear hn1 H1
    go_wp2_with fail
    go_loopw [6, 7, 8] (fun a b c wr => ∃ T S1 S2 : Nat, T ≤ 64 ∧ a = .int .i64 S1 ∧ b = .int .i64 S2 ∧ c = .int .i64 T ∧ Hid (S1 = sumT f T ∧ S2 = sumT g T) ∧ Nw W1 wr) (fun _ _ c _ => 64 - (intOf c).toNat)
    case atStart => exact ⟨0, 0, 0, by omega, rfl, rfl, rfl, ⟨rfl, rfl⟩, Nw.refl _⟩
    case round =>
      obtain ⟨T, S1, S2, hT, rfl, rfl, rfl, hS, d, rfl⟩ := hrel
      by_cases hlt : T < 64
      · have hT64 : (T : Int) < 64 := by omega
        obtain ⟨na, hna⟩ : ∃ na, (ofT (T : Int) L).length = na := ⟨_, rfl⟩
        obtain ⟨nq, hnq⟩ : ∃ nq, (pendK (ofT (T : Int) L) na).length = nq := ⟨_, rfl⟩
        have hfT : f T = na := by rw [HF.out]; exact hna
        have hgT : g T = nq := by
          rw [HG.out]
          show (pendK (ofT (T : Int) L) (ofT (T : Int) L).length).length = nq
          rw [hna]; exact hnq
        have hb1 : S1 + na ≤ 40 := by
          have h1 := sumT_mono f (show T + 1 ≤ 64 by omega)
          rw [sumT, HSF.out, hfT] at h1
          have := hS.out.1; omega
        have hb2 : S2 + nq ≤ 40 := by
          have h1 := sumT_mono g (show T + 1 ≤ 64 by omega)
          rw [sumT, HSG.out, hgT] at h1
          have := hS.out.2; omega
        have hS' := Lib.hid (show S1 + na = sumT f (T + 1) ∧ S2 + nq = sumT g (T + 1) by rw [sumT, sumT, hfT, hgT, ← hS.out.1, ← hS.out.2]; exact ⟨rfl, rfl⟩)
        have hpl := pend_last (t := (T : Int)) HB.out
        rw [hna] at hpl
        have HPL := Lib.hid hpl
        have HNA := Lib.hid hna
        have HNQ := Lib.hid hnq
        clear hfT hgT hpl hna hnq hS
        go_wp2_with fail
        refine (of_all (T : Int) A1 n1 c1 L _ (by omega) (HC1.out.nw ((by repeat (first | exact Xt.Nw.refl _ | refine Xt.Nw.drew ?_ | refine Xt.Nw.drewN ?_ _ | refine Xt.Nw.alloc ?_ _ | refine Xt.Nw.joined ?_ | refine Xt.Nw.drewd ?_ | refine Xt.Nw.drewdN ?_ | refine Xt.Nw.ext ?_ | refine Xt.Nw.ext_some ?_ (by assumption) | refine Xt.Nw.setCell ?_ (by simp [go_sem] <;> omega) _))))).mono ?_
        rintro e w' ⟨v, rfl, hown, dW, rfl⟩
        obtain ⟨Aa, ca, rfl, ha⟩ := hown.new HNA.out
        have HA := Lib.hid ha.1
        clear ha hown
        go_wp2_with fail
        refine (pending_any Aa na ca (ofT (T : Int) L) _ (by omega) (HA.out.nw ((by repeat (first | exact Xt.Nw.refl _ | refine Xt.Nw.drew ?_ | refine Xt.Nw.drewN ?_ _ | refine Xt.Nw.alloc ?_ _ | refine Xt.Nw.joined ?_ | refine Xt.Nw.drewd ?_ | refine Xt.Nw.drewdN ?_ | refine Xt.Nw.ext ?_ | refine Xt.Nw.ext_some ?_ (by assumption) | refine Xt.Nw.setCell ?_ (by simp [go_sem] <;> omega) _))))).mono ?_
        rintro e W2 ⟨v, rfl, hown, hn2⟩
        obtain ⟨Ap, cp, rfl, hp⟩ := hown.new HNQ.out
        have HP := Lib.hid hp
        have HA2 := Lib.hid (HA.out.nw hn2)
        have HN2 := Lib.hid (show Nw W1 W2 from Nw.trans ((by repeat (first | exact Xt.Nw.refl _ | refine Xt.Nw.drew ?_ | refine Xt.Nw.drewN ?_ _ | refine Xt.Nw.alloc ?_ _ | refine Xt.Nw.joined ?_ | refine Xt.Nw.drewd ?_ | refine Xt.Nw.drewdN ?_ | refine Xt.Nw.ext ?_ | refine Xt.Nw.ext_some ?_ (by assumption) | refine Xt.Nw.setCell ?_ (by simp [go_sem] <;> omega) _))) hn2)
        clear hp hown hn2 HA
        rcases HPL.out with h0 | h0
        · have hq0 : nq = 0 := by have := HNQ.out; rw [h0] at this; exact this.symm
          subst hq0
          clear h0 HPL HNQ
          go_wp2_with fail
          go_loopw [11] (fun a wr => ∃ i : Nat, i ≤ na ∧ a = .int .i64 i ∧ Nw W2 wr) (fun a _ => na - (intOf a).toNat)
          case atStart => exact ⟨0, by omega, rfl, Nw.refl _⟩
          case round =>
            obtain ⟨i, hi, rfl, d4, rfl⟩ := hrel
            by_cases hli : i < na
            · obtain ⟨ba, oa, y, rfl, hba, hy, hcy⟩ := HA2.out.get hli
              haveI : In ba W2 := ⟨hba⟩
              haveI : CallAt W2 ba (oa + i * 18) y := ⟨hcy, hba⟩
              have hti := thr_at HB.out hy
              have q0 : W2.cell? ⟨ba, oa + i * 18, none⟩ = some (.int .i64 (T : Int)) := by rw [← hti.1]; exact hcy.1
              have q1 : W2.cell? ⟨ba, oa + i * 18 + 1, none⟩ = some (.int .i64 (i : Int)) := by rw [← hti.2]; exact hcy.2.1
              have hin : (i : Int) < (na : Int) := by omega
              rcases Nat.eq_zero_or_pos i with hi0 | hi0
              · have dg : decide (0 < i) = false := by simp [hi0]
                clear hi0 hti hy hcy
                go_upto_region 18 with (fail)
                (refine wp_region_nw (by kernel_rfl) (by kernel_rfl) ?_; (repeat (go_big_quiet_step (fail))); refine wpQuiet_nil ?_; intro _ hreg; obtain ⟨dW, rfl⟩ : Nw _ _ := hreg)
                go_wp2
                refine ⟨⟨i + 1, by omega, by go_num, (by repeat (first | exact Xt.Nw.refl _ | refine Xt.Nw.drew ?_ | refine Xt.Nw.drewN ?_ _ | refine Xt.Nw.alloc ?_ _ | refine Xt.Nw.joined ?_ | refine Xt.Nw.drewd ?_ | refine Xt.Nw.drewdN ?_ | refine Xt.Nw.ext ?_ | refine Xt.Nw.ext_some ?_ (by assumption) | refine Xt.Nw.setCell ?_ (by simp [go_sem] <;> omega) _))⟩, by first | (simp [intOf]; omega) | omega | (simp only [intOf]; omega)⟩
              · have dg : decide (0 < i) = true := by simpa using hi0
                obtain ⟨k, hk⟩ : ∃ k, k + 1 = i := ⟨i - 1, by omega⟩
                have hki : (i : Int) - 1 = (k : Int) := by omega
                have hkw : IntKind.i64.wrap (k : Int) = (k : Int) := by rw [IntKind.wrap_i64] <;> omega
                have hkn : k < na := by omega
                have hkn' : (k : Int) < (na : Int) := by omega
                obtain ⟨b', o', x, e1, _, hx, hcx⟩ := HA2.out.get hkn
                obtain ⟨rfl, rfl⟩ : ba = b' ∧ oa = o' := by simpa using e1
                haveI : CallAt W2 ba (oa + k * 18) x := ⟨hcx, hba⟩
                have hbf : bf x y = true := thr_prec HB.out hx (by rw [hk]; exact hy)
                have hbc := Lib.hid (fun W => before_any x y W)
                rw [hbf] at hbc
                clear hi0 hti hy hcy hx hcx e1 hbf hk
                go_upto_region 18 with (fail)
                (refine wp_region_nw (by kernel_rfl) (by kernel_rfl) ?_; (repeat (go_big_quiet_step ((go_at_call 30; exact quiet_of (hbc.out _))))); refine wpQuiet_nil ?_; intro _ hreg; obtain ⟨dW, rfl⟩ : Nw _ _ := hreg)
                go_wp2
                refine ⟨⟨i + 1, by omega, by go_num, (by repeat (first | exact Xt.Nw.refl _ | refine Xt.Nw.drew ?_ | refine Xt.Nw.drewN ?_ _ | refine Xt.Nw.alloc ?_ _ | refine Xt.Nw.joined ?_ | refine Xt.Nw.drewd ?_ | refine Xt.Nw.drewdN ?_ | refine Xt.Nw.ext ?_ | refine Xt.Nw.ext_some ?_ (by assumption) | refine Xt.Nw.setCell ?_ (by simp [go_sem] <;> omega) _))⟩, by first | (simp [intOf]; omega) | omega | (simp only [intOf]; omega)⟩
            · have hli2 : ¬ (i : Int) < (na : Int) := by omega
              go_wp2
              refine ⟨⟨T + 1, S1 + na, S2 + 0, by omega, by go_num, by go_num, by go_num, hS'.out, HN2.out.trans ((by repeat (first | exact Xt.Nw.refl _ | refine Xt.Nw.drew ?_ | refine Xt.Nw.drewN ?_ _ | refine Xt.Nw.alloc ?_ _ | refine Xt.Nw.joined ?_ | refine Xt.Nw.drewd ?_ | refine Xt.Nw.drewdN ?_ | refine Xt.Nw.ext ?_ | refine Xt.Nw.ext_some ?_ (by assumption) | refine Xt.Nw.setCell ?_ (by simp [go_sem] <;> omega) _)))⟩, by first | (simp [intOf]; omega) | omega | (simp only [intOf]; omega)⟩
        · have hq0 : nq = 1 := by have := HNQ.out; rw [h0] at this; exact this.symm
          subst hq0
          have hp1 := HP.out
          rw [h0] at hp1
          obtain ⟨bp, op, zp, rfl, hbp, hz0, hcp⟩ := hp1.get (i := 0) (by omega)
          obtain rfl : (na : Int) - 1 = zp := by simpa using hz0
          rw [Nat.add_zero] at hcp
          haveI : In bp W2 := ⟨hbp⟩
          have hwr : IntKind.i64.wrap ((na : Int) - 1) = (na : Int) - 1 := by rw [IntKind.wrap_i64] <;> omega
          clear h0 HPL HNQ hp1 hz0
          go_wp2_with fail
          go_loopw [11] (fun a wr => ∃ i : Nat, i ≤ na ∧ a = .int .i64 i ∧ Nw W2 wr) (fun a _ => na - (intOf a).toNat)
          case atStart => exact ⟨0, by omega, rfl, Nw.refl _⟩
          case round =>
            obtain ⟨i, hi, rfl, d4, rfl⟩ := hrel
            by_cases hli : i < na
            · obtain ⟨ba, oa, y, rfl, hba, hy, hcy⟩ := HA2.out.get hli
              haveI : In ba W2 := ⟨hba⟩
              haveI : CallAt W2 ba (oa + i * 18) y := ⟨hcy, hba⟩
              have hti := thr_at HB.out hy
              have q0 : W2.cell? ⟨ba, oa + i * 18, none⟩ = some (.int .i64 (T : Int)) := by rw [← hti.1]; exact hcy.1
              have q1 : W2.cell? ⟨ba, oa + i * 18 + 1, none⟩ = some (.int .i64 (i : Int)) := by rw [← hti.2]; exact hcy.2.1
              have hin : (i : Int) < (na : Int) := by omega
              rcases Nat.eq_zero_or_pos i with hi0 | hi0
              · have dg : decide (0 < i) = false := by simp [hi0]
                clear hi0 hti hy hcy
                go_upto_region 18 with (fail)
                (refine wp_region_nw (by kernel_rfl) (by kernel_rfl) ?_; (repeat (go_big_quiet_step (fail))); refine wpQuiet_nil ?_; intro _ hreg; obtain ⟨dW, rfl⟩ : Nw _ _ := hreg)
                go_wp2
                refine ⟨⟨i + 1, by omega, by go_num, (by repeat (first | exact Xt.Nw.refl _ | refine Xt.Nw.drew ?_ | refine Xt.Nw.drewN ?_ _ | refine Xt.Nw.alloc ?_ _ | refine Xt.Nw.joined ?_ | refine Xt.Nw.drewd ?_ | refine Xt.Nw.drewdN ?_ | refine Xt.Nw.ext ?_ | refine Xt.Nw.ext_some ?_ (by assumption) | refine Xt.Nw.setCell ?_ (by simp [go_sem] <;> omega) _))⟩, by first | (simp [intOf]; omega) | omega | (simp only [intOf]; omega)⟩
              · have dg : decide (0 < i) = true := by simpa using hi0
                obtain ⟨k, hk⟩ : ∃ k, k + 1 = i := ⟨i - 1, by omega⟩
                have hki : (i : Int) - 1 = (k : Int) := by omega
                have hkw : IntKind.i64.wrap (k : Int) = (k : Int) := by rw [IntKind.wrap_i64] <;> omega
                have hkn : k < na := by omega
                have hkn' : (k : Int) < (na : Int) := by omega
                obtain ⟨b', o', x, e1, _, hx, hcx⟩ := HA2.out.get hkn
                obtain ⟨rfl, rfl⟩ : ba = b' ∧ oa = o' := by simpa using e1
                haveI : CallAt W2 ba (oa + k * 18) x := ⟨hcx, hba⟩
                have hbf : bf x y = true := thr_prec HB.out hx (by rw [hk]; exact hy)
                have hbc := Lib.hid (fun W => before_any x y W)
                rw [hbf] at hbc
                clear hi0 hti hy hcy hx hcx e1 hbf hk
                go_upto_region 18 with (fail)
                (refine wp_region_nw (by kernel_rfl) (by kernel_rfl) ?_; (repeat (go_big_quiet_step ((go_at_call 30; exact quiet_of (hbc.out _))))); refine wpQuiet_nil ?_; intro _ hreg; obtain ⟨dW, rfl⟩ : Nw _ _ := hreg)
                go_wp2
                refine ⟨⟨i + 1, by omega, by go_num, (by repeat (first | exact Xt.Nw.refl _ | refine Xt.Nw.drew ?_ | refine Xt.Nw.drewN ?_ _ | refine Xt.Nw.alloc ?_ _ | refine Xt.Nw.joined ?_ | refine Xt.Nw.drewd ?_ | refine Xt.Nw.drewdN ?_ | refine Xt.Nw.ext ?_ | refine Xt.Nw.ext_some ?_ (by assumption) | refine Xt.Nw.setCell ?_ (by simp [go_sem] <;> omega) _))⟩, by first | (simp [intOf]; omega) | omega | (simp only [intOf]; omega)⟩
            · have hli2 : ¬ (i : Int) < (na : Int) := by omega
              go_wp2
              refine ⟨⟨T + 1, S1 + na, S2 + 1, by omega, by go_num, by go_num, by go_num, hS'.out, HN2.out.trans ((by repeat (first | exact Xt.Nw.refl _ | refine Xt.Nw.drew ?_ | refine Xt.Nw.drewN ?_ _ | refine Xt.Nw.alloc ?_ _ | refine Xt.Nw.joined ?_ | refine Xt.Nw.drewd ?_ | refine Xt.Nw.drewdN ?_ | refine Xt.Nw.ext ?_ | refine Xt.Nw.ext_some ?_ (by assumption) | refine Xt.Nw.setCell ?_ (by simp [go_sem] <;> omega) _)))⟩, by first | (simp [intOf]; omega) | omega | (simp only [intOf]; omega)⟩
      · have hT64 : T = 64 := by omega
        subst hT64
        have h1 := hS.out
        rw [HSF.out, HSG.out] at h1
        obtain ⟨rfl, rfl⟩ := h1
        clear hS
        go_wp2_with fail
        refine (pending_any A1 S1 c1 L _ (by omega) (HC1.out.nw ((by repeat (first | exact Xt.Nw.refl _ | refine Xt.Nw.drew ?_ | refine Xt.Nw.drewN ?_ _ | refine Xt.Nw.alloc ?_ _ | refine Xt.Nw.joined ?_ | refine Xt.Nw.drewd ?_ | refine Xt.Nw.drewdN ?_ | refine Xt.Nw.ext ?_ | refine Xt.Nw.ext_some ?_ (by assumption) | refine Xt.Nw.setCell ?_ (by simp [go_sem] <;> omega) _))))).mono ?_
        rintro e w' ⟨v, rfl, hown, dW, rfl⟩
        obtain ⟨Ap, cp, rfl, hp⟩ := hown.new HNX.out
        clear hown hp
        go_wp2_with fail
        refine (awake_any _).mono ?_
        rintro e w' ⟨rfl, dW, rfl⟩
        go_wp2
        go_ret
        exact ⟨rfl, HW1.out.trans ((by repeat (first | exact Xt.Nw.refl _ | refine Xt.Nw.drew ?_ | refine Xt.Nw.drewN ?_ _ | refine Xt.Nw.alloc ?_ _ | refine Xt.Nw.joined ?_ | refine Xt.Nw.drewd ?_ | refine Xt.Nw.drewdN ?_ | refine Xt.Nw.ext ?_ | refine Xt.Nw.ext_some ?_ (by assumption) | refine Xt.Nw.setCell ?_ (by simp [go_sem] <;> omega) _)))⟩
  · have HV := Lib.hid hv
    clear hb hv
    go_enter Try.func8, Try.ntmps8
    go_wp2_with fail
    refine (few_cs _ hnc hc HL1.out HN1.out HL.out).mono ?_
    rintro e w' ⟨A1, c1, rfl, h1, dW, rfl⟩
    have H1 := Lib.hid h1
    clear h1
    go_wp2_with fail
    refine (check_any A1 n1 c1 L _ (by omega) H1.out.2.1 H1.out.2.2.1 (H1.out.1.nw ((by repeat (first | exact Xt.Nw.refl _ | refine Xt.Nw.drew ?_ | refine Xt.Nw.drewN ?_ _ | refine Xt.Nw.alloc ?_ _ | refine Xt.Nw.joined ?_ | refine Xt.Nw.drewd ?_ | refine Xt.Nw.drewdN ?_ | refine Xt.Nw.ext ?_ | refine Xt.Nw.ext_some ?_ (by assumption) | refine Xt.Nw.setCell ?_ (by simp [go_sem] <;> omega) _)))) HWL.out).mono ?_
    rw [HV.out]
    rintro e w' ⟨rfl, dW, rfl⟩
    go_wp2_with fail
    refine (awake_any _).mono ?_
    rintro e w' ⟨rfl, dW, rfl⟩
    go_wp2
    go_ret
    exact ⟨rfl, (by repeat (first | exact Xt.Nw.refl _ | refine Xt.Nw.drew ?_ | refine Xt.Nw.drewN ?_ _ | refine Xt.Nw.alloc ?_ _ | refine Xt.Nw.joined ?_ | refine Xt.Nw.drewd ?_ | refine Xt.Nw.drewdN ?_ | refine Xt.Nw.ext ?_ | refine Xt.Nw.ext_some ?_ (by assumption) | refine Xt.Nw.setCell ?_ (by simp [go_sem] <;> omega) _))⟩
end Go.Proofs.Ytjpgechcfkhoaaa
