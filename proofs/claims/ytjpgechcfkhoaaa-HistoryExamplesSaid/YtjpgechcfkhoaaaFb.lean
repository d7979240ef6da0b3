import Derived.Test.YtjpgechcfkhoaaaFa
namespace Go.Proofs.Ytjpgechcfkhoaaa
open Go.RowKit Go.Xt
set_option maxRecDepth 20000 in
set_option maxHeartbeats 8000000 in
theorem ragrees_any (B : Option Addr) (m cm : Nat) (o : List Int) (A : Option Addr) (n c : Nat) (l : List Cl) (w : World) (hm : m ≤ 1000) (ho : Is w B m o) (hn : n ≤ 1000) (hl : Cs w A n l) (hw : ∀ y ∈ l, WfC y) :
    Calls Try.prog 26 #[.slice B m cm, .slice A n c] w fun e w' => e = .returned (.tuple #[.bool (agrB o l), .int .i64 (agrE o l)]) ∧ Nw w w' := by
  have HK := Lib.hid (rcheck_any A n c l w hn hl hw)
  have HL := Lib.hid hl
  have HO := Lib.hid ho
  have hlen := hl.1
  have hlo := ho.1
  clear hl hw ho
  rcases chk_cases l with ⟨hb, hv⟩ | ⟨i, hb, hv⟩
  · rw [hv] at HK
    have hE : agrE o l = scE o n 0 (o.length - 0) := by rw [agrE, if_pos hb, hlen]; rfl
    have HE := Lib.hid hE
    clear hb hv hE
    have hpl := Lib.hid (fun i W (h : Is W B m o) => place_any B m cm o i W hm h)
    go_enter Try.func26, Try.ntmps26
    go_wp2_with (go_at_call 12; refine (HK.out).mono ?_; rintro e w' ⟨rfl, dW, rfl⟩)
    go_loopw [8] (fun a wr => ∃ k : Nat, k ≤ m ∧ a = .int .i64 k ∧ Hid (agrE o l = scE o n k (o.length - k)) ∧ Nw w wr) (fun a _ => m - (intOf a).toNat)
    case atStart => exact ⟨0, by omega, rfl, HE.out, (by repeat (first | exact Xt.Nw.refl _ | refine Xt.Nw.drew ?_ | refine Xt.Nw.drewN ?_ _ | refine Xt.Nw.alloc ?_ _ | refine Xt.Nw.joined ?_ | refine Xt.Nw.drewd ?_ | refine Xt.Nw.drewdN ?_ | refine Xt.Nw.ext ?_ | refine Xt.Nw.ext_some ?_ (by assumption) | refine Xt.Nw.setCell ?_ (by simp [go_sem] <;> omega) _))⟩
    case round =>
      obtain ⟨k, hk, rfl, hsc, d, rfl⟩ := hrel
      by_cases hlt : k < m
      · obtain ⟨b, o1, x, rfl, hb, hx, hcx⟩ := HO.out.get hlt
        haveI : In b w := ⟨hb⟩
        have hS := Lib.hid (scE_cons (n := n) hx)
        have hP := Lib.hid (plF_lt hx)
        have hkm : (k : Int) < (m : Int) := by omega
        clear hx
        by_cases h1 : x < 0
        · have hd1 : decide (x < 0) = true := by simpa using h1
          have hE : agrE o l = 3 := by rw [hsc.out, hS.out, if_pos (.inl h1)]
          have HE3 := Lib.hid hE
          clear hE
          go_wp2
          refine bodyPost_ret (results_tmp2 rfl _ _ _) rfl ⟨by rw [agrB_false (by rw [HE3.out]; decide), HE3.out]; rfl, (by repeat (first | exact Xt.Nw.refl _ | refine Xt.Nw.drew ?_ | refine Xt.Nw.drewN ?_ _ | refine Xt.Nw.alloc ?_ _ | refine Xt.Nw.joined ?_ | refine Xt.Nw.drewd ?_ | refine Xt.Nw.drewdN ?_ | refine Xt.Nw.ext ?_ | refine Xt.Nw.ext_some ?_ (by assumption) | refine Xt.Nw.setCell ?_ (by simp [go_sem] <;> omega) _))⟩
        · have hd1 : decide (x < 0) = false := by simpa using h1
          by_cases h2 : (n : Int) ≤ x
          · have hd2 : decide ((n : Int) ≤ x) = true := by simpa using h2
            have hE : agrE o l = 3 := by rw [hsc.out, hS.out, if_pos (.inr h2)]
            have HE3 := Lib.hid hE
            clear hE
            go_wp2
            refine bodyPost_ret (results_tmp2 rfl _ _ _) rfl ⟨by rw [agrB_false (by rw [HE3.out]; decide), HE3.out]; rfl, (by repeat (first | exact Xt.Nw.refl _ | refine Xt.Nw.drew ?_ | refine Xt.Nw.drewN ?_ _ | refine Xt.Nw.alloc ?_ _ | refine Xt.Nw.joined ?_ | refine Xt.Nw.drewd ?_ | refine Xt.Nw.drewdN ?_ | refine Xt.Nw.ext ?_ | refine Xt.Nw.ext_some ?_ (by assumption) | refine Xt.Nw.setCell ?_ (by simp [go_sem] <;> omega) _))⟩
          · have hd2 : decide ((n : Int) ≤ x) = false := by simpa using h2
            by_cases h3 : x ∈ o.take k
            · have hE : agrE o l = 9 := by rw [hsc.out, hS.out, if_neg (by omega), if_pos h3]
              have HE3 := Lib.hid hE
              have hp3 : decide (plF o x 0 < (k : Int)) = true := by simpa using hP.out.1.2 h3
              clear hE h3
              have hpx := Lib.hid (hpl.out x)
              obtain ⟨pv, hpv⟩ : ∃ p, p = plF o x 0 := ⟨_, rfl⟩
              rw [← hpv] at hpx hp3
              clear hpv
              go_wp2_with (go_at_call 43; refine (hpx.out _ (HO.out.nw ((by repeat (first | exact Xt.Nw.refl _ | refine Xt.Nw.drew ?_ | refine Xt.Nw.drewN ?_ _ | refine Xt.Nw.alloc ?_ _ | refine Xt.Nw.joined ?_ | refine Xt.Nw.drewd ?_ | refine Xt.Nw.drewdN ?_ | refine Xt.Nw.ext ?_ | refine Xt.Nw.ext_some ?_ (by assumption) | refine Xt.Nw.setCell ?_ (by simp [go_sem] <;> omega) _))))).mono ?_; rintro e w' ⟨rfl, dW, rfl⟩)
              refine bodyPost_ret (results_tmp2 rfl _ _ _) rfl ⟨by rw [agrB_false (by rw [HE3.out]; decide), HE3.out]; rfl, (by repeat (first | exact Xt.Nw.refl _ | refine Xt.Nw.drew ?_ | refine Xt.Nw.drewN ?_ _ | refine Xt.Nw.alloc ?_ _ | refine Xt.Nw.joined ?_ | refine Xt.Nw.drewd ?_ | refine Xt.Nw.drewdN ?_ | refine Xt.Nw.ext ?_ | refine Xt.Nw.ext_some ?_ (by assumption) | refine Xt.Nw.setCell ?_ (by simp [go_sem] <;> omega) _))⟩
            · have hE := Lib.hid (show agrE o l = scE o n (k + 1) (o.length - (k + 1)) by rw [hsc.out, hS.out, if_neg (by omega), if_neg h3])
              have hp3 : decide (plF o x 0 < (k : Int)) = false := by
                rw [decide_eq_false_iff_not]; exact fun h => h3 (hP.out.1.1 h)
              clear h3
              have hpx := Lib.hid (hpl.out x)
              obtain ⟨pv, hpv⟩ : ∃ p, p = plF o x 0 := ⟨_, rfl⟩
              rw [← hpv] at hpx hp3
              have HPV := Lib.hid hpv
              clear hpv
              go_wp2_with (go_at_call 43; refine (hpx.out _ (HO.out.nw ((by repeat (first | exact Xt.Nw.refl _ | refine Xt.Nw.drew ?_ | refine Xt.Nw.drewN ?_ _ | refine Xt.Nw.alloc ?_ _ | refine Xt.Nw.joined ?_ | refine Xt.Nw.drewd ?_ | refine Xt.Nw.drewdN ?_ | refine Xt.Nw.ext ?_ | refine Xt.Nw.ext_some ?_ (by assumption) | refine Xt.Nw.setCell ?_ (by simp [go_sem] <;> omega) _))))).mono ?_; rintro e w' ⟨rfl, dW, rfl⟩)
              refine ⟨⟨k + 1, by omega, by go_num, hE.out, (by repeat (first | exact Xt.Nw.refl _ | refine Xt.Nw.drew ?_ | refine Xt.Nw.drewN ?_ _ | refine Xt.Nw.alloc ?_ _ | refine Xt.Nw.joined ?_ | refine Xt.Nw.drewd ?_ | refine Xt.Nw.drewdN ?_ | refine Xt.Nw.ext ?_ | refine Xt.Nw.ext_some ?_ (by assumption) | refine Xt.Nw.setCell ?_ (by simp [go_sem] <;> omega) _))⟩, by simp [intOf]; omega⟩
      · have hkn : k = m := by omega
        have hE0 : agrE o l = 0 := by rw [hsc.out, hkn, hlo, Nat.sub_self]; rfl
        have HE0 := Lib.hid hE0
        clear hE0 hsc hlt
        subst hkn
        go_wp2
        go_loopw [9] (fun a wr => ∃ I : Nat, I ≤ n ∧ a = .int .i64 I ∧ Hid (∀ (i k : Nat) (x y : Cl), i < I → l[i]? = some x → l[k]? = some y → okIK o x y i k = true) ∧ Nw w wr) (fun a _ => n - (intOf a).toNat)
        case atStart => exact ⟨0, by omega, rfl, (fun i k x y h => absurd h (by omega)), (by repeat (first | exact Xt.Nw.refl _ | refine Xt.Nw.drew ?_ | refine Xt.Nw.drewN ?_ _ | refine Xt.Nw.alloc ?_ _ | refine Xt.Nw.joined ?_ | refine Xt.Nw.drewd ?_ | refine Xt.Nw.drewdN ?_ | refine Xt.Nw.ext ?_ | refine Xt.Nw.ext_some ?_ (by assumption) | refine Xt.Nw.setCell ?_ (by simp [go_sem] <;> omega) _))⟩
        case round =>
          obtain ⟨I, hI, rfl, hok, d2, rfl⟩ := hrel
          by_cases hltI : I < n
          · obtain ⟨b, o1, x, rfl, hb, hx, hcx⟩ := HL.out.get hltI
            haveI : In b w := ⟨hb⟩
            haveI : CallAt w b (o1 + I * 18) x := ⟨hcx, hb⟩
            have HX := Lib.hid hx
            have hIn : (I : Int) < (n : Int) := by omega
            have hpi := Lib.hid (hpl.out (I : Int))
            obtain ⟨pi, hpiv⟩ : ∃ p, p = plF o (I : Int) 0 := ⟨_, rfl⟩
            rw [← hpiv] at hpi
            have HPI := Lib.hid hpiv
            clear hx hcx hpiv
            go_wp2
            go_loopw [10, 11, 12] (fun a _ _ wr => ∃ J : Nat, J ≤ n ∧ a = .int .i64 J ∧ Hid (∀ (k : Nat) (y : Cl), k < J → l[k]? = some y → okIK o x y I k = true) ∧ Nw (w.ext none d2) wr) (fun a _ _ _ => n - (intOf a).toNat)
            case atStart => exact ⟨0, by omega, rfl, (fun k y h => absurd h (by omega)), (by repeat (first | exact Xt.Nw.refl _ | refine Xt.Nw.drew ?_ | refine Xt.Nw.drewN ?_ _ | refine Xt.Nw.alloc ?_ _ | refine Xt.Nw.joined ?_ | refine Xt.Nw.drewd ?_ | refine Xt.Nw.drewdN ?_ | refine Xt.Nw.ext ?_ | refine Xt.Nw.ext_some ?_ (by assumption) | refine Xt.Nw.setCell ?_ (by simp [go_sem] <;> omega) _))⟩
            case round =>
              obtain ⟨J, hJ, rfl, hokJ, d3, rfl⟩ := hrel
              by_cases hltJ : J < n
              · obtain ⟨b', o1', y, e1, _, hy, hcy⟩ := HL.out.get hltJ
                obtain ⟨rfl, rfl⟩ : b = b' ∧ o1 = o1' := by simpa using e1
                haveI : CallAt w b (o1 + J * 18) y := ⟨hcy, hb⟩
                have HY := Lib.hid hy
                have hJn : (J : Int) < (n : Int) := by omega
                have hpj := Lib.hid (hpl.out (J : Int))
                obtain ⟨pj, hpjv⟩ : ∃ p, p = plF o (J : Int) 0 := ⟨_, rfl⟩
                rw [← hpjv] at hpj
                have HPJ := Lib.hid hpjv
                have hbf := Lib.hid (fun W => rbefore_any x y W)
                clear hy hcy hpjv e1
                have hnext : okIK o x y I J = true → Hid (∀ (k : Nat) (y : Cl), k < J + 1 → l[k]? = some y → okIK o x y I k = true) := fun h k z hk hz => by
                  rcases Nat.lt_succ_iff_lt_or_eq.1 hk with hk' | rfl
                  · exact hokJ.out k z hk' hz
                  · have := HY.out; rw [hz] at this; injection this with this; subst this; exact h
                have HNX := Lib.hid hnext
                clear hnext
                cases hb0 : bf x y with
                | false =>
                  rw [hb0] at hbf
                  have HB0 := Lib.hid hb0
                  clear hb0
                  go_wp2_with fail
                  refine (hpi.out _ (HO.out.nw ((by repeat (first | exact Xt.Nw.refl _ | refine Xt.Nw.drew ?_ | refine Xt.Nw.drewN ?_ _ | refine Xt.Nw.alloc ?_ _ | refine Xt.Nw.joined ?_ | refine Xt.Nw.drewd ?_ | refine Xt.Nw.drewdN ?_ | refine Xt.Nw.ext ?_ | refine Xt.Nw.ext_some ?_ (by assumption) | refine Xt.Nw.setCell ?_ (by simp [go_sem] <;> omega) _))))).mono ?_
                  rintro e w' ⟨rfl, dW, rfl⟩
                  go_wp2_with fail
                  refine (hpj.out _ (HO.out.nw ((by repeat (first | exact Xt.Nw.refl _ | refine Xt.Nw.drew ?_ | refine Xt.Nw.drewN ?_ _ | refine Xt.Nw.alloc ?_ _ | refine Xt.Nw.joined ?_ | refine Xt.Nw.drewd ?_ | refine Xt.Nw.drewdN ?_ | refine Xt.Nw.ext ?_ | refine Xt.Nw.ext_some ?_ (by assumption) | refine Xt.Nw.setCell ?_ (by simp [go_sem] <;> omega) _))))).mono ?_
                  rintro e w' ⟨rfl, dW, rfl⟩
                  go_upto_region 18 with (fail)
                  (refine wp_region_nw (by kernel_rfl) (by kernel_rfl) ?_; (repeat (go_big_quiet_step ((go_at_call 44; exact quiet_of (hbf.out _))))); refine wpQuiet_nil ?_; intro _ hreg; obtain ⟨dW, rfl⟩ : Nw _ _ := hreg)
                  go_wp2
                  refine ⟨⟨J + 1, by omega, by go_num, HNX.out (by rw [okIK, HB0.out]; rfl), (by repeat (first | exact Xt.Nw.refl _ | refine Xt.Nw.drew ?_ | refine Xt.Nw.drewN ?_ _ | refine Xt.Nw.alloc ?_ _ | refine Xt.Nw.joined ?_ | refine Xt.Nw.drewd ?_ | refine Xt.Nw.drewdN ?_ | refine Xt.Nw.ext ?_ | refine Xt.Nw.ext_some ?_ (by assumption) | refine Xt.Nw.setCell ?_ (by simp [go_sem] <;> omega) _))⟩, by simp [intOf]; omega⟩
                | true =>
                  rw [hb0] at hbf
                  have HB0 := Lib.hid hb0
                  clear hb0
                  by_cases g1 : 0 ≤ pj
                  · have e1 : decide (0 ≤ pj) = true := by simpa using g1
                    by_cases g2 : pi < 0
                    · have e2 : decide (pi < 0) = true := by simpa using g2
                      go_wp2_with fail
                      refine (hpi.out _ (HO.out.nw ((by repeat (first | exact Xt.Nw.refl _ | refine Xt.Nw.drew ?_ | refine Xt.Nw.drewN ?_ _ | refine Xt.Nw.alloc ?_ _ | refine Xt.Nw.joined ?_ | refine Xt.Nw.drewd ?_ | refine Xt.Nw.drewdN ?_ | refine Xt.Nw.ext ?_ | refine Xt.Nw.ext_some ?_ (by assumption) | refine Xt.Nw.setCell ?_ (by simp [go_sem] <;> omega) _))))).mono ?_
                      rintro e w' ⟨rfl, dW, rfl⟩
                      go_wp2_with fail
                      refine (hpj.out _ (HO.out.nw ((by repeat (first | exact Xt.Nw.refl _ | refine Xt.Nw.drew ?_ | refine Xt.Nw.drewN ?_ _ | refine Xt.Nw.alloc ?_ _ | refine Xt.Nw.joined ?_ | refine Xt.Nw.drewd ?_ | refine Xt.Nw.drewdN ?_ | refine Xt.Nw.ext ?_ | refine Xt.Nw.ext_some ?_ (by assumption) | refine Xt.Nw.setCell ?_ (by simp [go_sem] <;> omega) _))))).mono ?_
                      rintro e w' ⟨rfl, dW, rfl⟩
                      go_upto_region 18 with (fail)
                      (refine wp_region_nw (by kernel_rfl) (by kernel_rfl) ?_; (repeat (go_big_quiet_step ((go_at_call 44; exact quiet_of (hbf.out _))))); refine wpQuiet_nil ?_; intro _ hreg; obtain ⟨dW, rfl⟩ : Nw _ _ := hreg)
                      go_wp2
                      refine bodyPost_ret (results_tmp2 rfl _ _ _) rfl ⟨?_, (by repeat (first | exact Xt.Nw.refl _ | refine Xt.Nw.drew ?_ | refine Xt.Nw.drewN ?_ _ | refine Xt.Nw.alloc ?_ _ | refine Xt.Nw.joined ?_ | refine Xt.Nw.drewd ?_ | refine Xt.Nw.drewdN ?_ | refine Xt.Nw.ext ?_ | refine Xt.Nw.ext_some ?_ (by assumption) | refine Xt.Nw.setCell ?_ (by simp [go_sem] <;> omega) _))⟩
                      rw [agrB_no HX.out HY.out (by rw [okIK, HB0.out, ← HPI.out, ← HPJ.out]; simp [e1, e2]), HE0.out]; rfl
                    · have e2 : decide (pi < 0) = false := by simpa using g2
                      by_cases g3 : pj < pi
                      · have e3 : decide (pj < pi) = true := by simpa using g3
                        go_wp2_with fail
                        refine (hpi.out _ (HO.out.nw ((by repeat (first | exact Xt.Nw.refl _ | refine Xt.Nw.drew ?_ | refine Xt.Nw.drewN ?_ _ | refine Xt.Nw.alloc ?_ _ | refine Xt.Nw.joined ?_ | refine Xt.Nw.drewd ?_ | refine Xt.Nw.drewdN ?_ | refine Xt.Nw.ext ?_ | refine Xt.Nw.ext_some ?_ (by assumption) | refine Xt.Nw.setCell ?_ (by simp [go_sem] <;> omega) _))))).mono ?_
                        rintro e w' ⟨rfl, dW, rfl⟩
                        go_wp2_with fail
                        refine (hpj.out _ (HO.out.nw ((by repeat (first | exact Xt.Nw.refl _ | refine Xt.Nw.drew ?_ | refine Xt.Nw.drewN ?_ _ | refine Xt.Nw.alloc ?_ _ | refine Xt.Nw.joined ?_ | refine Xt.Nw.drewd ?_ | refine Xt.Nw.drewdN ?_ | refine Xt.Nw.ext ?_ | refine Xt.Nw.ext_some ?_ (by assumption) | refine Xt.Nw.setCell ?_ (by simp [go_sem] <;> omega) _))))).mono ?_
                        rintro e w' ⟨rfl, dW, rfl⟩
                        go_upto_region 18 with (fail)
                        (refine wp_region_nw (by kernel_rfl) (by kernel_rfl) ?_; (repeat (go_big_quiet_step ((go_at_call 44; exact quiet_of (hbf.out _))))); refine wpQuiet_nil ?_; intro _ hreg; obtain ⟨dW, rfl⟩ : Nw _ _ := hreg)
                        go_wp2
                        refine bodyPost_ret (results_tmp2 rfl _ _ _) rfl ⟨?_, (by repeat (first | exact Xt.Nw.refl _ | refine Xt.Nw.drew ?_ | refine Xt.Nw.drewN ?_ _ | refine Xt.Nw.alloc ?_ _ | refine Xt.Nw.joined ?_ | refine Xt.Nw.drewd ?_ | refine Xt.Nw.drewdN ?_ | refine Xt.Nw.ext ?_ | refine Xt.Nw.ext_some ?_ (by assumption) | refine Xt.Nw.setCell ?_ (by simp [go_sem] <;> omega) _))⟩
                        rw [agrB_no HX.out HY.out (by rw [okIK, HB0.out, ← HPI.out, ← HPJ.out]; simp [e1, e3]), HE0.out]; rfl
                      · have e3 : decide (pj < pi) = false := by simpa using g3
                        go_wp2_with fail
                        refine (hpi.out _ (HO.out.nw ((by repeat (first | exact Xt.Nw.refl _ | refine Xt.Nw.drew ?_ | refine Xt.Nw.drewN ?_ _ | refine Xt.Nw.alloc ?_ _ | refine Xt.Nw.joined ?_ | refine Xt.Nw.drewd ?_ | refine Xt.Nw.drewdN ?_ | refine Xt.Nw.ext ?_ | refine Xt.Nw.ext_some ?_ (by assumption) | refine Xt.Nw.setCell ?_ (by simp [go_sem] <;> omega) _))))).mono ?_
                        rintro e w' ⟨rfl, dW, rfl⟩
                        go_wp2_with fail
                        refine (hpj.out _ (HO.out.nw ((by repeat (first | exact Xt.Nw.refl _ | refine Xt.Nw.drew ?_ | refine Xt.Nw.drewN ?_ _ | refine Xt.Nw.alloc ?_ _ | refine Xt.Nw.joined ?_ | refine Xt.Nw.drewd ?_ | refine Xt.Nw.drewdN ?_ | refine Xt.Nw.ext ?_ | refine Xt.Nw.ext_some ?_ (by assumption) | refine Xt.Nw.setCell ?_ (by simp [go_sem] <;> omega) _))))).mono ?_
                        rintro e w' ⟨rfl, dW, rfl⟩
                        go_upto_region 18 with (fail)
                        (refine wp_region_nw (by kernel_rfl) (by kernel_rfl) ?_; (repeat (go_big_quiet_step ((go_at_call 44; exact quiet_of (hbf.out _))))); refine wpQuiet_nil ?_; intro _ hreg; obtain ⟨dW, rfl⟩ : Nw _ _ := hreg)
                        go_wp2
                        refine ⟨⟨J + 1, by omega, by go_num, HNX.out (by rw [okIK, HB0.out, ← HPI.out, ← HPJ.out]; simp [e2, e3]), (by repeat (first | exact Xt.Nw.refl _ | refine Xt.Nw.drew ?_ | refine Xt.Nw.drewN ?_ _ | refine Xt.Nw.alloc ?_ _ | refine Xt.Nw.joined ?_ | refine Xt.Nw.drewd ?_ | refine Xt.Nw.drewdN ?_ | refine Xt.Nw.ext ?_ | refine Xt.Nw.ext_some ?_ (by assumption) | refine Xt.Nw.setCell ?_ (by simp [go_sem] <;> omega) _))⟩, by simp [intOf]; omega⟩
                  · have e1 : decide (0 ≤ pj) = false := by simpa using g1
                    go_wp2_with fail
                    refine (hpi.out _ (HO.out.nw ((by repeat (first | exact Xt.Nw.refl _ | refine Xt.Nw.drew ?_ | refine Xt.Nw.drewN ?_ _ | refine Xt.Nw.alloc ?_ _ | refine Xt.Nw.joined ?_ | refine Xt.Nw.drewd ?_ | refine Xt.Nw.drewdN ?_ | refine Xt.Nw.ext ?_ | refine Xt.Nw.ext_some ?_ (by assumption) | refine Xt.Nw.setCell ?_ (by simp [go_sem] <;> omega) _))))).mono ?_
                    rintro e w' ⟨rfl, dW, rfl⟩
                    go_wp2_with fail
                    refine (hpj.out _ (HO.out.nw ((by repeat (first | exact Xt.Nw.refl _ | refine Xt.Nw.drew ?_ | refine Xt.Nw.drewN ?_ _ | refine Xt.Nw.alloc ?_ _ | refine Xt.Nw.joined ?_ | refine Xt.Nw.drewd ?_ | refine Xt.Nw.drewdN ?_ | refine Xt.Nw.ext ?_ | refine Xt.Nw.ext_some ?_ (by assumption) | refine Xt.Nw.setCell ?_ (by simp [go_sem] <;> omega) _))))).mono ?_
                    rintro e w' ⟨rfl, dW, rfl⟩
                    go_upto_region 18 with (fail)
                    (refine wp_region_nw (by kernel_rfl) (by kernel_rfl) ?_; (repeat (go_big_quiet_step ((go_at_call 44; exact quiet_of (hbf.out _))))); refine wpQuiet_nil ?_; intro _ hreg; obtain ⟨dW, rfl⟩ : Nw _ _ := hreg)
                    go_wp2
                    refine ⟨⟨J + 1, by omega, by go_num, HNX.out (by rw [okIK, HB0.out, ← HPJ.out]; simp [e1]), (by repeat (first | exact Xt.Nw.refl _ | refine Xt.Nw.drew ?_ | refine Xt.Nw.drewN ?_ _ | refine Xt.Nw.alloc ?_ _ | refine Xt.Nw.joined ?_ | refine Xt.Nw.drewd ?_ | refine Xt.Nw.drewdN ?_ | refine Xt.Nw.ext ?_ | refine Xt.Nw.ext_some ?_ (by assumption) | refine Xt.Nw.setCell ?_ (by simp [go_sem] <;> omega) _))⟩, by simp [intOf]; omega⟩
              · have hJn : J = n := by omega
                go_wp2
                refine ⟨⟨I + 1, by omega, by go_num, ?_, (by repeat (first | exact Xt.Nw.refl _ | refine Xt.Nw.drew ?_ | refine Xt.Nw.drewN ?_ _ | refine Xt.Nw.alloc ?_ _ | refine Xt.Nw.joined ?_ | refine Xt.Nw.drewd ?_ | refine Xt.Nw.drewdN ?_ | refine Xt.Nw.ext ?_ | refine Xt.Nw.ext_some ?_ (by assumption) | refine Xt.Nw.setCell ?_ (by simp [go_sem] <;> omega) _))⟩, by simp [intOf]; omega⟩
                intro i k z y hi hz hy
                rcases Nat.lt_succ_iff_lt_or_eq.1 hi with hi' | rfl
                · exact hok.out i k z y hi' hz hy
                · have := HX.out; rw [hz] at this; injection this with this; subst this
                  exact hokJ.out k y (by rw [hJn, ← hlen]; exact (List.getElem?_eq_some_iff.1 hy).1) hy
          · have hIn : I = n := by omega
            go_wp2
            refine bodyPost_ret (results_tmp2 rfl _ _ _) rfl ⟨?_, (by repeat (first | exact Xt.Nw.refl _ | refine Xt.Nw.drew ?_ | refine Xt.Nw.drewN ?_ _ | refine Xt.Nw.alloc ?_ _ | refine Xt.Nw.joined ?_ | refine Xt.Nw.drewd ?_ | refine Xt.Nw.drewdN ?_ | refine Xt.Nw.ext ?_ | refine Xt.Nw.ext_some ?_ (by assumption) | refine Xt.Nw.setCell ?_ (by simp [go_sem] <;> omega) _))⟩
            rw [agrB_yes HE0.out (fun i k x y hx hy => hok.out i k x y (by rw [hIn, ← hlen]; exact (List.getElem?_eq_some_iff.1 hx).1) hx hy), HE0.out]; rfl
  · rw [hv] at HK
    have hE : agrE o l = 15 := by rw [agrE, if_neg (by rw [hb]; simp)]
    have HE := Lib.hid hE
    clear hb hv hE
    go_enter Try.func26, Try.ntmps26
    go_wp2_with (go_at_call 12; refine (HK.out).mono ?_; rintro e w' ⟨rfl, dW, rfl⟩)
    refine bodyPost_ret (results_tmp2 rfl _ _ _) rfl ⟨by rw [agrB_false (by rw [HE.out]; decide), HE.out]; rfl, (by repeat (first | exact Xt.Nw.refl _ | refine Xt.Nw.drew ?_ | refine Xt.Nw.drewN ?_ _ | refine Xt.Nw.alloc ?_ _ | refine Xt.Nw.joined ?_ | refine Xt.Nw.drewd ?_ | refine Xt.Nw.drewdN ?_ | refine Xt.Nw.ext ?_ | refine Xt.Nw.ext_some ?_ (by assumption) | refine Xt.Nw.setCell ?_ (by simp [go_sem] <;> omega) _))⟩
end Go.Proofs.Ytjpgechcfkhoaaa
