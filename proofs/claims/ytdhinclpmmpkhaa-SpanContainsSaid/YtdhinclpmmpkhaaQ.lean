import Derived.Test.YtdhinclpmmpkhaaM
import Derived.Test.YtdhinclpmmpkhaaP
namespace Go.Proofs.Ytdhinclpmmpkhaa
open Go.RowKit Go.Xt
theorem cov_snoc {s1 s2 : Int} {l : List (Int × Int)} {k : Nat} {x : Int × Int} (hx : l[k]? = some x) : cov s1 s2 (l.take (k + 1)) = (cov s1 s2 (l.take k) || (decide (x.1 ≤ s1) && decide (s2 ≤ x.2))) := by
  obtain ⟨hk, rfl⟩ := List.getElem?_eq_some_iff.1 hx
  rw [List.take_succ_eq_append_getElem hk, cov, List.any_append]
  simp [cov]
theorem cov_sub {s1 s2 p1 p2 : Int} {l : List (Int × Int)} (h : cov s1 s2 l = true) (h1 : s1 ≤ p1) (h2 : p2 ≤ s2) : cov p1 p2 l = true := by
  rw [cov, List.any_eq_true] at h ⊢
  obtain ⟨x, hx, hq⟩ := h
  refine ⟨x, hx, ?_⟩
  simp at hq ⊢
  omega
theorem meet_cases (s1 s2 t1 t2 : Int) (hs : s1 ≤ s2) : meetF s1 s2 t1 t2 = (0, 0, false) ∨ ∃ p1 p2, meetF s1 s2 t1 t2 = (p1, p2, true) ∧ p1 ≤ p2 ∧ s1 ≤ p1 ∧ p2 ≤ s2 := by
  by_cases h : mn s2 t2 < mx s1 t1
  · left; unfold meetF; rw [if_pos h]
  · right
    refine ⟨mx s1 t1, mn s2 t2, ?_, by omega, ?_, ?_⟩
    · unfold meetF; rw [if_neg h]
    · unfold mx; split <;> omega
    · unfold mn; split <;> omega
set_option maxHeartbeats 1000000 in
theorem contains_any (s1 s2 t1 t2 : Int) (A : Option Addr) (n c : Nat) (l : List (Int × Int)) (w : World) (hc : A = none → c = 0) (hn : n ≤ 9223372036854775807) (hl : Sp w A n l) (hb : Bd l) :
    Calls Try.prog 10 #[sp s1 s2, sp t1 t2, .slice A n c] w fun e w' => e = .returned (.bool true) ∧ Nw w w' := by
  have HL := Lib.hid hl
  have HC := Lib.hid hc
  have HB := Lib.hid hb
  have hv := fun w hl => bad_any A n c l w hn hl
  clear hl hb hc
  cases hg : (!Ok l || decide (60 < n)) with
  | true =>
    rw [hg] at hv
    have HV := Lib.hid hv
    clear hg hv
    go_enter Try.func10, Try.ntmps10
    go_wp2_with (first | (go_at_call 30; refine (HV.out _ (HL.out.nw (by repeat (first | exact Xt.Nw.refl _ | refine Xt.Nw.drew ?_ | refine Xt.Nw.drewN ?_ _ | refine Xt.Nw.alloc ?_ _ | refine Xt.Nw.joined ?_ | refine Xt.Nw.drewd ?_ | refine Xt.Nw.drewdN ?_ | refine Xt.Nw.ext ?_ | refine Xt.Nw.ext_some ?_ (by assumption) | refine Xt.Nw.setCell ?_ (by simp [go_sem] <;> omega) _)))).mono ?_; rintro e w' ⟨rfl, dW, rfl⟩) | (go_at_call 26; refine (known_any _).mono ?_; rintro e w' ⟨rfl, dW, rfl⟩))
    go_ret
    exact ⟨rfl, (by repeat (first | exact Xt.Nw.refl _ | refine Xt.Nw.drew ?_ | refine Xt.Nw.drewN ?_ _ | refine Xt.Nw.alloc ?_ _ | refine Xt.Nw.joined ?_ | refine Xt.Nw.drewd ?_ | refine Xt.Nw.drewdN ?_ | refine Xt.Nw.ext ?_ | refine Xt.Nw.ext_some ?_ (by assumption) | refine Xt.Nw.setCell ?_ (by simp [go_sem] <;> omega) _))⟩
  | false =>
    rw [hg] at hv
    have HV := Lib.hid hv
    clear hv
    have hg' : Ok l = true ∧ n ≤ 60 := by simp at hg; exact hg
    obtain ⟨hok, h60⟩ := hg'
    have HOK := Lib.hid hok
    clear hg hok
    by_cases hs : s2 < s1
    · go_enter Try.func10, Try.ntmps10
      go_wp2_with (first | (go_at_call 30; refine (HV.out _ (HL.out.nw (by repeat (first | exact Xt.Nw.refl _ | refine Xt.Nw.drew ?_ | refine Xt.Nw.drewN ?_ _ | refine Xt.Nw.alloc ?_ _ | refine Xt.Nw.joined ?_ | refine Xt.Nw.drewd ?_ | refine Xt.Nw.drewdN ?_ | refine Xt.Nw.ext ?_ | refine Xt.Nw.ext_some ?_ (by assumption) | refine Xt.Nw.setCell ?_ (by simp [go_sem] <;> omega) _)))).mono ?_; rintro e w' ⟨rfl, dW, rfl⟩) | (go_at_call 26; refine (known_any _).mono ?_; rintro e w' ⟨rfl, dW, rfl⟩))
      go_ret
      exact ⟨rfl, (by repeat (first | exact Xt.Nw.refl _ | refine Xt.Nw.drew ?_ | refine Xt.Nw.drewN ?_ _ | refine Xt.Nw.alloc ?_ _ | refine Xt.Nw.joined ?_ | refine Xt.Nw.drewd ?_ | refine Xt.Nw.drewdN ?_ | refine Xt.Nw.ext ?_ | refine Xt.Nw.ext_some ?_ (by assumption) | refine Xt.Nw.setCell ?_ (by simp [go_sem] <;> omega) _))⟩
    · have hs' : s1 ≤ s2 := by omega
      have hd : decide (s2 < s1) = false := by simp; omega
      clear hs
      have hnl : (Nm.norm l).length ≤ 400 := by have h1 := fold_len l []; have h2 := HL.out.1; simp at h1; show (l.foldl Nm.add []).length ≤ 400; omega
      go_enter Try.func10, Try.ntmps10
      go_wp2_with (first | (go_at_call 30; refine (HV.out _ (HL.out.nw (by repeat (first | exact Xt.Nw.refl _ | refine Xt.Nw.drew ?_ | refine Xt.Nw.drewN ?_ _ | refine Xt.Nw.alloc ?_ _ | refine Xt.Nw.joined ?_ | refine Xt.Nw.drewd ?_ | refine Xt.Nw.drewdN ?_ | refine Xt.Nw.ext ?_ | refine Xt.Nw.ext_some ?_ (by assumption) | refine Xt.Nw.setCell ?_ (by simp [go_sem] <;> omega) _)))).mono ?_; rintro e w' ⟨rfl, dW, rfl⟩) | (go_at_call 33; refine (covers_ok _ _ _ _ _ l _ (by omega) HC.out (HL.out.nw (by repeat (first | exact Xt.Nw.refl _ | refine Xt.Nw.drew ?_ | refine Xt.Nw.drewN ?_ _ | refine Xt.Nw.alloc ?_ _ | refine Xt.Nw.joined ?_ | refine Xt.Nw.drewd ?_ | refine Xt.Nw.drewdN ?_ | refine Xt.Nw.ext ?_ | refine Xt.Nw.ext_some ?_ (by assumption) | refine Xt.Nw.setCell ?_ (by simp [go_sem] <;> omega) _))) hs' HOK.out HB.out).mono ?_; rintro e w' ⟨rfl, dW, rfl⟩) | (go_at_call 27; refine (norm_ok _ _ _ l _ (by omega) HC.out (HL.out.nw (by repeat (first | exact Xt.Nw.refl _ | refine Xt.Nw.drew ?_ | refine Xt.Nw.drewN ?_ _ | refine Xt.Nw.alloc ?_ _ | refine Xt.Nw.joined ?_ | refine Xt.Nw.drewd ?_ | refine Xt.Nw.drewdN ?_ | refine Xt.Nw.ext ?_ | refine Xt.Nw.ext_some ?_ (by assumption) | refine Xt.Nw.setCell ?_ (by simp [go_sem] <;> omega) _))) HOK.out HB.out).mono ?_; rintro e w' ⟨Aa, ca, rfl, hspa, hnila, hfra, hca, dW, rfl⟩; have HA := Lib.hid hspa; clear hspa hnila hfra hca))
      go_loopw [11, 12] (fun a b wr => ∃ k : Nat, k ≤ (Nm.norm l).length ∧ b = .int .i64 k ∧ a = .bool (cov s1 s2 ((Nm.norm l).take k)) ∧ Nw ((w.alloc (.cells #[.int .u64 s1, .int .u64 s2] 24)).alloc (.cells #[.int .u64 t1, .int .u64 t2] 24)) wr ∧ Sp wr Aa (Nm.norm l).length (Nm.norm l) ∧ Sp wr A n l) (fun _ b _ => (Nm.norm l).length - (intOf b).toNat)
      case atStart => exact ⟨0, Nat.zero_le _, rfl, rfl, (by repeat (first | exact Xt.Nw.refl _ | refine Xt.Nw.drew ?_ | refine Xt.Nw.drewN ?_ _ | refine Xt.Nw.alloc ?_ _ | refine Xt.Nw.joined ?_ | refine Xt.Nw.drewd ?_ | refine Xt.Nw.drewdN ?_ | refine Xt.Nw.ext ?_ | refine Xt.Nw.ext_some ?_ (by assumption) | refine Xt.Nw.setCell ?_ (by simp [go_sem] <;> omega) _)), HA.out.nw (by repeat (first | exact Xt.Nw.refl _ | refine Xt.Nw.drew ?_ | refine Xt.Nw.drewN ?_ _ | refine Xt.Nw.alloc ?_ _ | refine Xt.Nw.joined ?_ | refine Xt.Nw.drewd ?_ | refine Xt.Nw.drewdN ?_ | refine Xt.Nw.ext ?_ | refine Xt.Nw.ext_some ?_ (by assumption) | refine Xt.Nw.setCell ?_ (by simp [go_sem] <;> omega) _)), HL.out.nw (by repeat (first | exact Xt.Nw.refl _ | refine Xt.Nw.drew ?_ | refine Xt.Nw.drewN ?_ _ | refine Xt.Nw.alloc ?_ _ | refine Xt.Nw.joined ?_ | refine Xt.Nw.drewd ?_ | refine Xt.Nw.drewdN ?_ | refine Xt.Nw.ext ?_ | refine Xt.Nw.ext_some ?_ (by assumption) | refine Xt.Nw.setCell ?_ (by simp [go_sem] <;> omega) _))⟩
      case round =>
        clear HA HL
        obtain ⟨k, hk, rfl, rfl, ⟨d, rfl⟩, hsp, hspl⟩ := hrel
        have HSL := Lib.hid hspl
        clear hspl
        by_cases hlt : k < (Nm.norm l).length
        · obtain ⟨b, o, lo, hi, rfl, hb, hx, c0, c1⟩ := hsp.get hlt
          have HS := Lib.hid (cov_snoc (s1 := s1) (s2 := s2) hx)
          have HSP := Lib.hid hsp
          clear hx hsp
          cases hck : cov s1 s2 ((Nm.norm l).take k) with
          | true =>
            rw [hck] at HS
            go_wp2
            (refine wp_region_nw (by kernel_rfl) (by kernel_rfl) ?_; (repeat (go_big_quiet_step (fail))); refine wpQuiet_nil ?_; intro _ hreg; obtain ⟨dW, rfl⟩ : Nw _ _ := hreg)
            go_wp2
            exact ⟨⟨k + 1, by omega, by go_num, by rw [HS.out]; rfl, (by repeat (first | exact Xt.Nw.refl _ | refine Xt.Nw.drew ?_ | refine Xt.Nw.drewN ?_ _ | refine Xt.Nw.alloc ?_ _ | refine Xt.Nw.joined ?_ | refine Xt.Nw.drewd ?_ | refine Xt.Nw.drewdN ?_ | refine Xt.Nw.ext ?_ | refine Xt.Nw.ext_some ?_ (by assumption) | refine Xt.Nw.setCell ?_ (by simp [go_sem] <;> omega) _)), HSP.out.nw (by repeat (first | exact Xt.Nw.refl _ | refine Xt.Nw.drew ?_ | refine Xt.Nw.drewN ?_ _ | refine Xt.Nw.alloc ?_ _ | refine Xt.Nw.joined ?_ | refine Xt.Nw.drewd ?_ | refine Xt.Nw.drewdN ?_ | refine Xt.Nw.ext ?_ | refine Xt.Nw.ext_some ?_ (by assumption) | refine Xt.Nw.setCell ?_ (by simp [go_sem] <;> omega) _)), HSL.out.nw (by repeat (first | exact Xt.Nw.refl _ | refine Xt.Nw.drew ?_ | refine Xt.Nw.drewN ?_ _ | refine Xt.Nw.alloc ?_ _ | refine Xt.Nw.joined ?_ | refine Xt.Nw.drewd ?_ | refine Xt.Nw.drewdN ?_ | refine Xt.Nw.ext ?_ | refine Xt.Nw.ext_some ?_ (by assumption) | refine Xt.Nw.setCell ?_ (by simp [go_sem] <;> omega) _))⟩, by simp [intOf]; omega⟩
          | false =>
            rw [hck] at HS
            by_cases h1 : lo ≤ s1
            · by_cases h2 : s2 ≤ hi
              · go_wp2
                (refine wp_region_nw (by kernel_rfl) (by kernel_rfl) ?_; (repeat (go_big_quiet_step (fail))); refine wpQuiet_nil ?_; intro _ hreg; obtain ⟨dW, rfl⟩ : Nw _ _ := hreg)
                go_wp2
                exact ⟨⟨k + 1, by omega, by go_num, by rw [HS.out]; simp [h1, h2], (by repeat (first | exact Xt.Nw.refl _ | refine Xt.Nw.drew ?_ | refine Xt.Nw.drewN ?_ _ | refine Xt.Nw.alloc ?_ _ | refine Xt.Nw.joined ?_ | refine Xt.Nw.drewd ?_ | refine Xt.Nw.drewdN ?_ | refine Xt.Nw.ext ?_ | refine Xt.Nw.ext_some ?_ (by assumption) | refine Xt.Nw.setCell ?_ (by simp [go_sem] <;> omega) _)), HSP.out.nw (by repeat (first | exact Xt.Nw.refl _ | refine Xt.Nw.drew ?_ | refine Xt.Nw.drewN ?_ _ | refine Xt.Nw.alloc ?_ _ | refine Xt.Nw.joined ?_ | refine Xt.Nw.drewd ?_ | refine Xt.Nw.drewdN ?_ | refine Xt.Nw.ext ?_ | refine Xt.Nw.ext_some ?_ (by assumption) | refine Xt.Nw.setCell ?_ (by simp [go_sem] <;> omega) _)), HSL.out.nw (by repeat (first | exact Xt.Nw.refl _ | refine Xt.Nw.drew ?_ | refine Xt.Nw.drewN ?_ _ | refine Xt.Nw.alloc ?_ _ | refine Xt.Nw.joined ?_ | refine Xt.Nw.drewd ?_ | refine Xt.Nw.drewdN ?_ | refine Xt.Nw.ext ?_ | refine Xt.Nw.ext_some ?_ (by assumption) | refine Xt.Nw.setCell ?_ (by simp [go_sem] <;> omega) _))⟩, by simp [intOf]; omega⟩
              · have h2' : decide (s2 ≤ hi) = false := by simp; omega
                go_wp2
                (refine wp_region_nw (by kernel_rfl) (by kernel_rfl) ?_; (repeat (go_big_quiet_step (fail))); refine wpQuiet_nil ?_; intro _ hreg; obtain ⟨dW, rfl⟩ : Nw _ _ := hreg)
                go_wp2
                exact ⟨⟨k + 1, by omega, by go_num, by rw [HS.out]; simp [h1, h2'], (by repeat (first | exact Xt.Nw.refl _ | refine Xt.Nw.drew ?_ | refine Xt.Nw.drewN ?_ _ | refine Xt.Nw.alloc ?_ _ | refine Xt.Nw.joined ?_ | refine Xt.Nw.drewd ?_ | refine Xt.Nw.drewdN ?_ | refine Xt.Nw.ext ?_ | refine Xt.Nw.ext_some ?_ (by assumption) | refine Xt.Nw.setCell ?_ (by simp [go_sem] <;> omega) _)), HSP.out.nw (by repeat (first | exact Xt.Nw.refl _ | refine Xt.Nw.drew ?_ | refine Xt.Nw.drewN ?_ _ | refine Xt.Nw.alloc ?_ _ | refine Xt.Nw.joined ?_ | refine Xt.Nw.drewd ?_ | refine Xt.Nw.drewdN ?_ | refine Xt.Nw.ext ?_ | refine Xt.Nw.ext_some ?_ (by assumption) | refine Xt.Nw.setCell ?_ (by simp [go_sem] <;> omega) _)), HSL.out.nw (by repeat (first | exact Xt.Nw.refl _ | refine Xt.Nw.drew ?_ | refine Xt.Nw.drewN ?_ _ | refine Xt.Nw.alloc ?_ _ | refine Xt.Nw.joined ?_ | refine Xt.Nw.drewd ?_ | refine Xt.Nw.drewdN ?_ | refine Xt.Nw.ext ?_ | refine Xt.Nw.ext_some ?_ (by assumption) | refine Xt.Nw.setCell ?_ (by simp [go_sem] <;> omega) _))⟩, by simp [intOf]; omega⟩
            · have h1' : decide (lo ≤ s1) = false := by simp; omega
              go_wp2
              (refine wp_region_nw (by kernel_rfl) (by kernel_rfl) ?_; (repeat (go_big_quiet_step (fail))); refine wpQuiet_nil ?_; intro _ hreg; obtain ⟨dW, rfl⟩ : Nw _ _ := hreg)
              go_wp2
              exact ⟨⟨k + 1, by omega, by go_num, by rw [HS.out]; simp [h1'], (by repeat (first | exact Xt.Nw.refl _ | refine Xt.Nw.drew ?_ | refine Xt.Nw.drewN ?_ _ | refine Xt.Nw.alloc ?_ _ | refine Xt.Nw.joined ?_ | refine Xt.Nw.drewd ?_ | refine Xt.Nw.drewdN ?_ | refine Xt.Nw.ext ?_ | refine Xt.Nw.ext_some ?_ (by assumption) | refine Xt.Nw.setCell ?_ (by simp [go_sem] <;> omega) _)), HSP.out.nw (by repeat (first | exact Xt.Nw.refl _ | refine Xt.Nw.drew ?_ | refine Xt.Nw.drewN ?_ _ | refine Xt.Nw.alloc ?_ _ | refine Xt.Nw.joined ?_ | refine Xt.Nw.drewd ?_ | refine Xt.Nw.drewdN ?_ | refine Xt.Nw.ext ?_ | refine Xt.Nw.ext_some ?_ (by assumption) | refine Xt.Nw.setCell ?_ (by simp [go_sem] <;> omega) _)), HSL.out.nw (by repeat (first | exact Xt.Nw.refl _ | refine Xt.Nw.drew ?_ | refine Xt.Nw.drewN ?_ _ | refine Xt.Nw.alloc ?_ _ | refine Xt.Nw.joined ?_ | refine Xt.Nw.drewd ?_ | refine Xt.Nw.drewdN ?_ | refine Xt.Nw.ext ?_ | refine Xt.Nw.ext_some ?_ (by assumption) | refine Xt.Nw.setCell ?_ (by simp [go_sem] <;> omega) _))⟩, by simp [intOf]; omega⟩
        · have hkn : (Nm.norm l).take k = Nm.norm l := List.take_of_length_le (by omega)
          rw [hkn]
          clear hkn
          have hm := fun w => meet_any s1 s2 t1 t2 w
          cases hcv : cov s1 s2 (Nm.norm l) with
          | false =>
            have HM := Lib.hid hm
            clear hm hsp
            rcases meet_cases s1 s2 t1 t2 hs' with h | ⟨p1, p2, h, h1, h2, h3⟩
            · rw [h] at HM
              go_wp2_with (first | (go_at_call 18; refine (HM.out _).mono ?_; rintro e w' ⟨rfl, dW, rfl⟩) | (go_at_call 26; refine (known_any _).mono ?_; rintro e w' ⟨rfl, dW, rfl⟩))
              go_ret
              exact ⟨rfl, (by repeat (first | exact Xt.Nw.refl _ | refine Xt.Nw.drew ?_ | refine Xt.Nw.drewN ?_ _ | refine Xt.Nw.alloc ?_ _ | refine Xt.Nw.joined ?_ | refine Xt.Nw.drewd ?_ | refine Xt.Nw.drewdN ?_ | refine Xt.Nw.ext ?_ | refine Xt.Nw.ext_some ?_ (by assumption) | refine Xt.Nw.setCell ?_ (by simp [go_sem] <;> omega) _))⟩
            · rw [h] at HM
              go_wp2_with (first | (go_at_call 18; refine (HM.out _).mono ?_; rintro e w' ⟨rfl, dW, rfl⟩) | (go_at_call 26; refine (known_any _).mono ?_; rintro e w' ⟨rfl, dW, rfl⟩))
              go_ret
              exact ⟨rfl, (by repeat (first | exact Xt.Nw.refl _ | refine Xt.Nw.drew ?_ | refine Xt.Nw.drewN ?_ _ | refine Xt.Nw.alloc ?_ _ | refine Xt.Nw.joined ?_ | refine Xt.Nw.drewd ?_ | refine Xt.Nw.drewdN ?_ | refine Xt.Nw.ext ?_ | refine Xt.Nw.ext_some ?_ (by assumption) | refine Xt.Nw.setCell ?_ (by simp [go_sem] <;> omega) _))⟩
          | true =>
            have HM := Lib.hid hm
            clear hm hsp
            rcases meet_cases s1 s2 t1 t2 hs' with h | ⟨p1, p2, h, h1, h2, h3⟩
            · rw [h] at HM
              go_wp2_with (first | (go_at_call 18; refine (HM.out _).mono ?_; rintro e w' ⟨rfl, dW, rfl⟩) | (go_at_call 26; refine (known_any _).mono ?_; rintro e w' ⟨rfl, dW, rfl⟩))
              go_ret
              exact ⟨rfl, (by repeat (first | exact Xt.Nw.refl _ | refine Xt.Nw.drew ?_ | refine Xt.Nw.drewN ?_ _ | refine Xt.Nw.alloc ?_ _ | refine Xt.Nw.joined ?_ | refine Xt.Nw.drewd ?_ | refine Xt.Nw.drewdN ?_ | refine Xt.Nw.ext ?_ | refine Xt.Nw.ext_some ?_ (by assumption) | refine Xt.Nw.setCell ?_ (by simp [go_sem] <;> omega) _))⟩
            · rw [h] at HM
              have hcv' := fun w hl => covers_ok p1 p2 A n c l w (by omega) HC.out hl h1 HOK.out HB.out
              rw [cov_sub hcv h2 h3] at hcv'
              have HCV := Lib.hid hcv'
              clear hcv'
              go_wp2_with (first | (go_at_call 18; refine (HM.out _).mono ?_; rintro e w' ⟨rfl, dW, rfl⟩) | (go_at_call 33; refine (HCV.out _ (HSL.out.nw (by repeat (first | exact Xt.Nw.refl _ | refine Xt.Nw.drew ?_ | refine Xt.Nw.drewN ?_ _ | refine Xt.Nw.alloc ?_ _ | refine Xt.Nw.joined ?_ | refine Xt.Nw.drewd ?_ | refine Xt.Nw.drewdN ?_ | refine Xt.Nw.ext ?_ | refine Xt.Nw.ext_some ?_ (by assumption) | refine Xt.Nw.setCell ?_ (by simp [go_sem] <;> omega) _)))).mono ?_; rintro e w' ⟨rfl, dW, rfl⟩) | (go_at_call 26; refine (known_any _).mono ?_; rintro e w' ⟨rfl, dW, rfl⟩))
              go_ret
              exact ⟨rfl, (by repeat (first | exact Xt.Nw.refl _ | refine Xt.Nw.drew ?_ | refine Xt.Nw.drewN ?_ _ | refine Xt.Nw.alloc ?_ _ | refine Xt.Nw.joined ?_ | refine Xt.Nw.drewd ?_ | refine Xt.Nw.drewdN ?_ | refine Xt.Nw.ext ?_ | refine Xt.Nw.ext_some ?_ (by assumption) | refine Xt.Nw.setCell ?_ (by simp [go_sem] <;> omega) _))⟩
end Go.Proofs.Ytdhinclpmmpkhaa
