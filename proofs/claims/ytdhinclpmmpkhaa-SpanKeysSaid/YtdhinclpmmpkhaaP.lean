import Derived.Test.YtdhinclpmmpkhaaO
namespace Go.Proofs.Ytdhinclpmmpkhaa
open Go.RowKit Go.Xt
abbrev vBE (b : Bool) (e : Int) : Value := .tuple #[.bool b, .int .i64 e]
set_option maxHeartbeats 1000000 in
theorem covers_bad (s1 s2 : Int) (A : Option Addr) (n c : Nat) (l : List (Int × Int)) (w : World) (hn : n ≤ 1000) (hl : Sp w A n l) (h : s2 < s1 ∨ Ok l = false) :
    Calls Try.prog 33 #[sp s1 s2, .slice A n c] w fun e w' => e = .returned (vBE false 13) ∧ Nw w w' := by
  by_cases hs : s2 < s1
  · have hv := fun w hl => valid_any (some ⟨w.heap.size + 1, 0, none⟩) 1 1 [(s1, s2)] w (by omega) hl
    have hk : (!Ok [(s1, s2)]) = true := by simp [Ok1]; omega
    clear h hl
    go_enter Try.func33, Try.ntmps33
    go_wp2_with (go_at_call 35; refine (valid_any _ _ _ [(s1, s2)] _ (by omega) (Sp_one _ _ (by simp) _ _ _)).mono ?_; rintro e w' ⟨rfl, dW, rfl⟩)
    go_ret2
    exact ⟨rfl, (by repeat (first | exact Xt.Nw.refl _ | refine Xt.Nw.drew ?_ | refine Xt.Nw.drewN ?_ _ | refine Xt.Nw.alloc ?_ _ | refine Xt.Nw.joined ?_ | refine Xt.Nw.drewd ?_ | refine Xt.Nw.drewdN ?_ | refine Xt.Nw.ext ?_ | refine Xt.Nw.ext_some ?_ (by assumption) | refine Xt.Nw.setCell ?_ (by simp [go_sem] <;> omega) _))⟩
  · have hok : Ok l = false := h.resolve_left hs
    have hk : (!Ok [(s1, s2)]) = false := by simp [Ok1]; omega
    have HL := Lib.hid hl
    have HOK := Lib.hid hok
    clear h hl hok
    go_enter Try.func33, Try.ntmps33
    go_wp2_with (first | (go_at_call 35; refine (valid_any _ _ _ [(s1, s2)] _ (by omega) (Sp_one _ _ (by simp) _ _ _)).mono ?_; rintro e w' ⟨rfl, dW, rfl⟩) | (go_at_call 27; refine (norm_bad _ _ _ l _ hn (HL.out.nw (by repeat (first | exact Xt.Nw.refl _ | refine Xt.Nw.drew ?_ | refine Xt.Nw.drewN ?_ _ | refine Xt.Nw.alloc ?_ _ | refine Xt.Nw.joined ?_ | refine Xt.Nw.drewd ?_ | refine Xt.Nw.drewdN ?_ | refine Xt.Nw.ext ?_ | refine Xt.Nw.ext_some ?_ (by assumption) | refine Xt.Nw.setCell ?_ (by simp [go_sem] <;> omega) _))) HOK.out).mono ?_; rintro e w' ⟨rfl, dW, rfl⟩))
    go_ret2
    exact ⟨rfl, (by repeat (first | exact Xt.Nw.refl _ | refine Xt.Nw.drew ?_ | refine Xt.Nw.drewN ?_ _ | refine Xt.Nw.alloc ?_ _ | refine Xt.Nw.joined ?_ | refine Xt.Nw.drewd ?_ | refine Xt.Nw.drewdN ?_ | refine Xt.Nw.ext ?_ | refine Xt.Nw.ext_some ?_ (by assumption) | refine Xt.Nw.setCell ?_ (by simp [go_sem] <;> omega) _))⟩
set_option maxHeartbeats 1000000 in
theorem covers_ok (s1 s2 : Int) (A : Option Addr) (n c : Nat) (l : List (Int × Int)) (w : World) (hn : n ≤ 400) (hc : A = none → c = 0) (hl : Sp w A n l) (hs : s1 ≤ s2) (hok : Ok l = true) (hb : Bd l) :
    Calls Try.prog 33 #[sp s1 s2, .slice A n c] w fun e w' => e = .returned (vBE (cov s1 s2 (Nm.norm l)) 0) ∧ Nw w w' := by
  have hk : (!Ok [(s1, s2)]) = false := by simp [Ok1]; omega
  have hnl : (Nm.norm l).length ≤ 400 := by have h1 := fold_len l []; have h2 := hl.1; simp at h1; show (l.foldl Nm.add []).length ≤ 400; omega
  have HL := Lib.hid hl
  have HC := Lib.hid hc
  have HOK := Lib.hid hok
  have HB := Lib.hid hb
  clear hl hok hb hc
  go_enter Try.func33, Try.ntmps33
  go_wp2_with (first | (go_at_call 35; refine (valid_any _ _ _ [(s1, s2)] _ (by omega) (Sp_one _ _ (by simp) _ _ _)).mono ?_; rintro e w' ⟨rfl, dW, rfl⟩) | (go_at_call 27; refine (norm_ok _ _ _ l _ (by omega) HC.out (HL.out.nw (by repeat (first | exact Xt.Nw.refl _ | refine Xt.Nw.drew ?_ | refine Xt.Nw.drewN ?_ _ | refine Xt.Nw.alloc ?_ _ | refine Xt.Nw.joined ?_ | refine Xt.Nw.drewd ?_ | refine Xt.Nw.drewdN ?_ | refine Xt.Nw.ext ?_ | refine Xt.Nw.ext_some ?_ (by assumption) | refine Xt.Nw.setCell ?_ (by simp [go_sem] <;> omega) _))) HOK.out HB.out).mono ?_; rintro e w' ⟨Aa, ca, rfl, hspa, hnila, hfra, hca, dW, rfl⟩))
  have HA := Lib.hid hspa
  clear hspa hnila hfra hca
  go_wp2_with (go_at_call 43; refine (containsFunc_any s1 s2 _ _ _ _ (Nm.norm l) _ (by omega) (HA.out.nw (by repeat (first | exact Xt.Nw.refl _ | refine Xt.Nw.drew ?_ | refine Xt.Nw.drewN ?_ _ | refine Xt.Nw.alloc ?_ _ | refine Xt.Nw.joined ?_ | refine Xt.Nw.drewd ?_ | refine Xt.Nw.drewdN ?_ | refine Xt.Nw.ext ?_ | refine Xt.Nw.ext_some ?_ (by assumption) | refine Xt.Nw.setCell ?_ (by simp [go_sem] <;> omega) _))) inferInstance (by simp [go_sem]) (by simp [go_sem])).mono ?_; rintro e w' ⟨rfl, dW, rfl⟩)
  go_ret2
  exact ⟨rfl, (by repeat (first | exact Xt.Nw.refl _ | refine Xt.Nw.drew ?_ | refine Xt.Nw.drewN ?_ _ | refine Xt.Nw.alloc ?_ _ | refine Xt.Nw.joined ?_ | refine Xt.Nw.drewd ?_ | refine Xt.Nw.drewdN ?_ | refine Xt.Nw.ext ?_ | refine Xt.Nw.ext_some ?_ (by assumption) | refine Xt.Nw.setCell ?_ (by simp [go_sem] <;> omega) _))⟩
set_option maxHeartbeats 1000000 in
theorem rcovers_bad (s1 s2 : Int) (A : Option Addr) (n c : Nat) (l : List (Int × Int)) (w : World) (hn : n ≤ 1000) (hl : Sp w A n l) (h : s2 < s1 ∨ Ok l = false) :
    Calls Try.prog 34 #[sp s1 s2, .slice A n c] w fun e w' => e = .returned (vBE false 13) ∧ Nw w w' := by
  by_cases hs : s2 < s1
  · clear h hl
    go_enter Try.func34, Try.ntmps34
    go_wp2
    go_ret2
    exact ⟨rfl, (by repeat (first | exact Xt.Nw.refl _ | refine Xt.Nw.drew ?_ | refine Xt.Nw.drewN ?_ _ | refine Xt.Nw.alloc ?_ _ | refine Xt.Nw.joined ?_ | refine Xt.Nw.drewd ?_ | refine Xt.Nw.drewdN ?_ | refine Xt.Nw.ext ?_ | refine Xt.Nw.ext_some ?_ (by assumption) | refine Xt.Nw.setCell ?_ (by simp [go_sem] <;> omega) _))⟩
  · have hok : Ok l = false := h.resolve_left hs
    have HL := Lib.hid hl
    have hv := fun w hl => all_any A n c l w (by omega) hl
    rw [hok] at hv
    have HV := Lib.hid hv
    clear h hl hok hv
    go_enter Try.func34, Try.ntmps34
    go_wp2_with (go_at_call 40; refine (HV.out _ (HL.out.nw (by repeat (first | exact Xt.Nw.refl _ | refine Xt.Nw.drew ?_ | refine Xt.Nw.drewN ?_ _ | refine Xt.Nw.alloc ?_ _ | refine Xt.Nw.joined ?_ | refine Xt.Nw.drewd ?_ | refine Xt.Nw.drewdN ?_ | refine Xt.Nw.ext ?_ | refine Xt.Nw.ext_some ?_ (by assumption) | refine Xt.Nw.setCell ?_ (by simp [go_sem] <;> omega) _)))).mono ?_; rintro e w' ⟨rfl, dW, rfl⟩)
    go_ret2
    exact ⟨rfl, (by repeat (first | exact Xt.Nw.refl _ | refine Xt.Nw.drew ?_ | refine Xt.Nw.drewN ?_ _ | refine Xt.Nw.alloc ?_ _ | refine Xt.Nw.joined ?_ | refine Xt.Nw.drewd ?_ | refine Xt.Nw.drewdN ?_ | refine Xt.Nw.ext ?_ | refine Xt.Nw.ext_some ?_ (by assumption) | refine Xt.Nw.setCell ?_ (by simp [go_sem] <;> omega) _))⟩
set_option maxHeartbeats 1000000 in
theorem rcovers_ok (s1 s2 : Int) (A : Option Addr) (n c : Nat) (l : List (Int × Int)) (w : World) (hn : n ≤ 400) (hl : Sp w A n l) (hs : s1 ≤ s2) (hok : Ok l = true) (hb : Bd l) :
    Calls Try.prog 34 #[sp s1 s2, .slice A n c] w fun e w' => e = .returned (vBE (cov s1 s2 (Nm.norm l)) 0) ∧ Nw w w' := by
  have hnl : (Nm.norm l).length ≤ 400 := by have h1 := fold_len l []; have h2 := hl.1; simp at h1; show (l.foldl Nm.add []).length ≤ 400; omega
  have HL := Lib.hid hl
  have hv := fun w hl => all_any A n c l w (by omega) hl
  rw [hok] at hv
  have HV := Lib.hid hv
  have HOK := Lib.hid hok
  have HB := Lib.hid hb
  clear hl hok hb hv
  go_enter Try.func34, Try.ntmps34
  go_wp2_with (first | (go_at_call 40; refine (HV.out _ (HL.out.nw (by repeat (first | exact Xt.Nw.refl _ | refine Xt.Nw.drew ?_ | refine Xt.Nw.drewN ?_ _ | refine Xt.Nw.alloc ?_ _ | refine Xt.Nw.joined ?_ | refine Xt.Nw.drewd ?_ | refine Xt.Nw.drewdN ?_ | refine Xt.Nw.ext ?_ | refine Xt.Nw.ext_some ?_ (by assumption) | refine Xt.Nw.setCell ?_ (by simp [go_sem] <;> omega) _)))).mono ?_; rintro e w' ⟨rfl, dW, rfl⟩) | (go_at_call 28; refine (rnorm_ok _ _ _ l _ (by omega) (HL.out.nw (by repeat (first | exact Xt.Nw.refl _ | refine Xt.Nw.drew ?_ | refine Xt.Nw.drewN ?_ _ | refine Xt.Nw.alloc ?_ _ | refine Xt.Nw.joined ?_ | refine Xt.Nw.drewd ?_ | refine Xt.Nw.drewdN ?_ | refine Xt.Nw.ext ?_ | refine Xt.Nw.ext_some ?_ (by assumption) | refine Xt.Nw.setCell ?_ (by simp [go_sem] <;> omega) _))) HOK.out HB.out).mono ?_; rintro e w' ⟨Aa, ca, rfl, hspa, hnila, hfra, hca, dW, rfl⟩))
  have HA := Lib.hid hspa
  clear hspa hnila hfra hca
  go_loopw [8] (fun t wr => ∃ k : Nat, k ≤ (Nm.norm l).length ∧ t = .int .i64 k ∧ cov s1 s2 ((Nm.norm l).take k) = false ∧ Nw (w.alloc (.cells #[.int .u64 s1, .int .u64 s2] 24)) wr ∧ Sp wr Aa (Nm.norm l).length (Nm.norm l)) (fun t _ => (Nm.norm l).length - (intOf t).toNat)
  case atStart => exact ⟨0, Nat.zero_le _, rfl, rfl, (by repeat (first | exact Xt.Nw.refl _ | refine Xt.Nw.drew ?_ | refine Xt.Nw.drewN ?_ _ | refine Xt.Nw.alloc ?_ _ | refine Xt.Nw.joined ?_ | refine Xt.Nw.drewd ?_ | refine Xt.Nw.drewdN ?_ | refine Xt.Nw.ext ?_ | refine Xt.Nw.ext_some ?_ (by assumption) | refine Xt.Nw.setCell ?_ (by simp [go_sem] <;> omega) _)), HA.out⟩
  case round =>
    obtain ⟨k, hk, rfl, hok, ⟨d, rfl⟩, hsp⟩ := hrel
    by_cases hlt : k < (Nm.norm l).length
    · obtain ⟨b, o, lo, hi, rfl, hb, hx, c0, c1⟩ := hsp.get hlt
      have Hx := Lib.hid hx
      have Hok := Lib.hid hok
      have HSP := Lib.hid hsp
      clear hx hok hsp
      by_cases h1 : lo ≤ s1
      · by_cases h2 : s2 ≤ hi
        · go_wp2
          (refine wp_region_nw (by kernel_rfl) (by kernel_rfl) ?_; (repeat (go_big_quiet_step (fail))); refine wpQuiet_nil ?_; intro _ hreg; obtain ⟨dW, rfl⟩ : Nw _ _ := hreg)
          go_wp2
          go_ret2
          refine ⟨?_, (by repeat (first | exact Xt.Nw.refl _ | refine Xt.Nw.drew ?_ | refine Xt.Nw.drewN ?_ _ | refine Xt.Nw.alloc ?_ _ | refine Xt.Nw.joined ?_ | refine Xt.Nw.drewd ?_ | refine Xt.Nw.drewdN ?_ | refine Xt.Nw.ext ?_ | refine Xt.Nw.ext_some ?_ (by assumption) | refine Xt.Nw.setCell ?_ (by simp [go_sem] <;> omega) _))⟩
          rw [cov_yes Hx.out (by simp; omega)]; rfl
        · have h2' : decide (s2 ≤ hi) = false := by simp; omega
          go_wp2
          (refine wp_region_nw (by kernel_rfl) (by kernel_rfl) ?_; (repeat (go_big_quiet_step (fail))); refine wpQuiet_nil ?_; intro _ hreg; obtain ⟨dW, rfl⟩ : Nw _ _ := hreg)
          go_wp2
          exact ⟨⟨k + 1, by omega, by go_num, cov_no Hok.out Hx.out (by simp; omega), (by repeat (first | exact Xt.Nw.refl _ | refine Xt.Nw.drew ?_ | refine Xt.Nw.drewN ?_ _ | refine Xt.Nw.alloc ?_ _ | refine Xt.Nw.joined ?_ | refine Xt.Nw.drewd ?_ | refine Xt.Nw.drewdN ?_ | refine Xt.Nw.ext ?_ | refine Xt.Nw.ext_some ?_ (by assumption) | refine Xt.Nw.setCell ?_ (by simp [go_sem] <;> omega) _)), HSP.out.nw (by repeat (first | exact Xt.Nw.refl _ | refine Xt.Nw.drew ?_ | refine Xt.Nw.drewN ?_ _ | refine Xt.Nw.alloc ?_ _ | refine Xt.Nw.joined ?_ | refine Xt.Nw.drewd ?_ | refine Xt.Nw.drewdN ?_ | refine Xt.Nw.ext ?_ | refine Xt.Nw.ext_some ?_ (by assumption) | refine Xt.Nw.setCell ?_ (by simp [go_sem] <;> omega) _))⟩, by simp [intOf]; omega⟩
      · have h1' : decide (lo ≤ s1) = false := by simp; omega
        go_wp2
        (refine wp_region_nw (by kernel_rfl) (by kernel_rfl) ?_; (repeat (go_big_quiet_step (fail))); refine wpQuiet_nil ?_; intro _ hreg; obtain ⟨dW, rfl⟩ : Nw _ _ := hreg)
        go_wp2
        exact ⟨⟨k + 1, by omega, by go_num, cov_no Hok.out Hx.out (by simp; omega), (by repeat (first | exact Xt.Nw.refl _ | refine Xt.Nw.drew ?_ | refine Xt.Nw.drewN ?_ _ | refine Xt.Nw.alloc ?_ _ | refine Xt.Nw.joined ?_ | refine Xt.Nw.drewd ?_ | refine Xt.Nw.drewdN ?_ | refine Xt.Nw.ext ?_ | refine Xt.Nw.ext_some ?_ (by assumption) | refine Xt.Nw.setCell ?_ (by simp [go_sem] <;> omega) _)), HSP.out.nw (by repeat (first | exact Xt.Nw.refl _ | refine Xt.Nw.drew ?_ | refine Xt.Nw.drewN ?_ _ | refine Xt.Nw.alloc ?_ _ | refine Xt.Nw.joined ?_ | refine Xt.Nw.drewd ?_ | refine Xt.Nw.drewdN ?_ | refine Xt.Nw.ext ?_ | refine Xt.Nw.ext_some ?_ (by assumption) | refine Xt.Nw.setCell ?_ (by simp [go_sem] <;> omega) _))⟩, by simp [intOf]; omega⟩
    · have hkn : (Nm.norm l).take k = Nm.norm l := List.take_of_length_le (by omega)
      rw [hkn] at hok
      have Hok := Lib.hid hok
      clear hok hkn hsp
      go_wp2
      go_ret2
      refine ⟨?_, (by repeat (first | exact Xt.Nw.refl _ | refine Xt.Nw.drew ?_ | refine Xt.Nw.drewN ?_ _ | refine Xt.Nw.alloc ?_ _ | refine Xt.Nw.joined ?_ | refine Xt.Nw.drewd ?_ | refine Xt.Nw.drewdN ?_ | refine Xt.Nw.ext ?_ | refine Xt.Nw.ext_some ?_ (by assumption) | refine Xt.Nw.setCell ?_ (by simp [go_sem] <;> omega) _))⟩
      rw [Hok.out]; rfl
theorem Bd.norm {l : List (Int × Int)} (h : Bd l) : Bd (Nm.norm l) := fold_bd l [] h fun s hs => by cases hs
set_option maxHeartbeats 1000000 in
theorem lcovers_any (s1 s2 : Int) (A : Option Addr) (n c : Nat) (l : List (Int × Int)) (w : World) (hc : A = none → c = 0) (hn : n ≤ 9223372036854775807) (hl : Sp w A n l) (hb : Bd l) :
    Calls Try.prog 7 #[sp s1 s2, .slice A n c] w fun e w' => e = .returned (.bool true) ∧ Nw w w' := by
  by_cases hbig : 60 < n
  · clear hl hb hc
    go_enter Try.func7, Try.ntmps7
    go_wp2_with ((go_at_call 26; refine (known_any _).mono ?_; rintro e w' ⟨rfl, dW, rfl⟩))
    go_ret
    exact ⟨rfl, (by repeat (first | exact Xt.Nw.refl _ | refine Xt.Nw.drew ?_ | refine Xt.Nw.drewN ?_ _ | refine Xt.Nw.alloc ?_ _ | refine Xt.Nw.joined ?_ | refine Xt.Nw.drewd ?_ | refine Xt.Nw.drewdN ?_ | refine Xt.Nw.ext ?_ | refine Xt.Nw.ext_some ?_ (by assumption) | refine Xt.Nw.setCell ?_ (by simp [go_sem] <;> omega) _))⟩
  · by_cases hg : s2 < s1 ∨ Ok l = false
    · have HG := Lib.hid hg
      have HL := Lib.hid hl
      clear hl hb hc hg
      go_enter Try.func7, Try.ntmps7
      go_wp2_with (first | (go_at_call 33; refine (covers_bad _ _ _ _ _ l _ (by omega) (HL.out.nw (by repeat (first | exact Xt.Nw.refl _ | refine Xt.Nw.drew ?_ | refine Xt.Nw.drewN ?_ _ | refine Xt.Nw.alloc ?_ _ | refine Xt.Nw.joined ?_ | refine Xt.Nw.drewd ?_ | refine Xt.Nw.drewdN ?_ | refine Xt.Nw.ext ?_ | refine Xt.Nw.ext_some ?_ (by assumption) | refine Xt.Nw.setCell ?_ (by simp [go_sem] <;> omega) _))) HG.out).mono ?_; rintro e w' ⟨rfl, dW, rfl⟩) | (go_at_call 34; refine (rcovers_bad _ _ _ _ _ l _ (by omega) (HL.out.nw (by repeat (first | exact Xt.Nw.refl _ | refine Xt.Nw.drew ?_ | refine Xt.Nw.drewN ?_ _ | refine Xt.Nw.alloc ?_ _ | refine Xt.Nw.joined ?_ | refine Xt.Nw.drewd ?_ | refine Xt.Nw.drewdN ?_ | refine Xt.Nw.ext ?_ | refine Xt.Nw.ext_some ?_ (by assumption) | refine Xt.Nw.setCell ?_ (by simp [go_sem] <;> omega) _))) HG.out).mono ?_; rintro e w' ⟨rfl, dW, rfl⟩))
      go_ret
      exact ⟨rfl, (by repeat (first | exact Xt.Nw.refl _ | refine Xt.Nw.drew ?_ | refine Xt.Nw.drewN ?_ _ | refine Xt.Nw.alloc ?_ _ | refine Xt.Nw.joined ?_ | refine Xt.Nw.drewd ?_ | refine Xt.Nw.drewdN ?_ | refine Xt.Nw.ext ?_ | refine Xt.Nw.ext_some ?_ (by assumption) | refine Xt.Nw.setCell ?_ (by simp [go_sem] <;> omega) _))⟩
    · have hs : s1 ≤ s2 := by
        rcases Int.lt_or_le s2 s1 with h | h
        · exact absurd (.inl h) hg
        · exact h
      have hok : Ok l = true := by
        cases h : Ok l with
        | true => rfl
        | false => exact absurd (.inr h) hg
      have HL := Lib.hid hl
      have HC := Lib.hid hc
      have HOK := Lib.hid hok
      have HB := Lib.hid hb
      clear hl hb hc hg hok
      go_enter Try.func7, Try.ntmps7
      go_wp2_with (first | (go_at_call 33; refine (covers_ok _ _ _ _ _ l _ (by omega) HC.out (HL.out.nw (by repeat (first | exact Xt.Nw.refl _ | refine Xt.Nw.drew ?_ | refine Xt.Nw.drewN ?_ _ | refine Xt.Nw.alloc ?_ _ | refine Xt.Nw.joined ?_ | refine Xt.Nw.drewd ?_ | refine Xt.Nw.drewdN ?_ | refine Xt.Nw.ext ?_ | refine Xt.Nw.ext_some ?_ (by assumption) | refine Xt.Nw.setCell ?_ (by simp [go_sem] <;> omega) _))) hs HOK.out HB.out).mono ?_; rintro e w' ⟨rfl, dW, rfl⟩) | (go_at_call 34; refine (rcovers_ok _ _ _ _ _ l _ (by omega) (HL.out.nw (by repeat (first | exact Xt.Nw.refl _ | refine Xt.Nw.drew ?_ | refine Xt.Nw.drewN ?_ _ | refine Xt.Nw.alloc ?_ _ | refine Xt.Nw.joined ?_ | refine Xt.Nw.drewd ?_ | refine Xt.Nw.drewdN ?_ | refine Xt.Nw.ext ?_ | refine Xt.Nw.ext_some ?_ (by assumption) | refine Xt.Nw.setCell ?_ (by simp [go_sem] <;> omega) _))) hs HOK.out HB.out).mono ?_; rintro e w' ⟨rfl, dW, rfl⟩))
      go_ret
      exact ⟨rfl, (by repeat (first | exact Xt.Nw.refl _ | refine Xt.Nw.drew ?_ | refine Xt.Nw.drewN ?_ _ | refine Xt.Nw.alloc ?_ _ | refine Xt.Nw.joined ?_ | refine Xt.Nw.drewd ?_ | refine Xt.Nw.drewdN ?_ | refine Xt.Nw.ext ?_ | refine Xt.Nw.ext_some ?_ (by assumption) | refine Xt.Nw.setCell ?_ (by simp [go_sem] <;> omega) _))⟩
end Go.Proofs.Ytdhinclpmmpkhaa
