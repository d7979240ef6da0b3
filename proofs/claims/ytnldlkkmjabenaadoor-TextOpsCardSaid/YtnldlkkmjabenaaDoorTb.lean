import Derived.Test.YtnldlkkmjabenaaDoorTa
namespace Go.Proofs.YtnldlkkmjabenaaDoor
open Go.RowKit Go.Xt
set_option maxRecDepth 20000 in
set_option maxHeartbeats 4000000 in
theorem rnumber_any (s : ByteArray) (w : World) :
    Calls Tryd.prog 29 #[.string s, .int .u64 18446744073709551615] w fun e w' => e = .returned (numV (numB s.data.toList)) ∧ Nw w w' := by
  have hdl := data_len s
  rcases Nat.eq_zero_or_pos s.size with h0 | h0
  · have hN := Lib.hid (show numB s.data.toList = none by
      have e : s.data.toList = [] := List.eq_nil_of_length_eq_zero (by omega)
      rw [e]; exact numB_empty)
    have e0 : ((s.size : Int) == 0) = true := by rw [beq_iff_eq]; omega
    clear hdl
    go_enter Tryd.func29, Tryd.ntmps29
    go_wp2
    refine bodyPost_ret (results_tmp2 rfl _ _ _) rfl ⟨by rw [hN.out]; rfl, Nw.refl _⟩
  by_cases h20 : 20 < s.size
  · have hN := Lib.hid (show numB s.data.toList = none from numB_long (by omega))
    have e0 : ((s.size : Int) == 0) = false := by rw [beq_eq_false_iff_ne]; omega
    have e1 : decide ((20 : Int) < (s.size : Int)) = true := by rw [decide_eq_true_eq]; omega
    clear hdl
    go_enter Tryd.func29, Tryd.ntmps29
    go_wp2
    refine bodyPost_ret (results_tmp2 rfl _ _ _) rfl ⟨by rw [hN.out]; rfl, Nw.refl _⟩
  obtain ⟨c0, hc0⟩ : ∃ c : UInt8, c = s[0]'h0 := ⟨_, rfl⟩
  have hd0 : s.data.toList.head? = some c0 := by rw [List.head?_eq_getElem?, data_at s 0 h0, hc0]
  have e0 : ((s.size : Int) == 0) = false := by rw [beq_eq_false_iff_ne]; omega
  have e1 : decide ((20 : Int) < (s.size : Int)) = false := by rw [decide_eq_false_iff_not]; omega
  by_cases hz : 1 < s.size ∧ c0 = 48
  · have hN := Lib.hid (show numB s.data.toList = none from numB_zero (by omega) (by rw [hd0, hz.2]))
    have e2 : decide ((1 : Int) < (s.size : Int)) = true := by rw [decide_eq_true_eq]; omega
    have e3 : (((s[0]'h0).toNat : Int) == 48) = true := by rw [← hc0, hz.2]; rfl
    clear hdl hd0 hc0 hz
    go_enter Tryd.func29, Tryd.ntmps29
    go_wp2
    refine bodyPost_ret (results_tmp2 rfl _ _ _) rfl ⟨by rw [hN.out]; rfl, Nw.refl _⟩
  · have hcan : 1 < s.data.toList.length → s.data.toList.head? ≠ some 48 := fun h e => by
      rw [hd0] at e; injection e with e; exact hz ⟨by omega, e⟩
    have hg : decide ((1 : Int) < (s.size : Int)) = false ∨ (decide ((1 : Int) < (s.size : Int)) = true ∧ (((s[0]'h0).toNat : Int) == 48) = false) := by
      by_cases h1 : 1 < s.size
      · right
        refine ⟨by rw [decide_eq_true_eq]; omega, ?_⟩
        rw [beq_eq_false_iff_ne, ← hc0]
        intro e
        refine hz ⟨h1, UInt8.toNat.inj ?_⟩
        show c0.toNat = 48
        omega
      · left; rw [decide_eq_false_iff_not]; omega
    obtain ⟨n, hn⟩ : ∃ n, n = s.size := ⟨_, rfl⟩
    obtain ⟨L, hL⟩ : ∃ L, L = s.data.toList := ⟨_, rfl⟩
    have hbyte : ∀ (i : Nat) (hi : i < s.size), L[i]? = some (s[i]'hi) := fun i hi => by rw [hL]; exact data_at s i hi
    rw [← hL] at hdl hcan ⊢
    have HB := Lib.hid hbyte
    have HC := Lib.hid hcan
    have HN := Lib.hid hn
    have HDL := Lib.hid hdl
    have h0n : 0 < n := by omega
    clear hbyte hcan hn hdl hd0 hc0 hz hL
    rcases hg with e2 | ⟨e2, e3⟩
    all_goals
      go_enter Tryd.func29, Tryd.ntmps29
      go_wp2
      go_loopw [6, 7, 8] (fun a i _ wr => ∃ (k v : Nat), k ≤ n ∧ i = .int .i64 k ∧ a = .int .u64 v ∧ v < 18446744073709551616 ∧ Hid (v = val (L.take k) ∧ dgt (L.take k)) ∧ Nw w wr) (fun _ i _ _ => n - (intOf i).toNat)
      case atStart => exact ⟨0, 0, by omega, rfl, rfl, by omega, ⟨rfl, fun c hc => by simp at hc⟩, Nw.refl _⟩
      case round =>
        obtain ⟨k, v, hk, rfl, rfl, hv, hh, hwr⟩ := hrel
        have HWR := Lib.hid hwr
        clear hwr
        by_cases hlt : k < n
        · have hks : k < s.size := by have := HN.out; omega
          have q1 : (k : Int) < (s.size : Int) := by omega
          obtain ⟨c, hc⟩ : ∃ c : UInt8, c = s[k]'hks := ⟨_, rfl⟩
          have hat : L[k]? = some c := by rw [hc]; exact HB.out k hks
          have htk : L.take (k + 1) = L.take k ++ [c] := by
            obtain ⟨p1, p2⟩ := List.getElem?_eq_some_iff.1 hat
            rw [List.take_succ_eq_append_getElem p1, p2]
          have hcc : (s[k]'hks).toNat = c.toNat := by rw [hc]
          obtain ⟨z, hzz⟩ : ∃ z : Nat, z = c.toNat := ⟨_, rfl⟩
          have hcz : (s[k]'hks).toNat = z := by rw [hcc, hzz]
          have HAT := Lib.hid hat
          have HTK := Lib.hid htk
          have HZ := Lib.hid hzz
          have hz256 : z < 256 := by rw [hzz]; exact c.toNat_lt
          clear hc hat htk hcc hzz
          by_cases hdig : 48 ≤ z ∧ z ≤ 57
          · have f1 : decide ((z : Int) < 48) = false := by rw [decide_eq_false_iff_not]; omega
            have f2 : decide ((57 : Int) < (z : Int)) = false := by rw [decide_eq_false_iff_not]; omega
            have hnx := Lib.hid (show val (L.take (k + 1)) = 10 * v + (z - 48) by rw [HTK.out, val_snoc, ← hh.out.1, ← HZ.out])
            have hdx := Lib.hid (show dgt (L.take (k + 1)) by
              rw [HTK.out]
              intro d hd
              rcases List.mem_append.1 hd with hd | hd
              · exact hh.out.2 d hd
              · rw [List.mem_singleton] at hd; subst hd; rw [← HZ.out]; exact hdig)
            have hdz := hdig
            go_wp2
            all_goals first
              | (exfalso; omega)
              | (have hN := Lib.hid (show numB L = none from numB_big (i := k + 1) (by rw [hnx.out]; omega))
                 refine bodyPost_ret (results_tmp2 rfl _ _ _) rfl ⟨by rw [hN.out]; rfl, HWR.out⟩)
              | exact ⟨⟨k + 1, 10 * v + (z - 48), by omega, by go_num, by go_num, by omega, ⟨hnx.out.symm, hdx.out⟩, HWR.out⟩, by simp [intOf]; omega⟩
          · have hN := Lib.hid (show numB L = none from numB_bad HAT.out (by rw [← HZ.out]; exact hdig))
            rcases (by omega : z < 48 ∨ 57 < z) with hlo | hlo
            · have f1 : decide ((z : Int) < 48) = true := by rw [decide_eq_true_eq]; omega
              go_wp2
              refine bodyPost_ret (results_tmp2 rfl _ _ _) rfl ⟨by rw [hN.out]; rfl, HWR.out⟩
            · have f1 : decide ((z : Int) < 48) = false := by rw [decide_eq_false_iff_not]; omega
              have f2 : decide ((57 : Int) < (z : Int)) = true := by rw [decide_eq_true_eq]; omega
              go_wp2
              refine bodyPost_ret (results_tmp2 rfl _ _ _) rfl ⟨by rw [hN.out]; rfl, HWR.out⟩
        · have q1 : ¬ (k : Int) < (s.size : Int) := by have := HN.out; omega
          have hN := Lib.hid (show numB L = some v by
            have e : L.take k = L := List.take_of_length_le (by have := HN.out; have := HDL.out; omega)
            have h1 := hh.out.1
            have h2 := hh.out.2
            rw [e] at h1 h2
            rw [h1]
            exact numB_of (by intro e; have := HDL.out; rw [e] at this; simp at this; omega) h2 HC.out (by omega))
          have q2 : decide ((v : Int) ≤ 18446744073709551615) = true := by rw [decide_eq_true_eq]; omega
          go_wp2
          refine bodyPost_ret (results_tmp2 rfl _ _ _) rfl ⟨by rw [hN.out]; rfl, HWR.out⟩
end Go.Proofs.YtnldlkkmjabenaaDoor
