import Derived.Test.YtdhinclpmmpkhaaL
namespace Go.Proofs.Ytdhinclpmmpkhaa
open Go.RowKit Go.Xt
set_option maxHeartbeats 1000000 in
theorem lsame_any (A A' : Option Addr) (n n' c c' : Nat) (l l' : List (Int × Int)) (w : World) (hn : n ≤ 9223372036854775807) (hn' : n' ≤ 9223372036854775807) (hl : Sp w A n l) (hl' : Sp w A' n' l') :
    Calls Try.prog 32 #[.slice A n c, .slice A' n' c'] w fun e w' => e = .returned (.bool (decide (l = l'))) ∧ Nw w w' := by
  have e1 := hl.1
  have e2 := hl'.1
  by_cases hlen : n = n'
  · subst hlen
    have E1 := Lib.hid e1; have E2 := Lib.hid e2
    clear e1 e2
    go_enter Try.func32, Try.ntmps32
    go_wp2
    go_loopw [5] (fun t wr => ∃ k : Nat, k ≤ n ∧ t = .int .i64 k ∧ l.take k = l'.take k ∧ Nw w wr) (fun t _ => n - (intOf t).toNat)
    case atStart => exact ⟨0, Nat.zero_le _, rfl, rfl, Nw.refl _⟩
    case round =>
      obtain ⟨k, hk, rfl, hok, d, rfl⟩ := hrel
      have Hok := Lib.hid hok
      clear hok
      by_cases hlt : k < n
      · obtain ⟨b, o, lo, hi, rfl, hb, hx, c0, c1⟩ := hl.get hlt
        obtain ⟨b', o', lo', hi', rfl, hb', hx', c0', c1'⟩ := hl'.get hlt
        have Hx := Lib.hid hx
        have Hx' := Lib.hid hx'
        clear hx hx'
        have hD : ¬ (lo = lo' ∧ hi = hi') → decide (l = l') = false := by
          intro hne
          rw [decide_eq_false_iff_not]
          rintro rfl
          have h1 := Hx.out; rw [Hx'.out] at h1
          simp only [Option.some.injEq, Prod.mk.injEq] at h1
          exact hne ⟨h1.1.symm, h1.2.symm⟩
        have HD := Lib.hid hD
        clear hD
        by_cases h1 : lo = lo'
        · subst h1
          by_cases h2 : hi = hi'
          · subst h2
            go_wp2
            (refine wp_region_nw (by kernel_rfl) (by kernel_rfl) ?_; (repeat (go_big_quiet_step (fail))); refine wpQuiet_nil ?_; intro _ hreg; obtain ⟨dW, rfl⟩ : Nw _ _ := hreg)
            go_wp2
            refine ⟨⟨k + 1, by omega, by go_num, ?_, (by repeat (first | exact Xt.Nw.refl _ | refine Xt.Nw.drew ?_ | refine Xt.Nw.drewN ?_ _ | refine Xt.Nw.alloc ?_ _ | refine Xt.Nw.joined ?_ | refine Xt.Nw.drewd ?_ | refine Xt.Nw.drewdN ?_ | refine Xt.Nw.ext ?_ | refine Xt.Nw.ext_some ?_ (by assumption) | refine Xt.Nw.setCell ?_ (by simp [go_sem] <;> omega) _))⟩, by simp [intOf]; omega⟩
            obtain ⟨p1, q1⟩ := List.getElem?_eq_some_iff.1 Hx.out
            obtain ⟨p2, q2⟩ := List.getElem?_eq_some_iff.1 Hx'.out
            rw [List.take_succ_eq_append_getElem p1, List.take_succ_eq_append_getElem p2, Hok.out, q1, q2]
          · go_wp2
            (refine wp_region_nw (by kernel_rfl) (by kernel_rfl) ?_; (repeat (go_big_quiet_step (fail))); refine wpQuiet_nil ?_; intro _ hreg; obtain ⟨dW, rfl⟩ : Nw _ _ := hreg)
            go_wp2
            go_ret
            exact ⟨ret_bool (HD.out (fun h => h2 h.2)).symm, (by repeat (first | exact Xt.Nw.refl _ | refine Xt.Nw.drew ?_ | refine Xt.Nw.drewN ?_ _ | refine Xt.Nw.alloc ?_ _ | refine Xt.Nw.joined ?_ | refine Xt.Nw.drewd ?_ | refine Xt.Nw.drewdN ?_ | refine Xt.Nw.ext ?_ | refine Xt.Nw.ext_some ?_ (by assumption) | refine Xt.Nw.setCell ?_ (by simp [go_sem] <;> omega) _))⟩
        · go_wp2
          (refine wp_region_nw (by kernel_rfl) (by kernel_rfl) ?_; (repeat (go_big_quiet_step (fail))); refine wpQuiet_nil ?_; intro _ hreg; obtain ⟨dW, rfl⟩ : Nw _ _ := hreg)
          go_wp2
          go_ret
          exact ⟨ret_bool (HD.out (fun h => h1 h.1)).symm, (by repeat (first | exact Xt.Nw.refl _ | refine Xt.Nw.drew ?_ | refine Xt.Nw.drewN ?_ _ | refine Xt.Nw.alloc ?_ _ | refine Xt.Nw.joined ?_ | refine Xt.Nw.drewd ?_ | refine Xt.Nw.drewdN ?_ | refine Xt.Nw.ext ?_ | refine Xt.Nw.ext_some ?_ (by assumption) | refine Xt.Nw.setCell ?_ (by simp [go_sem] <;> omega) _))⟩
      · go_wp2
        go_ret
        refine ⟨ret_bool ?_, (by repeat (first | exact Xt.Nw.refl _ | refine Xt.Nw.drew ?_ | refine Xt.Nw.drewN ?_ _ | refine Xt.Nw.alloc ?_ _ | refine Xt.Nw.joined ?_ | refine Xt.Nw.drewd ?_ | refine Xt.Nw.drewdN ?_ | refine Xt.Nw.ext ?_ | refine Xt.Nw.ext_some ?_ (by assumption) | refine Xt.Nw.setCell ?_ (by simp [go_sem] <;> omega) _))⟩
        have h := Hok.out
        rw [List.take_of_length_le (by have := E1.out; omega), List.take_of_length_le (by have := E2.out; omega)] at h
        simp [h]
  · have hne : ((n : Int) != n') = true := by simp; omega
    have hd : Hid (decide (l = l') = false) := by
      show _ = _
      rw [decide_eq_false_iff_not]; rintro rfl; omega
    clear e1 e2 hl hl'
    go_enter Try.func32, Try.ntmps32
    go_wp2
    go_ret
    exact ⟨ret_bool hd.out.symm, (by repeat (first | exact Xt.Nw.refl _ | refine Xt.Nw.drew ?_ | refine Xt.Nw.drewN ?_ _ | refine Xt.Nw.alloc ?_ _ | refine Xt.Nw.joined ?_ | refine Xt.Nw.drewd ?_ | refine Xt.Nw.drewdN ?_ | refine Xt.Nw.ext ?_ | refine Xt.Nw.ext_some ?_ (by assumption) | refine Xt.Nw.setCell ?_ (by simp [go_sem] <;> omega) _))⟩

set_option maxHeartbeats 1000000 in
theorem bad_any (A : Option Addr) (n c : Nat) (l : List (Int × Int)) (w : World) (hn : n ≤ 9223372036854775807) (hl : Sp w A n l) :
    Calls Try.prog 30 #[.slice A n c] w fun e w' => e = .returned (.bool (!Ok l || decide (60 < n))) ∧ Nw w w' := by
  go_enter Try.func30, Try.ntmps30
  go_wp2
  go_loopw [3] (fun t wr => ∃ k : Nat, k ≤ n ∧ t = .int .i64 k ∧ Ok (l.take k) = true ∧ Nw w wr) (fun t _ => n - (intOf t).toNat)
  case atStart => exact ⟨0, Nat.zero_le _, rfl, rfl, Nw.refl _⟩
  case round =>
    obtain ⟨k, hk, rfl, hok, d, rfl⟩ := hrel
    by_cases hlt : k < n
    · obtain ⟨b, o, lo, hi, rfl, hb, hx, c0, c1⟩ := hl.get hlt
      have Hx := Lib.hid hx
      have Hok := Lib.hid hok
      clear hx hok
      by_cases hbad : hi < lo
      · go_wp2
        (refine wp_region_nw (by kernel_rfl) (by kernel_rfl) ?_; (repeat (go_big_quiet_step (fail))); refine wpQuiet_nil ?_; intro _ hreg; obtain ⟨dW, rfl⟩ : Nw _ _ := hreg)
        go_wp2
        go_ret
        exact ⟨ret_bool (by rw [Ok_bad Hx.out (by simp; omega)]; rfl), (by repeat (first | exact Xt.Nw.refl _ | refine Xt.Nw.drew ?_ | refine Xt.Nw.drewN ?_ _ | refine Xt.Nw.alloc ?_ _ | refine Xt.Nw.joined ?_ | refine Xt.Nw.drewd ?_ | refine Xt.Nw.drewdN ?_ | refine Xt.Nw.ext ?_ | refine Xt.Nw.ext_some ?_ (by assumption) | refine Xt.Nw.setCell ?_ (by simp [go_sem] <;> omega) _))⟩
      · go_wp2
        (refine wp_region_nw (by kernel_rfl) (by kernel_rfl) ?_; (repeat (go_big_quiet_step (fail))); refine wpQuiet_nil ?_; intro _ hreg; obtain ⟨dW, rfl⟩ : Nw _ _ := hreg)
        go_wp2
        refine ⟨⟨k + 1, by omega, by go_num, ?_, (by repeat (first | exact Xt.Nw.refl _ | refine Xt.Nw.drew ?_ | refine Xt.Nw.drewN ?_ _ | refine Xt.Nw.alloc ?_ _ | refine Xt.Nw.joined ?_ | refine Xt.Nw.drewd ?_ | refine Xt.Nw.drewdN ?_ | refine Xt.Nw.ext ?_ | refine Xt.Nw.ext_some ?_ (by assumption) | refine Xt.Nw.setCell ?_ (by simp [go_sem] <;> omega) _))⟩, by simp [intOf]; omega⟩
        rw [Ok_snoc Hx.out, Hok.out]
        simp; omega
    · have hkn : l.take k = l := List.take_of_length_le (by have := hl.1; omega)
      rw [hkn] at hok
      have Hok := Lib.hid hok
      clear hok hkn
      go_wp2
      go_ret
      exact ⟨ret_bool (show decide ((60 : Int) < (n : Int)) = _ from by rw [Hok.out, Bool.eq_iff_iff]; simp; omega), (by repeat (first | exact Xt.Nw.refl _ | refine Xt.Nw.drew ?_ | refine Xt.Nw.drewN ?_ _ | refine Xt.Nw.alloc ?_ _ | refine Xt.Nw.joined ?_ | refine Xt.Nw.drewd ?_ | refine Xt.Nw.drewdN ?_ | refine Xt.Nw.ext ?_ | refine Xt.Nw.ext_some ?_ (by assumption) | refine Xt.Nw.setCell ?_ (by simp [go_sem] <;> omega) _))⟩
def inF (key : Int) (l : List (Int × Int)) : Bool := l.any fun s => decide (s.1 ≤ key) && decide (key ≤ s.2)
theorem inF_iff (key : Int) (l : List (Int × Int)) : inF key l = true ↔ Nm.key key l := by simp [inF, Nm.key]
theorem inF_no {key : Int} {l : List (Int × Int)} {k : Nat} {x : Int × Int} (h : inF key (l.take k) = false) (hx : l[k]? = some x) (hn : ¬ (x.1 ≤ key ∧ key ≤ x.2)) : inF key (l.take (k + 1)) = false := by
  obtain ⟨hk, rfl⟩ := List.getElem?_eq_some_iff.1 hx
  rw [List.take_succ_eq_append_getElem hk, inF, List.any_append]
  simp only [inF] at h
  rw [h]
  simp only [List.any_cons, List.any_nil, Bool.or_false, Bool.false_or, Bool.and_eq_false_iff, decide_eq_false_iff_not]
  omega
theorem inF_yes {key : Int} {l : List (Int × Int)} {k : Nat} {x : Int × Int} (hx : l[k]? = some x) (hn : x.1 ≤ key ∧ key ≤ x.2) : inF key l = true := by
  rw [inF_iff]; exact ⟨x, List.mem_of_getElem? hx, hn⟩
set_option maxHeartbeats 1000000 in
theorem in_any (key : Int) (A : Option Addr) (n c : Nat) (l : List (Int × Int)) (w : World) (hn : n ≤ 9223372036854775807) (hl : Sp w A n l) :
    Calls Try.prog 31 #[.int .u64 key, .slice A n c] w fun e w' => e = .returned (.bool (inF key l)) ∧ Nw w w' := by
  go_enter Try.func31, Try.ntmps31
  go_wp2
  go_loopw [5] (fun t wr => ∃ k : Nat, k ≤ n ∧ t = .int .i64 k ∧ inF key (l.take k) = false ∧ Nw w wr) (fun t _ => n - (intOf t).toNat)
  case atStart => exact ⟨0, Nat.zero_le _, rfl, rfl, Nw.refl _⟩
  case round =>
    obtain ⟨k, hk, rfl, hok, d, rfl⟩ := hrel
    by_cases hlt : k < n
    · obtain ⟨b, o, lo, hi, rfl, hb, hx, c0, c1⟩ := hl.get hlt
      have Hx := Lib.hid hx
      have Hok := Lib.hid hok
      clear hx hok
      by_cases h1 : lo ≤ key
      · by_cases h2 : key ≤ hi
        · go_wp2
          go_ret
          exact ⟨ret_bool (inF_yes Hx.out ⟨h1, h2⟩).symm, (by repeat (first | exact Xt.Nw.refl _ | refine Xt.Nw.drew ?_ | refine Xt.Nw.drewN ?_ _ | refine Xt.Nw.alloc ?_ _ | refine Xt.Nw.joined ?_ | refine Xt.Nw.drewd ?_ | refine Xt.Nw.drewdN ?_ | refine Xt.Nw.ext ?_ | refine Xt.Nw.ext_some ?_ (by assumption) | refine Xt.Nw.setCell ?_ (by simp [go_sem] <;> omega) _))⟩
        · go_wp2
          exact ⟨⟨k + 1, by omega, by go_num, inF_no Hok.out Hx.out (fun h => by have := h.2; simp only at this; omega), (by repeat (first | exact Xt.Nw.refl _ | refine Xt.Nw.drew ?_ | refine Xt.Nw.drewN ?_ _ | refine Xt.Nw.alloc ?_ _ | refine Xt.Nw.joined ?_ | refine Xt.Nw.drewd ?_ | refine Xt.Nw.drewdN ?_ | refine Xt.Nw.ext ?_ | refine Xt.Nw.ext_some ?_ (by assumption) | refine Xt.Nw.setCell ?_ (by simp [go_sem] <;> omega) _))⟩, by simp [intOf]; omega⟩
      · go_wp2
        exact ⟨⟨k + 1, by omega, by go_num, inF_no Hok.out Hx.out (fun h => by have := h.1; simp only at this; omega), (by repeat (first | exact Xt.Nw.refl _ | refine Xt.Nw.drew ?_ | refine Xt.Nw.drewN ?_ _ | refine Xt.Nw.alloc ?_ _ | refine Xt.Nw.joined ?_ | refine Xt.Nw.drewd ?_ | refine Xt.Nw.drewdN ?_ | refine Xt.Nw.ext ?_ | refine Xt.Nw.ext_some ?_ (by assumption) | refine Xt.Nw.setCell ?_ (by simp [go_sem] <;> omega) _))⟩, by simp [intOf]; omega⟩
    · have hkn : l.take k = l := List.take_of_length_le (by have := hl.1; omega)
      rw [hkn] at hok
      have Hok := Lib.hid hok
      clear hok hkn
      go_wp2
      go_ret
      exact ⟨ret_bool Hok.out.symm, (by repeat (first | exact Xt.Nw.refl _ | refine Xt.Nw.drew ?_ | refine Xt.Nw.drewN ?_ _ | refine Xt.Nw.alloc ?_ _ | refine Xt.Nw.joined ?_ | refine Xt.Nw.drewd ?_ | refine Xt.Nw.drewdN ?_ | refine Xt.Nw.ext ?_ | refine Xt.Nw.ext_some ?_ (by assumption) | refine Xt.Nw.setCell ?_ (by simp [go_sem] <;> omega) _))⟩
/-! ### Covers -/
def cov (s1 s2 : Int) (l : List (Int × Int)) : Bool := l.any fun x => decide (x.1 ≤ s1) && decide (s2 ≤ x.2)
theorem cov_no {s1 s2 : Int} {l : List (Int × Int)} {k : Nat} {x : Int × Int} (h : cov s1 s2 (l.take k) = false) (hx : l[k]? = some x) (hn : (decide (x.1 ≤ s1) && decide (s2 ≤ x.2)) = false) : cov s1 s2 (l.take (k + 1)) = false := by
  obtain ⟨hk, rfl⟩ := List.getElem?_eq_some_iff.1 hx
  rw [List.take_succ_eq_append_getElem hk, cov, List.any_append]
  simp only [cov] at h
  rw [h]
  simp only [List.any_cons, List.any_nil, Bool.or_false, Bool.false_or, hn]
theorem cov_yes {s1 s2 : Int} {l : List (Int × Int)} {k : Nat} {x : Int × Int} (hx : l[k]? = some x) (hn : (decide (x.1 ≤ s1) && decide (s2 ≤ x.2)) = true) : cov s1 s2 l = true := by
  rw [cov, List.any_eq_true]; exact ⟨x, List.mem_of_getElem? hx, hn⟩
set_option maxHeartbeats 400000 in
theorem cclosure (x1 x2 s1 s2 : Int) (p : Nat) (w : World) (hp : In p w) (c0 : w.cell? ⟨p, 0, none⟩ = some (.int .u64 s1)) (c1 : w.cell? ⟨p, 1, none⟩ = some (.int .u64 s2)) :
    Calls Try.prog 44 #[sp x1 x2, .pointer (some ⟨p, 0, none⟩)] w fun e w' => e = .returned (.bool (decide (x1 ≤ s1) && decide (s2 ≤ x2))) ∧ Nw w w' := by
  go_enter Try.func44, Try.ntmps44
  go_wp2
  all_goals (go_ret; exact ⟨ret_bool (by simp <;> omega), (by repeat (first | exact Xt.Nw.refl _ | refine Xt.Nw.drew ?_ | refine Xt.Nw.drewN ?_ _ | refine Xt.Nw.alloc ?_ _ | refine Xt.Nw.joined ?_ | refine Xt.Nw.drewd ?_ | refine Xt.Nw.drewdN ?_ | refine Xt.Nw.ext ?_ | refine Xt.Nw.ext_some ?_ (by assumption) | refine Xt.Nw.setCell ?_ (by simp [go_sem] <;> omega) _))⟩)
set_option maxHeartbeats 1000000 in
theorem indexFunc_any (s1 s2 : Int) (p : Nat) (A : Option Addr) (n c : Nat) (l : List (Int × Int)) (w : World) (hn : n ≤ 9223372036854775807) (hl : Sp w A n l) (hp : In p w) (p0 : w.cell? ⟨p, 0, none⟩ = some (.int .u64 s1)) (p1 : w.cell? ⟨p, 1, none⟩ = some (.int .u64 s2)) :
    Calls Try.prog 48 #[.slice A n c, .func (.func 44) #[] #[.pointer (some ⟨p, 0, none⟩)]] w fun e w' => (∃ r : Int, e = .returned (.int .i64 r) ∧ decide (0 ≤ r) = cov s1 s2 l) ∧ Nw w w' := by
  go_enter Try.func48, Try.ntmps48
  go_wp2
  go_loopw [8] (fun t wr => ∃ k : Nat, k ≤ n ∧ t = .int .i64 k ∧ cov s1 s2 (l.take k) = false ∧ Nw w wr) (fun t _ => n - (intOf t).toNat)
  case atStart => exact ⟨0, Nat.zero_le _, rfl, rfl, Nw.refl _⟩
  case round =>
    obtain ⟨k, hk, rfl, hok, d, rfl⟩ := hrel
    by_cases hlt : k < n
    · obtain ⟨b, o, lo, hi, rfl, hb, hx, c0, c1⟩ := hl.get hlt
      have Hx := Lib.hid hx
      have Hok := Lib.hid hok
      clear hx hok
      cases hq : (decide (lo ≤ s1) && decide (s2 ≤ hi)) with
      | true =>
        have hcl := fun w hp c0 c1 => cclosure lo hi s1 s2 p w hp c0 c1
        rw [hq] at hcl
        have HCL := Lib.hid hcl
        have HQ := Lib.hid hq
        clear hcl hq
        go_wp2_with ((go_at_call 44; refine (HCL.out _ inferInstance (by simp [go_sem, p0]) (by simp [go_sem, p1])).mono ?_; rintro e w' ⟨rfl, dW, rfl⟩))
        go_ret
        exact ⟨⟨_, rfl, by rw [cov_yes Hx.out HQ.out]; simp⟩, (by repeat (first | exact Xt.Nw.refl _ | refine Xt.Nw.drew ?_ | refine Xt.Nw.drewN ?_ _ | refine Xt.Nw.alloc ?_ _ | refine Xt.Nw.joined ?_ | refine Xt.Nw.drewd ?_ | refine Xt.Nw.drewdN ?_ | refine Xt.Nw.ext ?_ | refine Xt.Nw.ext_some ?_ (by assumption) | refine Xt.Nw.setCell ?_ (by simp [go_sem] <;> omega) _))⟩
      | false =>
        have hcl := fun w hp c0 c1 => cclosure lo hi s1 s2 p w hp c0 c1
        rw [hq] at hcl
        have HCL := Lib.hid hcl
        have HQ := Lib.hid hq
        clear hcl hq
        go_wp2_with ((go_at_call 44; refine (HCL.out _ inferInstance (by simp [go_sem, p0]) (by simp [go_sem, p1])).mono ?_; rintro e w' ⟨rfl, dW, rfl⟩))
        exact ⟨⟨k + 1, by omega, by go_num, cov_no Hok.out Hx.out HQ.out, (by repeat (first | exact Xt.Nw.refl _ | refine Xt.Nw.drew ?_ | refine Xt.Nw.drewN ?_ _ | refine Xt.Nw.alloc ?_ _ | refine Xt.Nw.joined ?_ | refine Xt.Nw.drewd ?_ | refine Xt.Nw.drewdN ?_ | refine Xt.Nw.ext ?_ | refine Xt.Nw.ext_some ?_ (by assumption) | refine Xt.Nw.setCell ?_ (by simp [go_sem] <;> omega) _))⟩, by simp [intOf]; omega⟩
    · have hkn : l.take k = l := List.take_of_length_le (by have := hl.1; omega)
      rw [hkn] at hok
      have Hok := Lib.hid hok
      clear hok hkn
      go_wp2
      go_ret
      exact ⟨⟨_, rfl, by rw [Hok.out]; simp⟩, (by repeat (first | exact Xt.Nw.refl _ | refine Xt.Nw.drew ?_ | refine Xt.Nw.drewN ?_ _ | refine Xt.Nw.alloc ?_ _ | refine Xt.Nw.joined ?_ | refine Xt.Nw.drewd ?_ | refine Xt.Nw.drewdN ?_ | refine Xt.Nw.ext ?_ | refine Xt.Nw.ext_some ?_ (by assumption) | refine Xt.Nw.setCell ?_ (by simp [go_sem] <;> omega) _))⟩
set_option maxHeartbeats 1000000 in
theorem containsFunc_any (s1 s2 : Int) (p : Nat) (A : Option Addr) (n c : Nat) (l : List (Int × Int)) (w : World) (hn : n ≤ 9223372036854775807) (hl : Sp w A n l) (hp : In p w) (p0 : w.cell? ⟨p, 0, none⟩ = some (.int .u64 s1)) (p1 : w.cell? ⟨p, 1, none⟩ = some (.int .u64 s2)) :
    Calls Try.prog 43 #[.slice A n c, .func (.func 44) #[] #[.pointer (some ⟨p, 0, none⟩)]] w fun e w' => e = .returned (.bool (cov s1 s2 l)) ∧ Nw w w' := by
  have h := Lib.hid (indexFunc_any s1 s2 p A n c l w hn hl hp p0 p1)
  clear hl p0 p1
  go_enter Try.func43, Try.ntmps43
  go_wp2_with (go_at_call 48; refine h.out.mono ?_; rintro e w' ⟨⟨r, rfl, hr⟩, dW, rfl⟩)
  go_ret
  exact ⟨rfl, (by repeat (first | exact Xt.Nw.refl _ | refine Xt.Nw.drew ?_ | refine Xt.Nw.drewN ?_ _ | refine Xt.Nw.alloc ?_ _ | refine Xt.Nw.joined ?_ | refine Xt.Nw.drewd ?_ | refine Xt.Nw.drewdN ?_ | refine Xt.Nw.ext ?_ | refine Xt.Nw.ext_some ?_ (by assumption) | refine Xt.Nw.setCell ?_ (by simp [go_sem] <;> omega) _))⟩
end Go.Proofs.Ytdhinclpmmpkhaa
