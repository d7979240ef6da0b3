import Derived.Test.YtfnapkfdocabcaaGreatGQf
set_option linter.unusedVariables false
set_option linter.unusedSimpArgs false
set_option linter.unnecessarySimpa false
namespace Go.Proofs.YtfnapkfdocabcaaGreat
open Go.RowKit Go.Xt
/-! The model's methods at any state: open, shut, scan, seek, close, next. -/
def cntS (th : List Th) : Nat := th.countP (·.se)
theorem cntS_snoc (b : List Th) (x : Th) : cntS (b ++ [x]) = cntS b + if x.se then 1 else 0 := by
  cases h : x.se <;> simp [cntS, List.countP_append, h]
set_option maxRecDepth 20000 in
set_option maxHeartbeats 4000000 in
theorem sess_any (w : World) (p : Pl) (s : Md) (h : MAt w p s) (hb : s.th.length ≤ 1000) :
    Calls Tryz.prog 93 #[.pointer (some ⟨p.gm, 0, none⟩)] w fun e w' => e = .returned (.int .i64 (cntS s.th : Nat)) ∧ Nw w w' := by
  obtain ⟨gm, gt, gp, v⟩ := p
  have H := Lib.hid h
  obtain ⟨ct, m2⟩ : ∃ ct, w.cell? ⟨gm, 2, none⟩ = some (.slice (some ⟨gt, 0, none⟩) s.th.length ct) := h.m2
  haveI : In gm w := ⟨h.im⟩
  haveI : In gt w := ⟨h.it⟩
  obtain ⟨n, hn⟩ : ∃ n, n = s.th.length := ⟨_, rfl⟩
  rw [← hn] at m2 hb
  have HNL := Lib.hid hn
  have hcb : ∀ k, cntS (s.th.take k) ≤ k := fun k => Nat.le_trans List.countP_le_length (by simp; omega)
  have HCB := Lib.hid hcb
  simp only
  clear h hn hcb
  go_enter Tryz.func93, Tryz.ntmps93
  go_wp2
  go_loopw [3, 4, 10] (fun c _ i wr => ∃ (k m : Nat), k ≤ n ∧ c = .int .i64 (m : Int) ∧ i = .int .i64 k ∧ Hid (m = cntS (s.th.take k)) ∧ Nw w wr) (fun _ _ i _ => n - (intOf i).toNat)
  case atStart => exact ⟨0, 0, by omega, rfl, rfl, rfl, Nw.refl _⟩
  case round =>
    obtain ⟨k, m, hk, rfl, rfl, hm, d, rfl⟩ := hrel
    have hmk : m ≤ k := by rw [hm.out]; exact HCB.out k
    by_cases hlt : k < n
    · obtain ⟨x, hx⟩ : ∃ x, s.th[k]? = some x := ⟨_, List.getElem?_eq_getElem (by have := HNL.out; omega)⟩
      obtain ⟨c0, c1, c2, c3, c4⟩ := (H.out.th : ThR w gt s.th).cells hx
      have hnx : cntS (s.th.take (k + 1)) = m + if x.se then 1 else 0 := by
        obtain ⟨p1, q1⟩ := List.getElem?_eq_some_iff.1 hx
        rw [List.take_succ_eq_append_getElem p1, q1, cntS_snoc, hm.out]
      have HX := Lib.hid hnx
      obtain ⟨xo, xm, xl, xh, xs⟩ := x
      simp only at c4
      clear hx hnx hm c0 c1 c2 c3
      have k1 : (k : Int) < (n : Int) := by omega
      cases xs with
      | true =>
        go_wp2
        exact ⟨⟨k + 1, m + 1, by omega, by go_num, by go_num, HX.out.symm, (by repeat (first | exact Xt.Nw.refl _ | refine Xt.Nw.drew ?_ | refine Xt.Nw.drewN ?_ _ | refine Xt.Nw.alloc ?_ _ | refine Xt.Nw.joined ?_ | refine Xt.Nw.drewd ?_ | refine Xt.Nw.drewdN ?_ | refine Xt.Nw.ext ?_ | refine Xt.Nw.ext_some ?_ (by assumption) | refine Xt.Nw.setCell ?_ (by simp [go_sem] <;> omega) _))⟩, by simp [intOf]; omega⟩
      | false =>
        go_wp2
        exact ⟨⟨k + 1, m, by omega, by go_num, by go_num, HX.out.symm, (by repeat (first | exact Xt.Nw.refl _ | refine Xt.Nw.drew ?_ | refine Xt.Nw.drewN ?_ _ | refine Xt.Nw.alloc ?_ _ | refine Xt.Nw.joined ?_ | refine Xt.Nw.drewd ?_ | refine Xt.Nw.drewdN ?_ | refine Xt.Nw.ext ?_ | refine Xt.Nw.ext_some ?_ (by assumption) | refine Xt.Nw.setCell ?_ (by simp [go_sem] <;> omega) _))⟩, by simp [intOf]; omega⟩
    · have k1 : ¬ (k : Int) < (n : Int) := by omega
      go_wp2
      go_ret
      exact ⟨by rw [hm.out, List.take_of_length_le (by have := HNL.out; omega)]; rfl, (by repeat (first | exact Xt.Nw.refl _ | refine Xt.Nw.drew ?_ | refine Xt.Nw.drewN ?_ _ | refine Xt.Nw.alloc ?_ _ | refine Xt.Nw.joined ?_ | refine Xt.Nw.drewd ?_ | refine Xt.Nw.drewdN ?_ | refine Xt.Nw.ext ?_ | refine Xt.Nw.ext_some ?_ (by assumption) | refine Xt.Nw.setCell ?_ (by simp [go_sem] <;> omega) _))⟩
set_option maxRecDepth 20000 in
set_option maxHeartbeats 8000000 in
theorem m_shut (w : World) (p : Pl) (s : Md) (h : MAt w p s) (t : Nat) (x : Th) (ht : s.th[t]? = some x) (a b c d e f : Int) :
    Calls Tryz.prog 56 #[.pointer (some ⟨p.gm, 0, none⟩), .int .i64 t, op7 2 a b c d e f] w fun e w' => e = .returned (resV ⟨0, false, 0, 0, 0⟩) ∧ ∃ p', MUp w p { s with th := s.th.set t { x with se := false } } p' w' := by
  obtain ⟨gm, gt, gp, v⟩ := p
  obtain ⟨p0, _⟩ := List.getElem?_eq_some_iff.1 ht
  obtain ⟨c0, c1, c2, c3, c4⟩ := (h.th : ThR w gt s.th).cells ht
  obtain ⟨ct, m2⟩ : ∃ ct, w.cell? ⟨gm, 2, none⟩ = some (.slice (some ⟨gt, 0, none⟩) s.th.length ct) := h.m2
  have hz : w.frozen? ⟨gt, t * 5 + 4, none⟩ = false := ThR.frozen h.th _
  haveI : In gm w := ⟨h.im⟩
  haveI : In gt w := ⟨h.it⟩
  have H := Lib.hid (MUp.ths h (List.length_set ..) (ThR.se h.th ht false) (Chg.set1 w gt _ _))
  obtain ⟨n, hn⟩ : ∃ n, n = s.th.length := ⟨_, rfl⟩
  rw [← hn] at m2 p0
  have t0 : (0 : Int) ≤ (t : Int) := by omega
  have t1 : (t : Int) < (n : Int) := by omega
  unfold resV
  simp only
  clear h ht hn
  go_enter Tryz.func56, Tryz.ntmps56
  go_wp2
  refine bodyPost_ret (v := res5 0 false 0 0 0) ?_ rfl ⟨rfl, _, MUp.nw H.out (by repeat (first | exact Xt.Nw.refl _ | refine Xt.Nw.drew ?_ | refine Xt.Nw.drewN ?_ _ | refine Xt.Nw.alloc ?_ _ | refine Xt.Nw.joined ?_ | refine Xt.Nw.drewd ?_ | refine Xt.Nw.drewdN ?_ | refine Xt.Nw.ext ?_ | refine Xt.Nw.ext_some ?_ (by assumption) | refine Xt.Nw.setCell ?_ (by simp [go_sem] <;> omega) _))⟩
  simp [results, Tryz.results56, go_sem]
/-- What OpOpen makes of a thread that has no session. -/
def openE (s : Md) : Int := if s.slots ≤ (cntS s.th : Nat) then 10 else 0
def openM (s : Md) (t : Nat) (x : Th) : Md := if s.slots ≤ (cntS s.th : Nat) then s else { s with th := s.th.set t { x with se := true } }
set_option maxRecDepth 20000 in
set_option maxHeartbeats 8000000 in
theorem m_open (w : World) (p : Pl) (s : Md) (h : MAt w p s) (hb : s.th.length ≤ 1000) (t : Nat) (x : Th) (ht : s.th[t]? = some x) (a b c d e f : Int) :
    Calls Tryz.prog 55 #[.pointer (some ⟨p.gm, 0, none⟩), .int .i64 t, op7 1 a b c d e f] w fun e w' => e = .returned (resV ⟨openE s, false, 0, 0, 0⟩) ∧ ∃ p', MUp w p (openM s t x) p' w' := by
  have HS := Lib.hid (fun W (hw : Nw w W) => sess_any W p s (h.nw hw) hb)
  obtain ⟨gm, gt, gp, v⟩ := p
  obtain ⟨p0, _⟩ := List.getElem?_eq_some_iff.1 ht
  obtain ⟨c0, c1, c2, c3, c4⟩ := (h.th : ThR w gt s.th).cells ht
  obtain ⟨ct, m2⟩ : ∃ ct, w.cell? ⟨gm, 2, none⟩ = some (.slice (some ⟨gt, 0, none⟩) s.th.length ct) := h.m2
  have m0 : w.cell? ⟨gm, 0, none⟩ = some (.int .i64 s.slots) := h.m0
  have hz : w.frozen? ⟨gt, t * 5 + 4, none⟩ = false := ThR.frozen h.th _
  haveI : In gm w := ⟨h.im⟩
  haveI : In gt w := ⟨h.it⟩
  have H := Lib.hid (MUp.ths h (List.length_set ..) (ThR.se h.th ht true) (Chg.set1 w gt _ _))
  have H0 := Lib.hid h
  obtain ⟨n, hn⟩ : ∃ n, n = s.th.length := ⟨_, rfl⟩
  rw [← hn] at m2 p0
  have t0 : (0 : Int) ≤ (t : Int) := by omega
  have t1 : (t : Int) < (n : Int) := by omega
  unfold resV
  simp only at HS ⊢
  by_cases hs : s.slots ≤ ((cntS s.th : Nat) : Int)
  · have e1 : openE s = 10 := if_pos hs
    have e2 : openM s t x = s := if_pos hs
    rw [e1, e2]
    obtain ⟨cc, hc⟩ : ∃ c : Int, c = ((cntS s.th : Nat) : Int) := ⟨_, rfl⟩
    obtain ⟨sl, hsl⟩ : ∃ z, z = s.slots := ⟨_, rfl⟩
    rw [← hc] at HS hs
    rw [← hsl] at m0 hs
    have d1 : decide (sl ≤ cc) = true := by simpa using hs
    clear h ht hn hb hc hsl e1 e2 hs
    go_enter Tryz.func55, Tryz.ntmps55
    go_upto_region 1 with (fail)
    (refine wp_region_nw (by kernel_rfl) (by kernel_rfl) ?_; (repeat (go_big_quiet_step ((go_at_call 93; exact quiet_of (HS.out _ ((by repeat (first | exact Xt.Nw.refl _ | refine Xt.Nw.drew ?_ | refine Xt.Nw.drewN ?_ _ | refine Xt.Nw.alloc ?_ _ | refine Xt.Nw.joined ?_ | refine Xt.Nw.drewd ?_ | refine Xt.Nw.drewdN ?_ | refine Xt.Nw.ext ?_ | refine Xt.Nw.ext_some ?_ (by assumption) | refine Xt.Nw.setCell ?_ (by simp [go_sem] <;> omega) _)))))))); refine wpQuiet_nil ?_; intro _ hreg; obtain ⟨dW, rfl⟩ : Nw _ _ := hreg)
    go_wp2
    refine bodyPost_ret (v := res5 10 false 0 0 0) ?_ rfl ⟨rfl, _, MUp.same H0.out (by repeat (first | exact Xt.Nw.refl _ | refine Xt.Nw.drew ?_ | refine Xt.Nw.drewN ?_ _ | refine Xt.Nw.alloc ?_ _ | refine Xt.Nw.joined ?_ | refine Xt.Nw.drewd ?_ | refine Xt.Nw.drewdN ?_ | refine Xt.Nw.ext ?_ | refine Xt.Nw.ext_some ?_ (by assumption) | refine Xt.Nw.setCell ?_ (by simp [go_sem] <;> omega) _))⟩
    simp [results, Tryz.results55, go_sem]
  · have e1 : openE s = 0 := if_neg hs
    have e2 : openM s t x = { s with th := s.th.set t { x with se := true } } := if_neg hs
    rw [e1, e2]
    obtain ⟨cc, hc⟩ : ∃ c : Int, c = ((cntS s.th : Nat) : Int) := ⟨_, rfl⟩
    obtain ⟨sl, hsl⟩ : ∃ z, z = s.slots := ⟨_, rfl⟩
    rw [← hc] at HS hs
    rw [← hsl] at m0 hs
    have d1 : decide (sl ≤ cc) = false := by simpa using hs
    clear h ht hn hb hc hsl e1 e2 hs
    go_enter Tryz.func55, Tryz.ntmps55
    go_upto_region 1 with (fail)
    (refine wp_region_nw (by kernel_rfl) (by kernel_rfl) ?_; (repeat (go_big_quiet_step ((go_at_call 93; exact quiet_of (HS.out _ ((by repeat (first | exact Xt.Nw.refl _ | refine Xt.Nw.drew ?_ | refine Xt.Nw.drewN ?_ _ | refine Xt.Nw.alloc ?_ _ | refine Xt.Nw.joined ?_ | refine Xt.Nw.drewd ?_ | refine Xt.Nw.drewdN ?_ | refine Xt.Nw.ext ?_ | refine Xt.Nw.ext_some ?_ (by assumption) | refine Xt.Nw.setCell ?_ (by simp [go_sem] <;> omega) _)))))))); refine wpQuiet_nil ?_; intro _ hreg; obtain ⟨dW, rfl⟩ : Nw _ _ := hreg)
    go_wp2
    refine bodyPost_ret (v := res5 0 false 0 0 0) ?_ rfl ⟨rfl, _, MUp.nw H.out (by repeat (first | exact Xt.Nw.refl _ | refine Xt.Nw.drew ?_ | refine Xt.Nw.drewN ?_ _ | refine Xt.Nw.alloc ?_ _ | refine Xt.Nw.joined ?_ | refine Xt.Nw.drewd ?_ | refine Xt.Nw.drewdN ?_ | refine Xt.Nw.ext ?_ | refine Xt.Nw.ext_some ?_ (by assumption) | refine Xt.Nw.setCell ?_ (by simp [go_sem] <;> omega) _))⟩
    simp [results, Tryz.results55, go_sem]
/-- An iterator put. -/
theorem ThR.it4 {W : World} {gt : Nat} {th : List Th} (h : ThR W gt th) {k : Nat} {x : Th} (hk : th[k]? = some x) (op mo : Bool) (lo hi : Int) :
    ThR ((((W.setCell ⟨gt, k * 5, none⟩ (.bool op)).setCell ⟨gt, k * 5 + 1, none⟩ (.bool mo)).setCell ⟨gt, k * 5 + 2, none⟩ (.int .u64 lo)).setCell ⟨gt, k * 5 + 3, none⟩ (.int .u64 hi)) gt (th.set k ⟨op, mo, lo, hi, x.se⟩) := by
  have h3 := (((h.op hk op).mo (set_at hk _) mo).lo (set_at (set_at hk _) _) lo).hi (set_at (set_at (set_at hk _) _) _) hi
  rw [List.set_set, List.set_set, List.set_set] at h3
  exact h3
set_option maxRecDepth 20000 in
set_option maxHeartbeats 8000000 in
theorem m_close (w : World) (p : Pl) (s : Md) (h : MAt w p s) (t : Nat) (x : Th) (ht : s.th[t]? = some x) (a b c d e f : Int) :
    Calls Tryz.prog 68 #[.pointer (some ⟨p.gm, 0, none⟩), .int .i64 t, op7 14 a b c d e f] w fun e w' => e = .returned (resV ⟨0, false, 0, 0, 0⟩) ∧ ∃ p', MUp w p { s with th := s.th.set t ⟨false, false, 0, 0, x.se⟩ } p' w' := by
  obtain ⟨gm, gt, gp, v⟩ := p
  obtain ⟨p0, _⟩ := List.getElem?_eq_some_iff.1 ht
  obtain ⟨c0, c1, c2, c3, c4⟩ := (h.th : ThR w gt s.th).cells ht
  obtain ⟨ct, m2⟩ : ∃ ct, w.cell? ⟨gm, 2, none⟩ = some (.slice (some ⟨gt, 0, none⟩) s.th.length ct) := h.m2
  have z0 : w.frozen? ⟨gt, t * 5, none⟩ = false := ThR.frozen h.th _
  have z1 : w.frozen? ⟨gt, t * 5 + 1, none⟩ = false := ThR.frozen h.th _
  have z2 : w.frozen? ⟨gt, t * 5 + 2, none⟩ = false := ThR.frozen h.th _
  have z3 : w.frozen? ⟨gt, t * 5 + 3, none⟩ = false := ThR.frozen h.th _
  haveI : In gm w := ⟨h.im⟩
  haveI : In gt w := ⟨h.it⟩
  have H := Lib.hid (MUp.ths h (List.length_set ..) (ThR.it4 h.th ht false false 0 0) ((((Chg.set1 w gt _ _).set2 _ _).set2 _ _).set2 _ _))
  obtain ⟨n, hn⟩ : ∃ n, n = s.th.length := ⟨_, rfl⟩
  rw [← hn] at m2 p0
  have t0 : (0 : Int) ≤ (t : Int) := by omega
  have t1 : (t : Int) < (n : Int) := by omega
  unfold resV
  simp only
  clear h ht hn
  go_enter Tryz.func68, Tryz.ntmps68
  go_wp2
  refine bodyPost_ret (v := res5 0 false 0 0 0) ?_ rfl ⟨rfl, _, MUp.nw H.out (by repeat (first | exact Xt.Nw.refl _ | refine Xt.Nw.drew ?_ | refine Xt.Nw.drewN ?_ _ | refine Xt.Nw.alloc ?_ _ | refine Xt.Nw.joined ?_ | refine Xt.Nw.drewd ?_ | refine Xt.Nw.drewdN ?_ | refine Xt.Nw.ext ?_ | refine Xt.Nw.ext_some ?_ (by assumption) | refine Xt.Nw.setCell ?_ (by simp [go_sem] <;> omega) _))⟩
  simp [results, Tryz.results68, go_sem]
end Go.Proofs.YtfnapkfdocabcaaGreat
