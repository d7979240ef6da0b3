import Derived.Test.YtkikdpdainmlcaaGreatGRb
set_option linter.unusedVariables false
set_option linter.unusedSimpArgs false
set_option linter.unnecessarySimpa false
namespace Go.Proofs.YtkikdpdainmlcaaGreat
open Go.RowKit Go.Xt
/-! Accept. -/
def eqR (e : Int) (f : Bool) (k v c e' : Int) (f' : Bool) (k' v' c' : Int) : Bool := decide (e = e') && (decide (f = f') && (decide (k = k') && (decide (v = v') && decide (c = c'))))
@[go_sem 20000] theorem eqResB (e : Int) (f : Bool) (k v c e' : Int) (f' : Bool) (k' v' c' : Int) (w : World) : (Op.equalIn 10000 43 (res5 e f k v c) (res5 e' f' k' v' c')).run Tryz.prog w = .ok (eqR e f k v c e' f' k' v' c') w := eqRes e f k v c e' f' k' v' c' w
@[go_sem] theorem eqR_refl (e : Int) (f : Bool) (k v c : Int) : eqR e f k v c e f k v c = true := by simp [eqR]
theorem has_any (lo hi k : Int) (w : World) :
    Calls Tryz.prog 106 #[.agg #[.int .u64 lo, .int .u64 hi], .int .u64 k] w fun e w' => e = .returned (.bool (decide (lo ≤ k) && decide (k ≤ hi))) ∧ Nw w w' := by
  obtain ⟨b1, h1⟩ : ∃ b1, decide (lo ≤ k) = b1 := ⟨_, rfl⟩
  obtain ⟨b2, h2⟩ : ∃ b2, decide (k ≤ hi) = b2 := ⟨_, rfl⟩
  rw [h1, h2]
  cases b1 <;> cases b2
  all_goals
    go_enter Tryz.func106, Tryz.ntmps106
    go_wp2
    go_ret
    exact ⟨rfl, nwa⟩
set_option maxRecDepth 20000 in
set_option maxHeartbeats 8000000 in
theorem acc_ref (w : World) (p : Pl) (s : Md) (h : MAt w p s) (hl : s.l.length ≤ 500000) (t : Int) (k : Int) (a b c d e f er : Int) (fd : Bool) (ke va cn : Int) (hw : Ox.Wf ⟨k, a, b, c, d, e, f⟩) (hr : refM s t ⟨k, a, b, c, d, e, f⟩ ≠ 0) :
    Calls Tryz.prog 87 #[.pointer (some ⟨p.gm, 0, none⟩), .int .i64 t, op7 k a b c d e f, res5 er fd ke va cn] w fun q w' => q = .returned (.bool (eqR er fd ke va cn er false 0 0 0 && (er == refM s t ⟨k, a, b, c, d, e, f⟩))) ∧ ∃ p', MUp w p s p' w' := by
  have HRF := Lib.hid (fun W (hn : Nw w W) => refusal_any W p s (h.nw hn) t ⟨k, a, b, c, d, e, f⟩ hw)
  unfold opV at HRF
  simp only at HRF
  have H := Lib.hid h
  have im := h.im
  obtain ⟨gm, hgm⟩ : ∃ g, g = p.gm := ⟨_, rfl⟩
  rw [← hgm] at im HRF ⊢
  haveI : In gm w := ⟨im⟩
  obtain ⟨R, hR⟩ : ∃ R, R = refM s t ⟨k, a, b, c, d, e, f⟩ := ⟨_, rfl⟩
  rw [← hR] at HRF hr ⊢
  have r0 : (R == 0) = false := by simpa using hr
  have r1 : ¬ R = 0 := hr
  obtain ⟨al, hal⟩ : ∃ al, eqR er fd ke va cn er false 0 0 0 = al := ⟨_, rfl⟩
  rw [hal]
  clear h hl hw hgm im hR hr
  cases al
  all_goals
    go_enter Tryz.func87, Tryz.ntmps87
    go_wp2_with (go_at_call 102; refine (HRF.out _ (nwa)).mono ?_; rintro e w' ⟨rfl, dW, rfl⟩)
    go_ret
    exact ⟨rfl, _, MUp.same H.out nwa⟩
set_option maxRecDepth 20000 in
set_option maxHeartbeats 8000000 in
theorem acc_gives (w : World) (p : Pl) (s : Md) (h : MAt w p s) (hl : s.l.length ≤ 500000) (t : Nat) (k : Int) (a b c d e f er : Int) (fd : Bool) (ke va cn : Int) (hw : Ox.Wf ⟨k, a, b, c, d, e, f⟩) (hr : refM s t ⟨k, a, b, c, d, e, f⟩ = 0) (hc : chkO ⟨k, a, b, c, d, e, f⟩ = 0) (hal : eqR er fd ke va cn er false 0 0 0 = true) (hg : givesM s ⟨k, a, b, c, d, e, f⟩ er = true) :
    Calls Tryz.prog 87 #[.pointer (some ⟨p.gm, 0, none⟩), .int .i64 t, op7 k a b c d e f, res5 er fd ke va cn] w fun q w' => q = .returned (.bool (true)) ∧ ∃ p', MUp w p s p' w' := by
  have HRF := Lib.hid (fun W (hn : Nw w W) => refusal_any W p s (h.nw hn) t ⟨k, a, b, c, d, e, f⟩ hw)
  have HGV := Lib.hid (fun W (hn : Nw w W) => gives_M W p s (h.nw hn) hl ⟨k, a, b, c, d, e, f⟩ hw hc er)
  rw [hr] at HRF
  unfold opV at HRF
  unfold opV at HGV
  simp only at HGV
  simp only at HRF
  have H := Lib.hid h
  have im := h.im
  rw [hg] at HGV
  obtain ⟨gm, hgm⟩ : ∃ g, g = p.gm := ⟨_, rfl⟩
  rw [← hgm] at im HRF HGV ⊢
  haveI : In gm w := ⟨im⟩
  clear h hl hw hgm im hr hc hg
  go_enter Tryz.func87, Tryz.ntmps87
  go_wp2_with (first | (go_at_call 102; refine (HRF.out _ (nwa)).mono ?_; rintro e w' ⟨rfl, dW, rfl⟩) | (go_at_call 104; refine (HGV.out _ (nwa)).mono ?_; rintro e w' ⟨rfl, dW, rfl⟩))
  go_ret
  exact ⟨rfl, _, MUp.same H.out nwa⟩
set_option maxRecDepth 20000 in
set_option maxHeartbeats 8000000 in
theorem acc_15 (w : World) (p : Pl) (s : Md) (h : MAt w p s) (hl : s.l.length ≤ 500000) (t : Nat) (a b c d e f er : Int) (fd : Bool) (ke va cn : Int) (hw : Ox.Wf ⟨15, a, b, c, d, e, f⟩) (hr : refM s t ⟨15, a, b, c, d, e, f⟩ = 0) (hc : chkO ⟨15, a, b, c, d, e, f⟩ = 0) (hg : eqR er fd ke va cn er false 0 0 0 = false ∨ givesM s ⟨15, a, b, c, d, e, f⟩ er = false) :
    Calls Tryz.prog 87 #[.pointer (some ⟨p.gm, 0, none⟩), .int .i64 t, op7 15 a b c d e f, res5 er fd ke va cn] w fun q w' => q = .returned (.bool (eqR er fd ke va cn 0 false 0 0 cn && (decide (0 ≤ cn) && decide (cn ≤ 1024)))) ∧ ∃ p', MUp w p s p' w' := by
  have HRF := Lib.hid (fun W (hn : Nw w W) => refusal_any W p s (h.nw hn) t ⟨15, a, b, c, d, e, f⟩ hw)
  have HGV := Lib.hid (fun W (hn : Nw w W) => gives_M W p s (h.nw hn) hl ⟨15, a, b, c, d, e, f⟩ hw hc er)
  rw [hr] at HRF
  unfold opV at HRF
  unfold opV at HGV
  simp only at HGV
  simp only at HRF
  have H := Lib.hid h
  have im := h.im
  obtain ⟨gm, hgm⟩ : ∃ g, g = p.gm := ⟨_, rfl⟩
  rw [← hgm] at im HRF HGV ⊢
  haveI : In gm w := ⟨im⟩
  obtain ⟨al, hal⟩ : ∃ al, eqR er fd ke va cn er false 0 0 0 = al := ⟨_, rfl⟩
  obtain ⟨gv, hgv⟩ : ∃ gv, givesM s ⟨15, a, b, c, d, e, f⟩ er = gv := ⟨_, rfl⟩
  obtain ⟨b4, h4⟩ : ∃ b4, eqR er fd ke va cn 0 false 0 0 cn = b4 := ⟨_, rfl⟩
  obtain ⟨d1, h5⟩ : ∃ d1, decide (0 ≤ cn) = d1 := ⟨_, rfl⟩
  obtain ⟨d2, h6⟩ : ∃ d2, decide (cn ≤ 1024) = d2 := ⟨_, rfl⟩
  rw [hal, hgv] at hg
  rw [hgv] at HGV
  rw [h4, h5, h6]
  clear h hl hw hgm im hr hc hgv
  have key : ∀ (Z : Bool), Z = (b4 && (d1 && d2)) → True := fun _ _ => trivial
  clear key
  rcases hg with rfl | rfl
  · cases b4 <;> cases d1 <;> cases d2
    all_goals
      go_enter Tryz.func87, Tryz.ntmps87
      go_wp2_with (first | (go_at_call 102; refine (HRF.out _ (nwa)).mono ?_; rintro e w' ⟨rfl, dW, rfl⟩) | (go_at_call 104; refine (HGV.out _ (nwa)).mono ?_; rintro e w' ⟨rfl, dW, rfl⟩))
      go_ret
      exact ⟨rfl, _, MUp.same H.out nwa⟩
  · cases al <;> cases b4 <;> cases d1 <;> cases d2
    all_goals
      go_enter Tryz.func87, Tryz.ntmps87
      go_wp2_with (first | (go_at_call 102; refine (HRF.out _ (nwa)).mono ?_; rintro e w' ⟨rfl, dW, rfl⟩) | (go_at_call 104; refine (HGV.out _ (nwa)).mono ?_; rintro e w' ⟨rfl, dW, rfl⟩))
      go_ret
      exact ⟨rfl, _, MUp.same H.out nwa⟩
end Go.Proofs.YtkikdpdainmlcaaGreat
namespace Go.Proofs.YtkikdpdainmlcaaGreat
open Go.RowKit Go.Xt
/-! Accept at OpNext and at an operation that is performed. -/
set_option maxRecDepth 20000 in
set_option maxHeartbeats 8000000 in
theorem acc_12a (w : World) (p : Pl) (s : Md) (h : MAt w p s) (hl : s.l.length ≤ 500000) (t : Nat) (a b c d e f er : Int) (fd : Bool) (ke va cn : Int) (hw : Ox.Wf ⟨12, a, b, c, d, e, f⟩) (x : Th) (ht : s.th[t]? = some x) (hr : refM s t ⟨12, a, b, c, d, e, f⟩ = 0) (hc : chkO ⟨12, a, b, c, d, e, f⟩ = 0) (hal : eqR er fd ke va cn er false 0 0 0 = true) (hg : givesM s ⟨12, a, b, c, d, e, f⟩ er = false) (he : er ≠ 14) (hb2 : eqR er fd ke va cn 0 true ke va 0 = false) :
    Calls Tryz.prog 87 #[.pointer (some ⟨p.gm, 0, none⟩), .int .i64 t, op7 12 a b c d e f, res5 er fd ke va cn] w fun q w' => q = .returned (.bool (false)) ∧ ∃ p', MUp w p s p' w' := by
  have HRF := Lib.hid (fun W (hn : Nw w W) => refusal_any W p s (h.nw hn) t ⟨12, a, b, c, d, e, f⟩ hw)
  have HGV := Lib.hid (fun W (hn : Nw w W) => gives_M W p s (h.nw hn) hl ⟨12, a, b, c, d, e, f⟩ hw hc er)
  rw [hr] at HRF
  unfold opV at HRF
  unfold opV at HGV
  simp only at HGV
  simp only at HRF
  have H := Lib.hid h
  have im := h.im
  have e14 : (er == 14) = false := by simpa using he
  rw [hg] at HGV
  obtain ⟨p0, _⟩ := List.getElem?_eq_some_iff.1 ht
  obtain ⟨c0, c1, c2, c3, c4⟩ := h.th.cells ht
  obtain ⟨ct, m2⟩ := h.m2
  have it := h.it
  have HTH := Lib.hid h.th
  have HT := Lib.hid ht
  have HLEN := Lib.hid (fun y : Th => (List.length_set .. : (s.th.set t y).length = s.th.length))
  have HNMT := Lib.hid h.nmt
  obtain ⟨gm, hgm⟩ : ∃ g, g = p.gm := ⟨_, rfl⟩
  obtain ⟨gt, hgt⟩ : ∃ g, g = p.gt := ⟨_, rfl⟩
  obtain ⟨n, hn⟩ : ∃ n, n = s.th.length := ⟨_, rfl⟩
  rw [← hgm, ← hgt, ← hn] at m2
  rw [← hgt] at c0 c1 c2 c3 c4 it HTH
  rw [← hgm] at im HRF HGV ⊢
  rw [← hn] at p0
  haveI : In gm w := ⟨im⟩
  haveI : In gt w := ⟨it⟩
  have t0 : (0 : Int) ≤ (t : Int) := by omega
  have t1 : (t : Int) < (n : Int) := by omega
  have HGT := Lib.hid hgt
  clear h hl hw hgm hgt hn im it hr hc ht
  go_enter Tryz.func87, Tryz.ntmps87
  go_wp2_with (first | (go_at_call 102; refine (HRF.out _ (nwa)).mono ?_; rintro e w' ⟨rfl, dW, rfl⟩) | (go_at_call 104; refine (HGV.out _ (nwa)).mono ?_; rintro e w' ⟨rfl, dW, rfl⟩))
  (refine wp_region_nw (by kernel_rfl) (by kernel_rfl) ?_; (repeat (go_big_quiet_step ((go_at_call 106; exact quiet_of (has_any _ _ _ _))))); refine wpQuiet_nil ?_; intro _ hreg; obtain ⟨dW, rfl⟩ : Nw _ _ := hreg)
  go_wp2
  go_ret
  exact ⟨rfl, _, MUp.same H.out nwa⟩
set_option maxRecDepth 20000 in
set_option maxHeartbeats 8000000 in
theorem acc_12b (w : World) (p : Pl) (s : Md) (h : MAt w p s) (hl : s.l.length ≤ 500000) (t : Nat) (a b c d e f er : Int) (fd : Bool) (ke va cn : Int) (hw : Ox.Wf ⟨12, a, b, c, d, e, f⟩) (x : Th) (ht : s.th[t]? = some x) (hr : refM s t ⟨12, a, b, c, d, e, f⟩ = 0) (hc : chkO ⟨12, a, b, c, d, e, f⟩ = 0) (hal : eqR er fd ke va cn er false 0 0 0 = false) (hb2 : eqR er fd ke va cn 0 true ke va 0 = false) :
    Calls Tryz.prog 87 #[.pointer (some ⟨p.gm, 0, none⟩), .int .i64 t, op7 12 a b c d e f, res5 er fd ke va cn] w fun q w' => q = .returned (.bool (false)) ∧ ∃ p', MUp w p s p' w' := by
  have HRF := Lib.hid (fun W (hn : Nw w W) => refusal_any W p s (h.nw hn) t ⟨12, a, b, c, d, e, f⟩ hw)
  have HGV := Lib.hid (fun W (hn : Nw w W) => gives_M W p s (h.nw hn) hl ⟨12, a, b, c, d, e, f⟩ hw hc er)
  rw [hr] at HRF
  unfold opV at HRF
  unfold opV at HGV
  simp only at HGV
  simp only at HRF
  have H := Lib.hid h
  have im := h.im
  obtain ⟨p0, _⟩ := List.getElem?_eq_some_iff.1 ht
  obtain ⟨c0, c1, c2, c3, c4⟩ := h.th.cells ht
  obtain ⟨ct, m2⟩ := h.m2
  have it := h.it
  have HTH := Lib.hid h.th
  have HT := Lib.hid ht
  have HLEN := Lib.hid (fun y : Th => (List.length_set .. : (s.th.set t y).length = s.th.length))
  have HNMT := Lib.hid h.nmt
  obtain ⟨gm, hgm⟩ : ∃ g, g = p.gm := ⟨_, rfl⟩
  obtain ⟨gt, hgt⟩ : ∃ g, g = p.gt := ⟨_, rfl⟩
  obtain ⟨n, hn⟩ : ∃ n, n = s.th.length := ⟨_, rfl⟩
  rw [← hgm, ← hgt, ← hn] at m2
  rw [← hgt] at c0 c1 c2 c3 c4 it HTH
  rw [← hgm] at im HRF HGV ⊢
  rw [← hn] at p0
  haveI : In gm w := ⟨im⟩
  haveI : In gt w := ⟨it⟩
  have t0 : (0 : Int) ≤ (t : Int) := by omega
  have t1 : (t : Int) < (n : Int) := by omega
  have HGT := Lib.hid hgt
  clear h hl hw hgm hgt hn im it hr hc ht
  go_enter Tryz.func87, Tryz.ntmps87
  go_wp2_with (first | (go_at_call 102; refine (HRF.out _ (nwa)).mono ?_; rintro e w' ⟨rfl, dW, rfl⟩) | (go_at_call 104; refine (HGV.out _ (nwa)).mono ?_; rintro e w' ⟨rfl, dW, rfl⟩))
  (refine wp_region_nw (by kernel_rfl) (by kernel_rfl) ?_; (repeat (go_big_quiet_step ((go_at_call 106; exact quiet_of (has_any _ _ _ _))))); refine wpQuiet_nil ?_; intro _ hreg; obtain ⟨dW, rfl⟩ : Nw _ _ := hreg)
  go_wp2
  go_ret
  exact ⟨rfl, _, MUp.same H.out nwa⟩
set_option maxRecDepth 20000 in
set_option maxHeartbeats 8000000 in
theorem acc_12c (w : World) (p : Pl) (s : Md) (h : MAt w p s) (hl : s.l.length ≤ 500000) (t : Nat) (a b c d e f er : Int) (fd : Bool) (ke va cn : Int) (hw : Ox.Wf ⟨12, a, b, c, d, e, f⟩) (x : Th) (ht : s.th[t]? = some x) (hr : refM s t ⟨12, a, b, c, d, e, f⟩ = 0) (hc : chkO ⟨12, a, b, c, d, e, f⟩ = 0) (her : er = 0) (hfd : fd = true) (hcn : cn = 0) (hh : (decide (x.lo ≤ ke) && decide (ke ≤ x.hi)) = false) :
    Calls Tryz.prog 87 #[.pointer (some ⟨p.gm, 0, none⟩), .int .i64 t, op7 12 a b c d e f, res5 er fd ke va cn] w fun q w' => q = .returned (.bool (false)) ∧ ∃ p', MUp w p s p' w' := by
  have HRF := Lib.hid (fun W (hn : Nw w W) => refusal_any W p s (h.nw hn) t ⟨12, a, b, c, d, e, f⟩ hw)
  have HGV := Lib.hid (fun W (hn : Nw w W) => gives_M W p s (h.nw hn) hl ⟨12, a, b, c, d, e, f⟩ hw hc er)
  rw [hr] at HRF
  unfold opV at HRF
  unfold opV at HGV
  simp only at HGV
  simp only at HRF
  have H := Lib.hid h
  have im := h.im
  obtain ⟨p0, _⟩ := List.getElem?_eq_some_iff.1 ht
  obtain ⟨c0, c1, c2, c3, c4⟩ := h.th.cells ht
  obtain ⟨ct, m2⟩ := h.m2
  have it := h.it
  have HTH := Lib.hid h.th
  have HT := Lib.hid ht
  have HLEN := Lib.hid (fun y : Th => (List.length_set .. : (s.th.set t y).length = s.th.length))
  have HNMT := Lib.hid h.nmt
  obtain ⟨gm, hgm⟩ : ∃ g, g = p.gm := ⟨_, rfl⟩
  obtain ⟨gt, hgt⟩ : ∃ g, g = p.gt := ⟨_, rfl⟩
  obtain ⟨n, hn⟩ : ∃ n, n = s.th.length := ⟨_, rfl⟩
  rw [← hgm, ← hgt, ← hn] at m2
  rw [← hgt] at c0 c1 c2 c3 c4 it HTH
  rw [← hgm] at im HRF HGV ⊢
  rw [← hn] at p0
  haveI : In gm w := ⟨im⟩
  haveI : In gt w := ⟨it⟩
  have t0 : (0 : Int) ≤ (t : Int) := by omega
  have t1 : (t : Int) < (n : Int) := by omega
  have HGT := Lib.hid hgt
  subst her hfd hcn
  have hal : eqR 0 true ke va 0 0 false 0 0 0 = false := by simp [eqR]
  have HH := Lib.hid (fun W => has_any x.lo x.hi ke W)
  rw [hh] at HH
  clear h hl hw hgm hgt hn im it hr hc ht hh
  go_enter Tryz.func87, Tryz.ntmps87
  go_wp2_with (first | (go_at_call 102; refine (HRF.out _ (nwa)).mono ?_; rintro e w' ⟨rfl, dW, rfl⟩) | (go_at_call 104; refine (HGV.out _ (nwa)).mono ?_; rintro e w' ⟨rfl, dW, rfl⟩))
  (refine wp_region_nw (by kernel_rfl) (by kernel_rfl) ?_; (repeat (go_big_quiet_step ((go_at_call 106; exact quiet_of (HH.out _))))); refine wpQuiet_nil ?_; intro _ hreg; obtain ⟨dW, rfl⟩ : Nw _ _ := hreg)
  go_wp2
  go_ret
  exact ⟨rfl, _, MUp.same H.out nwa⟩
set_option maxRecDepth 20000 in
set_option maxHeartbeats 8000000 in
theorem acc_12e (w : World) (p : Pl) (s : Md) (h : MAt w p s) (hl : s.l.length ≤ 500000) (t : Nat) (a b c d e f er : Int) (fd : Bool) (ke va cn : Int) (hw : Ox.Wf ⟨12, a, b, c, d, e, f⟩) (x : Th) (ht : s.th[t]? = some x) (hr : refM s t ⟨12, a, b, c, d, e, f⟩ = 0) (hc : chkO ⟨12, a, b, c, d, e, f⟩ = 0) (hal : eqR er fd ke va cn er false 0 0 0 = true) (hg : givesM s ⟨12, a, b, c, d, e, f⟩ er = false) (he : er = 14) :
    Calls Tryz.prog 87 #[.pointer (some ⟨p.gm, 0, none⟩), .int .i64 t, op7 12 a b c d e f, res5 er fd ke va cn] w fun q w' => q = .returned (.bool (true)) ∧ ∃ p', MUp w p { s with th := s.th.set t x.fin } p' w' := by
  have HRF := Lib.hid (fun W (hn : Nw w W) => refusal_any W p s (h.nw hn) t ⟨12, a, b, c, d, e, f⟩ hw)
  have HGV := Lib.hid (fun W (hn : Nw w W) => gives_M W p s (h.nw hn) hl ⟨12, a, b, c, d, e, f⟩ hw hc er)
  rw [hr] at HRF
  unfold opV at HRF
  unfold opV at HGV
  simp only at HGV
  simp only at HRF
  have H := Lib.hid h
  have im := h.im
  rw [hg] at HGV
  subst he
  obtain ⟨p0, _⟩ := List.getElem?_eq_some_iff.1 ht
  obtain ⟨c0, c1, c2, c3, c4⟩ := h.th.cells ht
  obtain ⟨ct, m2⟩ := h.m2
  have it := h.it
  have HTH := Lib.hid h.th
  have HT := Lib.hid ht
  have HLEN := Lib.hid (fun y : Th => (List.length_set .. : (s.th.set t y).length = s.th.length))
  have HNMT := Lib.hid h.nmt
  obtain ⟨gm, hgm⟩ : ∃ g, g = p.gm := ⟨_, rfl⟩
  obtain ⟨gt, hgt⟩ : ∃ g, g = p.gt := ⟨_, rfl⟩
  obtain ⟨n, hn⟩ : ∃ n, n = s.th.length := ⟨_, rfl⟩
  rw [← hgm, ← hgt, ← hn] at m2
  rw [← hgt] at c0 c1 c2 c3 c4 it HTH
  rw [← hgm] at im HRF HGV ⊢
  rw [← hn] at p0
  haveI : In gm w := ⟨im⟩
  haveI : In gt w := ⟨it⟩
  have t0 : (0 : Int) ≤ (t : Int) := by omega
  have t1 : (t : Int) < (n : Int) := by omega
  have HGT := Lib.hid hgt
  have HE := Lib.hid (fun W (hn : Nw w W) => end_any W gt s.th (HTH.out.nw hn) t x HT.out)
  clear h hl hw hgm hn im it hr hc ht hg hgt
  go_enter Tryz.func87, Tryz.ntmps87
  go_wp2_with (first | (go_at_call 102; refine (HRF.out _ (nwa)).mono ?_; rintro e w' ⟨rfl, dW, rfl⟩) | (go_at_call 104; refine (HGV.out _ (nwa)).mono ?_; rintro e w' ⟨rfl, dW, rfl⟩))
  refine (HE.out _ (nwa)).mono ?_
  rintro r W3 ⟨rfl, hth, hch⟩
  rw [HGT.out] at hth hch
  have HMU := Lib.hid (MUp.after (by exact nwa) (MUp.ths (H.out.nw (by exact nwa)) (HLEN.out _) hth hch) : MUp w p _ p W3)
  clear hth hch
  go_wp2
  go_ret
  exact ⟨rfl, _, HMU.out⟩
set_option maxRecDepth 20000 in
set_option maxHeartbeats 8000000 in
theorem acc_12p (w : World) (p : Pl) (s : Md) (h : MAt w p s) (hl : s.l.length ≤ 500000) (t : Nat) (a b c d e f er : Int) (fd : Bool) (ke va cn : Int) (hw : Ox.Wf ⟨12, a, b, c, d, e, f⟩) (x : Th) (ht : s.th[t]? = some x) (hr : refM s t ⟨12, a, b, c, d, e, f⟩ = 0) (hc : chkO ⟨12, a, b, c, d, e, f⟩ = 0) (her : er = 0) (hfd : fd = true) (hcn : cn = 0) (hke : 0 ≤ ke ∧ ke < 18446744073709551616) (hh : (decide (x.lo ≤ ke) && decide (ke ≤ x.hi)) = true) :
    Calls Tryz.prog 87 #[.pointer (some ⟨p.gm, 0, none⟩), .int .i64 t, op7 12 a b c d e f, res5 er fd ke va cn] w fun q w' => q = .returned (.bool (true)) ∧ ∃ p', MUp w p { s with th := s.th.set t (x.after ke) } p' w' := by
  have HRF := Lib.hid (fun W (hn : Nw w W) => refusal_any W p s (h.nw hn) t ⟨12, a, b, c, d, e, f⟩ hw)
  have HGV := Lib.hid (fun W (hn : Nw w W) => gives_M W p s (h.nw hn) hl ⟨12, a, b, c, d, e, f⟩ hw hc er)
  rw [hr] at HRF
  unfold opV at HRF
  unfold opV at HGV
  simp only at HGV
  simp only at HRF
  have H := Lib.hid h
  have im := h.im
  obtain ⟨p0, _⟩ := List.getElem?_eq_some_iff.1 ht
  obtain ⟨c0, c1, c2, c3, c4⟩ := h.th.cells ht
  obtain ⟨ct, m2⟩ := h.m2
  have it := h.it
  have HTH := Lib.hid h.th
  have HT := Lib.hid ht
  have HLEN := Lib.hid (fun y : Th => (List.length_set .. : (s.th.set t y).length = s.th.length))
  have HNMT := Lib.hid h.nmt
  obtain ⟨gm, hgm⟩ : ∃ g, g = p.gm := ⟨_, rfl⟩
  obtain ⟨gt, hgt⟩ : ∃ g, g = p.gt := ⟨_, rfl⟩
  obtain ⟨n, hn⟩ : ∃ n, n = s.th.length := ⟨_, rfl⟩
  rw [← hgm, ← hgt, ← hn] at m2
  rw [← hgt] at c0 c1 c2 c3 c4 it HTH
  rw [← hgm] at im HRF HGV ⊢
  rw [← hn] at p0
  haveI : In gm w := ⟨im⟩
  haveI : In gt w := ⟨it⟩
  have t0 : (0 : Int) ≤ (t : Int) := by omega
  have t1 : (t : Int) < (n : Int) := by omega
  have HGT := Lib.hid hgt
  subst her hfd hcn
  have hal : eqR 0 true ke va 0 0 false 0 0 0 = false := by simp [eqR]
  have HH := Lib.hid (fun W => has_any x.lo x.hi ke W)
  rw [hh] at HH
  have HE := Lib.hid (fun W (hn : Nw w W) => after_any W gt s.th (HTH.out.nw hn) t x HT.out ke hke)
  clear h hl hw hgm hn im it hr hc ht hh hgt hke
  go_enter Tryz.func87, Tryz.ntmps87
  go_wp2_with (first | (go_at_call 102; refine (HRF.out _ (nwa)).mono ?_; rintro e w' ⟨rfl, dW, rfl⟩) | (go_at_call 104; refine (HGV.out _ (nwa)).mono ?_; rintro e w' ⟨rfl, dW, rfl⟩))
  (refine wp_region_nw (by kernel_rfl) (by kernel_rfl) ?_; (repeat (go_big_quiet_step ((go_at_call 106; exact quiet_of (HH.out _))))); refine wpQuiet_nil ?_; intro _ hreg; obtain ⟨dW, rfl⟩ : Nw _ _ := hreg)
  go_wp2_with fail
  go_upto_region 17 with (fail)
  go_still_tail 5, (by kernel_rfl)
  go_wp2_with fail
  refine (HE.out _ (by exact nwa)).mono ?_
  rintro r W3 ⟨rfl, hth, hch⟩
  rw [HGT.out] at hth hch
  have HMU := Lib.hid (MUp.after (by exact nwa) (MUp.ths (H.out.nw (by exact nwa)) (HLEN.out _) hth hch) : MUp w p _ p W3)
  clear hth hch
  go_wp2
  go_ret
  exact ⟨rfl, _, HMU.out⟩
end Go.Proofs.YtkikdpdainmlcaaGreat
