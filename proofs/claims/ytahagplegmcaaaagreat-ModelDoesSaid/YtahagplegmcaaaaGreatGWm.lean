import Derived.Test.YtahagplegmcaaaaGreatGRh
set_option linter.unusedVariables false
set_option linter.unusedSimpArgs false
namespace Go.Proofs.YtahagplegmcaaaaGreat
open Go.RowKit Go.Xt
/-! The reference's Accept. -/
theorem rgives_11 (s : Md) (k a b c d e f : Int) : givesM s ⟨k, a, b, c, d, e, f⟩ 11 = triesB k := by simp [givesM, triesB]
theorem rgives_10 (s : Md) (k a b c d e f : Int) : givesM s ⟨k, a, b, c, d, e, f⟩ 10 = (k == 1) := by simp [givesM]; rfl
theorem rgives_no {s : Md} {x : Ox} {er : Int} (h1 : er ≠ 11) (h2 : er ≠ 6) (h3 : er ≠ 10) : givesM s x er = false := by simp [givesM, h1, h2, h3]
set_option maxRecDepth 20000 in
set_option maxHeartbeats 16000000 in
theorem racc_ref (w : World) (p : Pl) (cf : Cf) (s : Md) (h : RAt w p cf s) (hl : s.l.length ≤ 400000) (t : Int) (k : Int) (a b c d e f er : Int) (fd : Bool) (ke va cn : Int) (hw : Ox.Wf ⟨k, a, b, c, d, e, f⟩) (hr : refM s t ⟨k, a, b, c, d, e, f⟩ ≠ 0) :
    Calls Tryz.prog 10 #[.pointer (some ⟨p.gm, 0, none⟩), .int .i64 t, op7 k a b c d e f, res5 er fd ke va cn] w fun q w' => q = .returned (.bool (eqR er fd ke va cn (refM s t ⟨k, a, b, c, d, e, f⟩) false 0 0 0)) ∧ ∃ p', RMUp w p cf s p' w' := by
  have HRF := Lib.hid (fun W (hn : Nw w W) => rrefusal_any W p cf s (h.nw hn) t ⟨k, a, b, c, d, e, f⟩ hw)
  unfold opV at HRF
  simp only at HRF
  have H := Lib.hid h
  have im := h.im
  obtain ⟨gm, hgm⟩ : ∃ g, g = p.gm := ⟨_, rfl⟩
  rw [← hgm] at im HRF ⊢
  haveI : In gm w := ⟨im⟩
  obtain ⟨R, hR⟩ : ∃ R, R = refM s t ⟨k, a, b, c, d, e, f⟩ := ⟨_, rfl⟩
  rw [← hR] at HRF hr ⊢
  have r0 : (R == 0) = false := by simpa using hr
  have r1 : ¬ R = 0 := hr
  obtain ⟨al, hal⟩ : ∃ al, eqR er fd ke va cn R false 0 0 0 = al := ⟨_, rfl⟩
  rw [hal]
  clear h hl hw hgm im hR hr
  go_enter Tryz.func10, Tryz.ntmps10
  go_wp2_with (go_at_call 26; refine (HRF.out _ ((by repeat (first | exact Xt.Nw.refl _ | refine Xt.Nw.drew ?_ | refine Xt.Nw.drewN ?_ _ | refine Xt.Nw.alloc ?_ _ | refine Xt.Nw.joined ?_ | refine Xt.Nw.drewd ?_ | refine Xt.Nw.drewdN ?_ | refine Xt.Nw.ext ?_ | refine Xt.Nw.ext_some ?_ (by assumption) | refine Xt.Nw.setCell ?_ (by simp [go_sem] <;> omega) _)))).mono ?_; rintro e w' ⟨rfl, dW, rfl⟩)
  go_ret
  exact ⟨rfl, _, RMUp.same H.out (by repeat (first | exact Xt.Nw.refl _ | refine Xt.Nw.drew ?_ | refine Xt.Nw.drewN ?_ _ | refine Xt.Nw.alloc ?_ _ | refine Xt.Nw.joined ?_ | refine Xt.Nw.drewd ?_ | refine Xt.Nw.drewdN ?_ | refine Xt.Nw.ext ?_ | refine Xt.Nw.ext_some ?_ (by assumption) | refine Xt.Nw.setCell ?_ (by simp [go_sem] <;> omega) _))⟩
set_option maxRecDepth 20000 in
set_option maxHeartbeats 16000000 in
theorem racc_gives (w : World) (p : Pl) (cf : Cf) (s : Md) (h : RAt w p cf s) (hl : s.l.length ≤ 400000) (t : Nat) (k : Int) (a b c d e f er : Int) (fd : Bool) (ke va cn : Int) (hw : Ox.Wf ⟨k, a, b, c, d, e, f⟩) (x : Th) (ht : s.th[t]? = some x) (hr : refM s t ⟨k, a, b, c, d, e, f⟩ = 0) (hc : chkO ⟨k, a, b, c, d, e, f⟩ = 0) (al gv : Bool) (hal : eqR er fd ke va cn er false 0 0 0 = al) (hgv : givesM s ⟨k, a, b, c, d, e, f⟩ er = gv) (hq : (al && gv) = true) :
    Calls Tryz.prog 10 #[.pointer (some ⟨p.gm, 0, none⟩), .int .i64 t, op7 k a b c d e f, res5 er fd ke va cn] w fun q w' => q = .returned (.bool (true)) ∧ ∃ p', RMUp w p cf s p' w' := by
  have HRF := Lib.hid (fun W (hn : Nw w W) => rrefusal_any W p cf s (h.nw hn) t ⟨k, a, b, c, d, e, f⟩ hw)
  have HFL := Lib.hid (fun W (hn : Nw w W) => rfull_any W p cf s (h.nw hn) hl ⟨k, a, b, c, d, e, f⟩ hw hc)
  rw [hr] at HRF
  unfold opV at HRF HFL
  simp only at HRF HFL
  have H := Lib.hid h
  have HT := Lib.hid ht
  have HGV := Lib.hid hgv
  have im := h.im
  have it := h.it
  have p0 := (List.getElem?_eq_some_iff.1 ht).1
  obtain ⟨gm, hgm⟩ : ∃ g, g = p.gm := ⟨_, rfl⟩
  obtain ⟨gt, hgt⟩ : ∃ g, g = p.gt := ⟨_, rfl⟩
  have HGM := Lib.hid hgm
  have HGT := Lib.hid hgt
  rw [← hgm] at im HRF HFL ⊢
  rw [← hgt] at it
  haveI : In gm w := ⟨im⟩
  have t1 : (t : Int) < (s.th.length : Int) := by omega
  have t0 : (0 : Int) ≤ (t : Int) := by omega
  obtain ⟨n, hn⟩ : ∃ n, n = s.th.length := ⟨_, rfl⟩
  rw [← hn] at t1
  have HN := Lib.hid hn
  obtain ⟨W2, hW2⟩ : ∃ W2, W2 = (w.alloc (.cells #[.int .u8 k, .int .u64 a, .int .u64 b, .int .u64 c, .int .u64 d, .int .u64 e, .int .u64 f] 40)).alloc (.cells #[.int .i64 er, .bool fd, .int .u64 ke, .int .u64 va, .int .i64 cn] 42) := ⟨_, rfl⟩
  have hn2 : Nw w W2 := by rw [hW2]; exact (by repeat (first | exact Xt.Nw.refl _ | refine Xt.Nw.drew ?_ | refine Xt.Nw.drewN ?_ _ | refine Xt.Nw.alloc ?_ _ | refine Xt.Nw.joined ?_ | refine Xt.Nw.drewd ?_ | refine Xt.Nw.drewdN ?_ | refine Xt.Nw.ext ?_ | refine Xt.Nw.ext_some ?_ (by assumption) | refine Xt.Nw.setCell ?_ (by simp [go_sem] <;> omega) _))
  have q0 : W2.cell? ⟨w.heap.size, 0, none⟩ = some (.int .u8 k) := by rw [hW2]; simp [go_sem]
  have q1 : W2.cell? ⟨w.heap.size, 1, none⟩ = some (.int .u64 a) := by rw [hW2]; simp [go_sem]
  have q2 : W2.cell? ⟨w.heap.size, 2, none⟩ = some (.int .u64 b) := by rw [hW2]; simp [go_sem]
  have q3 : W2.cell? ⟨w.heap.size, 3, none⟩ = some (.int .u64 c) := by rw [hW2]; simp [go_sem]
  have q4 : W2.cell? ⟨w.heap.size, 4, none⟩ = some (.int .u64 d) := by rw [hW2]; simp [go_sem]
  have q5 : W2.cell? ⟨w.heap.size, 5, none⟩ = some (.int .u64 e) := by rw [hW2]; simp [go_sem]
  have q6 : W2.cell? ⟨w.heap.size, 6, none⟩ = some (.int .u64 f) := by rw [hW2]; simp [go_sem]
  have r0 : W2.cell? ⟨w.heap.size + 1, 0, none⟩ = some (.int .i64 er) := by rw [hW2]; simp [go_sem]
  have r1 : W2.cell? ⟨w.heap.size + 1, 1, none⟩ = some (.bool fd) := by rw [hW2]; simp [go_sem]
  have r2 : W2.cell? ⟨w.heap.size + 1, 2, none⟩ = some (.int .u64 ke) := by rw [hW2]; simp [go_sem]
  have r3 : W2.cell? ⟨w.heap.size + 1, 3, none⟩ = some (.int .u64 va) := by rw [hW2]; simp [go_sem]
  have r4 : W2.cell? ⟨w.heap.size + 1, 4, none⟩ = some (.int .i64 cn) := by rw [hW2]; simp [go_sem]
  have hs2 : W2.heap.size = w.heap.size + 2 := by rw [hW2]; simp
  have HN2 := Lib.hid hn2
  have HW2 := Lib.hid hW2
  have HS2 := Lib.hid hs2
  clear h hl hw hgm hgt hr hc ht hn2 hW2 hs2 hn p0 hgv
  go_enter Tryz.func10, Tryz.ntmps10
  go_upto_region 3 with (fail)
  rw [← HW2.out]
  go_wp2_with fail
  refine (HRF.out W2 HN2.out).mono ?_
  rintro r W3 ⟨rfl, hn3⟩
  replace q0 := cell_nw q0 hn3
  replace q1 := cell_nw q1 hn3
  replace q2 := cell_nw q2 hn3
  replace q3 := cell_nw q3 hn3
  replace q4 := cell_nw q4 hn3
  replace q5 := cell_nw q5 hn3
  replace q6 := cell_nw q6 hn3
  replace r0 := cell_nw r0 hn3
  replace r1 := cell_nw r1 hn3
  replace r2 := cell_nw r2 hn3
  replace r3 := cell_nw r3 hn3
  replace r4 := cell_nw r4 hn3
  have HN3 := Lib.hid (HN2.out.trans hn3)
  have HS3 := Lib.hid (Nat.le_trans (Nat.le_of_eq HS2.out.symm) hn3.grown.size)
  haveI : In w.heap.size W3 := ⟨World.block_lt_of_cell? W3 _ q0⟩
  haveI : In (w.heap.size + 1) W3 := ⟨World.block_lt_of_cell? W3 _ r0⟩
  have h3 := H.out.nw HN3.out
  have im3 : gm < W3.heap.size := by rw [HGM.out]; exact h3.im
  have it3 : gt < W3.heap.size := by rw [HGT.out]; exact h3.it
  haveI : In gm W3 := ⟨im3⟩
  haveI : In gt W3 := ⟨it3⟩
  have H3 := Lib.hid h3
  have HIM := Lib.hid im
  have HIT := Lib.hid it
  clear hn3 h3 im it im3 it3
  go_upto_region 7 with (fail)
  go_cut [61] (fun v wx => v = .bool (al && gv) ∧ Nw W3 wx)
  case first =>
    cases al with
    | false =>
      go_wp2
      go_meet
      exact ⟨by simp, (by repeat (first | exact Xt.Nw.refl _ | refine Xt.Nw.drew ?_ | refine Xt.Nw.drewN ?_ _ | refine Xt.Nw.alloc ?_ _ | refine Xt.Nw.joined ?_ | refine Xt.Nw.drewd ?_ | refine Xt.Nw.drewdN ?_ | refine Xt.Nw.ext ?_ | refine Xt.Nw.ext_some ?_ (by assumption) | refine Xt.Nw.setCell ?_ (by simp [go_sem] <;> omega) _))⟩
    | true =>
      by_cases e11 : er = 11
      · subst e11
        have HTR := Lib.hid (fun W => rtries_any k W)
        obtain ⟨tv, htv⟩ : ∃ tv, tv = triesB k := ⟨_, rfl⟩
        rw [← htv] at HTR
        have HTV := Lib.hid htv
        clear htv
        cases tv
        all_goals
          go_wp2_with (go_at_call 27; refine (HTR.out _).mono ?_; rintro e w' ⟨rfl, dW, rfl⟩)
          go_meet
          refine ⟨?_, (by repeat (first | exact Xt.Nw.refl _ | refine Xt.Nw.drew ?_ | refine Xt.Nw.drewN ?_ _ | refine Xt.Nw.alloc ?_ _ | refine Xt.Nw.joined ?_ | refine Xt.Nw.drewd ?_ | refine Xt.Nw.drewdN ?_ | refine Xt.Nw.ext ?_ | refine Xt.Nw.ext_some ?_ (by assumption) | refine Xt.Nw.setCell ?_ (by simp [go_sem] <;> omega) _))⟩
          rw [← HGV.out, rgives_11, ← HTV.out]; simp
      by_cases e6 : er = 6
      · subst e6
        rw [HGV.out] at HFL
        cases gv
        all_goals
          go_wp2_with (go_at_call 28; refine (HFL.out _ (HN3.out.trans ((by repeat (first | exact Xt.Nw.refl _ | refine Xt.Nw.drew ?_ | refine Xt.Nw.drewN ?_ _ | refine Xt.Nw.alloc ?_ _ | refine Xt.Nw.joined ?_ | refine Xt.Nw.drewd ?_ | refine Xt.Nw.drewdN ?_ | refine Xt.Nw.ext ?_ | refine Xt.Nw.ext_some ?_ (by assumption) | refine Xt.Nw.setCell ?_ (by simp [go_sem] <;> omega) _))))).mono ?_; rintro e w' ⟨rfl, dW, rfl⟩)
          go_meet
          exact ⟨by simp, (by repeat (first | exact Xt.Nw.refl _ | refine Xt.Nw.drew ?_ | refine Xt.Nw.drewN ?_ _ | refine Xt.Nw.alloc ?_ _ | refine Xt.Nw.joined ?_ | refine Xt.Nw.drewd ?_ | refine Xt.Nw.drewdN ?_ | refine Xt.Nw.ext ?_ | refine Xt.Nw.ext_some ?_ (by assumption) | refine Xt.Nw.setCell ?_ (by simp [go_sem] <;> omega) _))⟩
      by_cases e10 : er = 10
      · subst e10
        by_cases hk1 : (k : Int) = 1
        · have d1 : ((k : Int) == 1) = true := by simpa using hk1
          go_wp2
          go_meet
          refine ⟨?_, (by repeat (first | exact Xt.Nw.refl _ | refine Xt.Nw.drew ?_ | refine Xt.Nw.drewN ?_ _ | refine Xt.Nw.alloc ?_ _ | refine Xt.Nw.joined ?_ | refine Xt.Nw.drewd ?_ | refine Xt.Nw.drewdN ?_ | refine Xt.Nw.ext ?_ | refine Xt.Nw.ext_some ?_ (by assumption) | refine Xt.Nw.setCell ?_ (by simp [go_sem] <;> omega) _))⟩
          rw [← HGV.out, rgives_10]; simp [d1]
        · have d1 : ((k : Int) == 1) = false := by simpa using hk1
          go_wp2
          go_meet
          refine ⟨?_, (by repeat (first | exact Xt.Nw.refl _ | refine Xt.Nw.drew ?_ | refine Xt.Nw.drewN ?_ _ | refine Xt.Nw.alloc ?_ _ | refine Xt.Nw.joined ?_ | refine Xt.Nw.drewd ?_ | refine Xt.Nw.drewdN ?_ | refine Xt.Nw.ext ?_ | refine Xt.Nw.ext_some ?_ (by assumption) | refine Xt.Nw.setCell ?_ (by simp [go_sem] <;> omega) _))⟩
          rw [← HGV.out, rgives_10]; simp [d1]
      · have d11 : (er == 11) = false := by simpa using e11
        have d6 : (er == 6) = false := by simpa using e6
        have d10 : (er == 10) = false := by simpa using e10
        have HNO := Lib.hid (rgives_no (s := s) (x := ⟨k, a, b, c, d, e, f⟩) e11 e6 e10)
        clear e11 e6 e10
        go_wp2
        go_meet
        refine ⟨?_, (by repeat (first | exact Xt.Nw.refl _ | refine Xt.Nw.drew ?_ | refine Xt.Nw.drewN ?_ _ | refine Xt.Nw.alloc ?_ _ | refine Xt.Nw.joined ?_ | refine Xt.Nw.drewd ?_ | refine Xt.Nw.drewdN ?_ | refine Xt.Nw.ext ?_ | refine Xt.Nw.ext_some ?_ (by assumption) | refine Xt.Nw.setCell ?_ (by simp [go_sem] <;> omega) _))⟩
        rw [← HGV.out, HNO.out]; simp
  case rest =>
    obtain ⟨hv, dX, rfl⟩ := hcut
    clear HFL HRF
    rw [hq] at hv
    subst hv
    clear hq hal
    go_wp2
    go_ret
    exact ⟨rfl, _, RMUp.same H.out (HN3.out.trans ((by repeat (first | exact Xt.Nw.refl _ | refine Xt.Nw.drew ?_ | refine Xt.Nw.drewN ?_ _ | refine Xt.Nw.alloc ?_ _ | refine Xt.Nw.joined ?_ | refine Xt.Nw.drewd ?_ | refine Xt.Nw.drewdN ?_ | refine Xt.Nw.ext ?_ | refine Xt.Nw.ext_some ?_ (by assumption) | refine Xt.Nw.setCell ?_ (by simp [go_sem] <;> omega) _))))⟩
set_option maxRecDepth 20000 in
set_option maxHeartbeats 16000000 in
theorem racc_15 (w : World) (p : Pl) (cf : Cf) (s : Md) (h : RAt w p cf s) (hl : s.l.length ≤ 400000) (t : Nat) (a b c d e f er : Int) (fd : Bool) (ke va cn : Int) (hw : Ox.Wf ⟨15, a, b, c, d, e, f⟩) (x : Th) (ht : s.th[t]? = some x) (hr : refM s t ⟨15, a, b, c, d, e, f⟩ = 0) (hc : chkO ⟨15, a, b, c, d, e, f⟩ = 0) (al gv : Bool) (hal : eqR er fd ke va cn er false 0 0 0 = al) (hgv : givesM s ⟨15, a, b, c, d, e, f⟩ er = gv) (hq : (al && gv) = false) :
    Calls Tryz.prog 10 #[.pointer (some ⟨p.gm, 0, none⟩), .int .i64 t, op7 15 a b c d e f, res5 er fd ke va cn] w fun q w' => q = .returned (.bool (eqR er fd ke va cn 0 false 0 0 cn && (decide (0 ≤ cn) && decide (cn ≤ 1024)))) ∧ ∃ p', RMUp w p cf s p' w' := by
  obtain ⟨b4, h4⟩ : ∃ b4, eqR er fd ke va cn 0 false 0 0 cn = b4 := ⟨_, rfl⟩
  obtain ⟨d1, h5⟩ : ∃ d1, decide (0 ≤ cn) = d1 := ⟨_, rfl⟩
  obtain ⟨d2, h6⟩ : ∃ d2, decide (cn ≤ 1024) = d2 := ⟨_, rfl⟩
  rw [h4, h5, h6]
  have H4 := Lib.hid h4
  have H5 := Lib.hid h5
  have H6 := Lib.hid h6
  clear h4 h5 h6
  have HRF := Lib.hid (fun W (hn : Nw w W) => rrefusal_any W p cf s (h.nw hn) t ⟨15, a, b, c, d, e, f⟩ hw)
  have HFL := Lib.hid (fun W (hn : Nw w W) => rfull_any W p cf s (h.nw hn) hl ⟨15, a, b, c, d, e, f⟩ hw hc)
  rw [hr] at HRF
  unfold opV at HRF HFL
  simp only at HRF HFL
  have H := Lib.hid h
  have HT := Lib.hid ht
  have HGV := Lib.hid hgv
  have im := h.im
  have it := h.it
  have p0 := (List.getElem?_eq_some_iff.1 ht).1
  obtain ⟨gm, hgm⟩ : ∃ g, g = p.gm := ⟨_, rfl⟩
  obtain ⟨gt, hgt⟩ : ∃ g, g = p.gt := ⟨_, rfl⟩
  have HGM := Lib.hid hgm
  have HGT := Lib.hid hgt
  rw [← hgm] at im HRF HFL ⊢
  rw [← hgt] at it
  haveI : In gm w := ⟨im⟩
  have t1 : (t : Int) < (s.th.length : Int) := by omega
  have t0 : (0 : Int) ≤ (t : Int) := by omega
  obtain ⟨n, hn⟩ : ∃ n, n = s.th.length := ⟨_, rfl⟩
  rw [← hn] at t1
  have HN := Lib.hid hn
  obtain ⟨W2, hW2⟩ : ∃ W2, W2 = (w.alloc (.cells #[.int .u8 15, .int .u64 a, .int .u64 b, .int .u64 c, .int .u64 d, .int .u64 e, .int .u64 f] 40)).alloc (.cells #[.int .i64 er, .bool fd, .int .u64 ke, .int .u64 va, .int .i64 cn] 42) := ⟨_, rfl⟩
  have hn2 : Nw w W2 := by rw [hW2]; exact (by repeat (first | exact Xt.Nw.refl _ | refine Xt.Nw.drew ?_ | refine Xt.Nw.drewN ?_ _ | refine Xt.Nw.alloc ?_ _ | refine Xt.Nw.joined ?_ | refine Xt.Nw.drewd ?_ | refine Xt.Nw.drewdN ?_ | refine Xt.Nw.ext ?_ | refine Xt.Nw.ext_some ?_ (by assumption) | refine Xt.Nw.setCell ?_ (by simp [go_sem] <;> omega) _))
  have q0 : W2.cell? ⟨w.heap.size, 0, none⟩ = some (.int .u8 15) := by rw [hW2]; simp [go_sem]
  have q1 : W2.cell? ⟨w.heap.size, 1, none⟩ = some (.int .u64 a) := by rw [hW2]; simp [go_sem]
  have q2 : W2.cell? ⟨w.heap.size, 2, none⟩ = some (.int .u64 b) := by rw [hW2]; simp [go_sem]
  have q3 : W2.cell? ⟨w.heap.size, 3, none⟩ = some (.int .u64 c) := by rw [hW2]; simp [go_sem]
  have q4 : W2.cell? ⟨w.heap.size, 4, none⟩ = some (.int .u64 d) := by rw [hW2]; simp [go_sem]
  have q5 : W2.cell? ⟨w.heap.size, 5, none⟩ = some (.int .u64 e) := by rw [hW2]; simp [go_sem]
  have q6 : W2.cell? ⟨w.heap.size, 6, none⟩ = some (.int .u64 f) := by rw [hW2]; simp [go_sem]
  have r0 : W2.cell? ⟨w.heap.size + 1, 0, none⟩ = some (.int .i64 er) := by rw [hW2]; simp [go_sem]
  have r1 : W2.cell? ⟨w.heap.size + 1, 1, none⟩ = some (.bool fd) := by rw [hW2]; simp [go_sem]
  have r2 : W2.cell? ⟨w.heap.size + 1, 2, none⟩ = some (.int .u64 ke) := by rw [hW2]; simp [go_sem]
  have r3 : W2.cell? ⟨w.heap.size + 1, 3, none⟩ = some (.int .u64 va) := by rw [hW2]; simp [go_sem]
  have r4 : W2.cell? ⟨w.heap.size + 1, 4, none⟩ = some (.int .i64 cn) := by rw [hW2]; simp [go_sem]
  have hs2 : W2.heap.size = w.heap.size + 2 := by rw [hW2]; simp
  have HN2 := Lib.hid hn2
  have HW2 := Lib.hid hW2
  have HS2 := Lib.hid hs2
  clear h hl hw hgm hgt hr hc ht hn2 hW2 hs2 hn p0 hgv
  go_enter Tryz.func10, Tryz.ntmps10
  go_upto_region 3 with (fail)
  rw [← HW2.out]
  go_wp2_with fail
  refine (HRF.out W2 HN2.out).mono ?_
  rintro r W3 ⟨rfl, hn3⟩
  replace q0 := cell_nw q0 hn3
  replace q1 := cell_nw q1 hn3
  replace q2 := cell_nw q2 hn3
  replace q3 := cell_nw q3 hn3
  replace q4 := cell_nw q4 hn3
  replace q5 := cell_nw q5 hn3
  replace q6 := cell_nw q6 hn3
  replace r0 := cell_nw r0 hn3
  replace r1 := cell_nw r1 hn3
  replace r2 := cell_nw r2 hn3
  replace r3 := cell_nw r3 hn3
  replace r4 := cell_nw r4 hn3
  have HN3 := Lib.hid (HN2.out.trans hn3)
  have HS3 := Lib.hid (Nat.le_trans (Nat.le_of_eq HS2.out.symm) hn3.grown.size)
  haveI : In w.heap.size W3 := ⟨World.block_lt_of_cell? W3 _ q0⟩
  haveI : In (w.heap.size + 1) W3 := ⟨World.block_lt_of_cell? W3 _ r0⟩
  have h3 := H.out.nw HN3.out
  have im3 : gm < W3.heap.size := by rw [HGM.out]; exact h3.im
  have it3 : gt < W3.heap.size := by rw [HGT.out]; exact h3.it
  haveI : In gm W3 := ⟨im3⟩
  haveI : In gt W3 := ⟨it3⟩
  have H3 := Lib.hid h3
  have HIM := Lib.hid im
  have HIT := Lib.hid it
  clear hn3 h3 im it im3 it3
  go_upto_region 7 with (fail)
  go_cut [61] (fun v wx => v = .bool (al && gv) ∧ Nw W3 wx)
  case first =>
    cases al with
    | false =>
      go_wp2
      go_meet
      exact ⟨by simp, (by repeat (first | exact Xt.Nw.refl _ | refine Xt.Nw.drew ?_ | refine Xt.Nw.drewN ?_ _ | refine Xt.Nw.alloc ?_ _ | refine Xt.Nw.joined ?_ | refine Xt.Nw.drewd ?_ | refine Xt.Nw.drewdN ?_ | refine Xt.Nw.ext ?_ | refine Xt.Nw.ext_some ?_ (by assumption) | refine Xt.Nw.setCell ?_ (by simp [go_sem] <;> omega) _))⟩
    | true =>
      by_cases e11 : er = 11
      · subst e11
        have HTR := Lib.hid (fun W => rtries_any 15 W)
        obtain ⟨tv, htv⟩ : ∃ tv, tv = triesB 15 := ⟨_, rfl⟩
        rw [← htv] at HTR
        have HTV := Lib.hid htv
        clear htv
        cases tv
        all_goals
          go_wp2_with (go_at_call 27; refine (HTR.out _).mono ?_; rintro e w' ⟨rfl, dW, rfl⟩)
          go_meet
          refine ⟨?_, (by repeat (first | exact Xt.Nw.refl _ | refine Xt.Nw.drew ?_ | refine Xt.Nw.drewN ?_ _ | refine Xt.Nw.alloc ?_ _ | refine Xt.Nw.joined ?_ | refine Xt.Nw.drewd ?_ | refine Xt.Nw.drewdN ?_ | refine Xt.Nw.ext ?_ | refine Xt.Nw.ext_some ?_ (by assumption) | refine Xt.Nw.setCell ?_ (by simp [go_sem] <;> omega) _))⟩
          rw [← HGV.out, rgives_11, ← HTV.out]; simp
      by_cases e6 : er = 6
      · subst e6
        rw [HGV.out] at HFL
        cases gv
        all_goals
          go_wp2_with (go_at_call 28; refine (HFL.out _ (HN3.out.trans ((by repeat (first | exact Xt.Nw.refl _ | refine Xt.Nw.drew ?_ | refine Xt.Nw.drewN ?_ _ | refine Xt.Nw.alloc ?_ _ | refine Xt.Nw.joined ?_ | refine Xt.Nw.drewd ?_ | refine Xt.Nw.drewdN ?_ | refine Xt.Nw.ext ?_ | refine Xt.Nw.ext_some ?_ (by assumption) | refine Xt.Nw.setCell ?_ (by simp [go_sem] <;> omega) _))))).mono ?_; rintro e w' ⟨rfl, dW, rfl⟩)
          go_meet
          exact ⟨by simp, (by repeat (first | exact Xt.Nw.refl _ | refine Xt.Nw.drew ?_ | refine Xt.Nw.drewN ?_ _ | refine Xt.Nw.alloc ?_ _ | refine Xt.Nw.joined ?_ | refine Xt.Nw.drewd ?_ | refine Xt.Nw.drewdN ?_ | refine Xt.Nw.ext ?_ | refine Xt.Nw.ext_some ?_ (by assumption) | refine Xt.Nw.setCell ?_ (by simp [go_sem] <;> omega) _))⟩
      by_cases e10 : er = 10
      · subst e10
        go_wp2
        go_meet
        refine ⟨?_, (by repeat (first | exact Xt.Nw.refl _ | refine Xt.Nw.drew ?_ | refine Xt.Nw.drewN ?_ _ | refine Xt.Nw.alloc ?_ _ | refine Xt.Nw.joined ?_ | refine Xt.Nw.drewd ?_ | refine Xt.Nw.drewdN ?_ | refine Xt.Nw.ext ?_ | refine Xt.Nw.ext_some ?_ (by assumption) | refine Xt.Nw.setCell ?_ (by simp [go_sem] <;> omega) _))⟩
        rw [← HGV.out, rgives_10]; simp
      · have d11 : (er == 11) = false := by simpa using e11
        have d6 : (er == 6) = false := by simpa using e6
        have d10 : (er == 10) = false := by simpa using e10
        have HNO := Lib.hid (rgives_no (s := s) (x := ⟨15, a, b, c, d, e, f⟩) e11 e6 e10)
        clear e11 e6 e10
        go_wp2
        go_meet
        refine ⟨?_, (by repeat (first | exact Xt.Nw.refl _ | refine Xt.Nw.drew ?_ | refine Xt.Nw.drewN ?_ _ | refine Xt.Nw.alloc ?_ _ | refine Xt.Nw.joined ?_ | refine Xt.Nw.drewd ?_ | refine Xt.Nw.drewdN ?_ | refine Xt.Nw.ext ?_ | refine Xt.Nw.ext_some ?_ (by assumption) | refine Xt.Nw.setCell ?_ (by simp [go_sem] <;> omega) _))⟩
        rw [← HGV.out, HNO.out]; simp
  case rest =>
    obtain ⟨hv, dX, rfl⟩ := hcut
    clear HFL HRF
    rw [hq] at hv
    subst hv
    clear hq hal
    have m2 : ∃ ct, W3.cell? ⟨gm, 17, none⟩ = some (.slice (some ⟨gt, 0, none⟩) n ct) := by rw [HGM.out, HGT.out, HN.out]; exact H3.out.m2
    obtain ⟨ct, m2⟩ := m2
    have h4 := H4.out
    have h5 := H5.out
    have h6 := H6.out
    cases b4 <;> cases d1 <;> cases d2
    all_goals
      go_wp2
      go_ret
      exact ⟨rfl, _, RMUp.same H.out (HN3.out.trans ((by repeat (first | exact Xt.Nw.refl _ | refine Xt.Nw.drew ?_ | refine Xt.Nw.drewN ?_ _ | refine Xt.Nw.alloc ?_ _ | refine Xt.Nw.joined ?_ | refine Xt.Nw.drewd ?_ | refine Xt.Nw.drewdN ?_ | refine Xt.Nw.ext ?_ | refine Xt.Nw.ext_some ?_ (by assumption) | refine Xt.Nw.setCell ?_ (by simp [go_sem] <;> omega) _))))⟩
set_option maxRecDepth 20000 in
set_option maxHeartbeats 16000000 in
theorem racc_12e (w : World) (p : Pl) (cf : Cf) (s : Md) (h : RAt w p cf s) (hl : s.l.length ≤ 400000) (t : Nat) (a b c d e f er : Int) (fd : Bool) (ke va cn : Int) (hw : Ox.Wf ⟨12, a, b, c, d, e, f⟩) (x : Th) (ht : s.th[t]? = some x) (hr : refM s t ⟨12, a, b, c, d, e, f⟩ = 0) (hc : chkO ⟨12, a, b, c, d, e, f⟩ = 0) (al gv : Bool) (hal : eqR er fd ke va cn er false 0 0 0 = al) (hgv : givesM s ⟨12, a, b, c, d, e, f⟩ er = gv) (hq : (al && gv) = false) (hal2 : al = true) (he : er = 14) :
    Calls Tryz.prog 10 #[.pointer (some ⟨p.gm, 0, none⟩), .int .i64 t, op7 12 a b c d e f, res5 er fd ke va cn] w fun q w' => q = .returned (.bool (true)) ∧ ∃ p', RMUp w p cf { s with th := s.th.set t x.fin } p' w' := by
  have HE := Lib.hid he
  have HAL2 := Lib.hid hal2
  clear he hal2
  have HRF := Lib.hid (fun W (hn : Nw w W) => rrefusal_any W p cf s (h.nw hn) t ⟨12, a, b, c, d, e, f⟩ hw)
  have HFL := Lib.hid (fun W (hn : Nw w W) => rfull_any W p cf s (h.nw hn) hl ⟨12, a, b, c, d, e, f⟩ hw hc)
  rw [hr] at HRF
  unfold opV at HRF HFL
  simp only at HRF HFL
  have H := Lib.hid h
  have HT := Lib.hid ht
  have HGV := Lib.hid hgv
  have im := h.im
  have it := h.it
  have p0 := (List.getElem?_eq_some_iff.1 ht).1
  obtain ⟨gm, hgm⟩ : ∃ g, g = p.gm := ⟨_, rfl⟩
  obtain ⟨gt, hgt⟩ : ∃ g, g = p.gt := ⟨_, rfl⟩
  have HGM := Lib.hid hgm
  have HGT := Lib.hid hgt
  rw [← hgm] at im HRF HFL ⊢
  rw [← hgt] at it
  haveI : In gm w := ⟨im⟩
  have t1 : (t : Int) < (s.th.length : Int) := by omega
  have t0 : (0 : Int) ≤ (t : Int) := by omega
  obtain ⟨n, hn⟩ : ∃ n, n = s.th.length := ⟨_, rfl⟩
  rw [← hn] at t1
  have HN := Lib.hid hn
  obtain ⟨W2, hW2⟩ : ∃ W2, W2 = (w.alloc (.cells #[.int .u8 12, .int .u64 a, .int .u64 b, .int .u64 c, .int .u64 d, .int .u64 e, .int .u64 f] 40)).alloc (.cells #[.int .i64 er, .bool fd, .int .u64 ke, .int .u64 va, .int .i64 cn] 42) := ⟨_, rfl⟩
  have hn2 : Nw w W2 := by rw [hW2]; exact (by repeat (first | exact Xt.Nw.refl _ | refine Xt.Nw.drew ?_ | refine Xt.Nw.drewN ?_ _ | refine Xt.Nw.alloc ?_ _ | refine Xt.Nw.joined ?_ | refine Xt.Nw.drewd ?_ | refine Xt.Nw.drewdN ?_ | refine Xt.Nw.ext ?_ | refine Xt.Nw.ext_some ?_ (by assumption) | refine Xt.Nw.setCell ?_ (by simp [go_sem] <;> omega) _))
  have q0 : W2.cell? ⟨w.heap.size, 0, none⟩ = some (.int .u8 12) := by rw [hW2]; simp [go_sem]
  have q1 : W2.cell? ⟨w.heap.size, 1, none⟩ = some (.int .u64 a) := by rw [hW2]; simp [go_sem]
  have q2 : W2.cell? ⟨w.heap.size, 2, none⟩ = some (.int .u64 b) := by rw [hW2]; simp [go_sem]
  have q3 : W2.cell? ⟨w.heap.size, 3, none⟩ = some (.int .u64 c) := by rw [hW2]; simp [go_sem]
  have q4 : W2.cell? ⟨w.heap.size, 4, none⟩ = some (.int .u64 d) := by rw [hW2]; simp [go_sem]
  have q5 : W2.cell? ⟨w.heap.size, 5, none⟩ = some (.int .u64 e) := by rw [hW2]; simp [go_sem]
  have q6 : W2.cell? ⟨w.heap.size, 6, none⟩ = some (.int .u64 f) := by rw [hW2]; simp [go_sem]
  have r0 : W2.cell? ⟨w.heap.size + 1, 0, none⟩ = some (.int .i64 er) := by rw [hW2]; simp [go_sem]
  have r1 : W2.cell? ⟨w.heap.size + 1, 1, none⟩ = some (.bool fd) := by rw [hW2]; simp [go_sem]
  have r2 : W2.cell? ⟨w.heap.size + 1, 2, none⟩ = some (.int .u64 ke) := by rw [hW2]; simp [go_sem]
  have r3 : W2.cell? ⟨w.heap.size + 1, 3, none⟩ = some (.int .u64 va) := by rw [hW2]; simp [go_sem]
  have r4 : W2.cell? ⟨w.heap.size + 1, 4, none⟩ = some (.int .i64 cn) := by rw [hW2]; simp [go_sem]
  have hs2 : W2.heap.size = w.heap.size + 2 := by rw [hW2]; simp
  have HN2 := Lib.hid hn2
  have HW2 := Lib.hid hW2
  have HS2 := Lib.hid hs2
  clear h hl hw hgm hgt hr hc ht hn2 hW2 hs2 hn p0 hgv
  go_enter Tryz.func10, Tryz.ntmps10
  go_upto_region 3 with (fail)
  rw [← HW2.out]
  go_wp2_with fail
  refine (HRF.out W2 HN2.out).mono ?_
  rintro r W3 ⟨rfl, hn3⟩
  replace q0 := cell_nw q0 hn3
  replace q1 := cell_nw q1 hn3
  replace q2 := cell_nw q2 hn3
  replace q3 := cell_nw q3 hn3
  replace q4 := cell_nw q4 hn3
  replace q5 := cell_nw q5 hn3
  replace q6 := cell_nw q6 hn3
  replace r0 := cell_nw r0 hn3
  replace r1 := cell_nw r1 hn3
  replace r2 := cell_nw r2 hn3
  replace r3 := cell_nw r3 hn3
  replace r4 := cell_nw r4 hn3
  have HN3 := Lib.hid (HN2.out.trans hn3)
  have HS3 := Lib.hid (Nat.le_trans (Nat.le_of_eq HS2.out.symm) hn3.grown.size)
  haveI : In w.heap.size W3 := ⟨World.block_lt_of_cell? W3 _ q0⟩
  haveI : In (w.heap.size + 1) W3 := ⟨World.block_lt_of_cell? W3 _ r0⟩
  have h3 := H.out.nw HN3.out
  have im3 : gm < W3.heap.size := by rw [HGM.out]; exact h3.im
  have it3 : gt < W3.heap.size := by rw [HGT.out]; exact h3.it
  haveI : In gm W3 := ⟨im3⟩
  haveI : In gt W3 := ⟨it3⟩
  have H3 := Lib.hid h3
  have HIM := Lib.hid im
  have HIT := Lib.hid it
  clear hn3 h3 im it im3 it3
  go_upto_region 7 with (fail)
  go_cut [61] (fun v wx => v = .bool (al && gv) ∧ Nw W3 wx)
  case first =>
    cases al with
    | false =>
      go_wp2
      go_meet
      exact ⟨by simp, (by repeat (first | exact Xt.Nw.refl _ | refine Xt.Nw.drew ?_ | refine Xt.Nw.drewN ?_ _ | refine Xt.Nw.alloc ?_ _ | refine Xt.Nw.joined ?_ | refine Xt.Nw.drewd ?_ | refine Xt.Nw.drewdN ?_ | refine Xt.Nw.ext ?_ | refine Xt.Nw.ext_some ?_ (by assumption) | refine Xt.Nw.setCell ?_ (by simp [go_sem] <;> omega) _))⟩
    | true =>
      by_cases e11 : er = 11
      · subst e11
        have HTR := Lib.hid (fun W => rtries_any 12 W)
        obtain ⟨tv, htv⟩ : ∃ tv, tv = triesB 12 := ⟨_, rfl⟩
        rw [← htv] at HTR
        have HTV := Lib.hid htv
        clear htv
        cases tv
        all_goals
          go_wp2_with (go_at_call 27; refine (HTR.out _).mono ?_; rintro e w' ⟨rfl, dW, rfl⟩)
          go_meet
          refine ⟨?_, (by repeat (first | exact Xt.Nw.refl _ | refine Xt.Nw.drew ?_ | refine Xt.Nw.drewN ?_ _ | refine Xt.Nw.alloc ?_ _ | refine Xt.Nw.joined ?_ | refine Xt.Nw.drewd ?_ | refine Xt.Nw.drewdN ?_ | refine Xt.Nw.ext ?_ | refine Xt.Nw.ext_some ?_ (by assumption) | refine Xt.Nw.setCell ?_ (by simp [go_sem] <;> omega) _))⟩
          rw [← HGV.out, rgives_11, ← HTV.out]; simp
      by_cases e6 : er = 6
      · subst e6
        rw [HGV.out] at HFL
        cases gv
        all_goals
          go_wp2_with (go_at_call 28; refine (HFL.out _ (HN3.out.trans ((by repeat (first | exact Xt.Nw.refl _ | refine Xt.Nw.drew ?_ | refine Xt.Nw.drewN ?_ _ | refine Xt.Nw.alloc ?_ _ | refine Xt.Nw.joined ?_ | refine Xt.Nw.drewd ?_ | refine Xt.Nw.drewdN ?_ | refine Xt.Nw.ext ?_ | refine Xt.Nw.ext_some ?_ (by assumption) | refine Xt.Nw.setCell ?_ (by simp [go_sem] <;> omega) _))))).mono ?_; rintro e w' ⟨rfl, dW, rfl⟩)
          go_meet
          exact ⟨by simp, (by repeat (first | exact Xt.Nw.refl _ | refine Xt.Nw.drew ?_ | refine Xt.Nw.drewN ?_ _ | refine Xt.Nw.alloc ?_ _ | refine Xt.Nw.joined ?_ | refine Xt.Nw.drewd ?_ | refine Xt.Nw.drewdN ?_ | refine Xt.Nw.ext ?_ | refine Xt.Nw.ext_some ?_ (by assumption) | refine Xt.Nw.setCell ?_ (by simp [go_sem] <;> omega) _))⟩
      by_cases e10 : er = 10
      · subst e10
        go_wp2
        go_meet
        refine ⟨?_, (by repeat (first | exact Xt.Nw.refl _ | refine Xt.Nw.drew ?_ | refine Xt.Nw.drewN ?_ _ | refine Xt.Nw.alloc ?_ _ | refine Xt.Nw.joined ?_ | refine Xt.Nw.drewd ?_ | refine Xt.Nw.drewdN ?_ | refine Xt.Nw.ext ?_ | refine Xt.Nw.ext_some ?_ (by assumption) | refine Xt.Nw.setCell ?_ (by simp [go_sem] <;> omega) _))⟩
        rw [← HGV.out, rgives_10]; simp
      · have d11 : (er == 11) = false := by simpa using e11
        have d6 : (er == 6) = false := by simpa using e6
        have d10 : (er == 10) = false := by simpa using e10
        have HNO := Lib.hid (rgives_no (s := s) (x := ⟨12, a, b, c, d, e, f⟩) e11 e6 e10)
        clear e11 e6 e10
        go_wp2
        go_meet
        refine ⟨?_, (by repeat (first | exact Xt.Nw.refl _ | refine Xt.Nw.drew ?_ | refine Xt.Nw.drewN ?_ _ | refine Xt.Nw.alloc ?_ _ | refine Xt.Nw.joined ?_ | refine Xt.Nw.drewd ?_ | refine Xt.Nw.drewdN ?_ | refine Xt.Nw.ext ?_ | refine Xt.Nw.ext_some ?_ (by assumption) | refine Xt.Nw.setCell ?_ (by simp [go_sem] <;> omega) _))⟩
        rw [← HGV.out, HNO.out]; simp
  case rest =>
    obtain ⟨hv, dX, rfl⟩ := hcut
    clear HFL HRF
    rw [hq] at hv
    subst hv
    have m2 : ∃ ct, W3.cell? ⟨gm, 17, none⟩ = some (.slice (some ⟨gt, 0, none⟩) n ct) := by rw [HGM.out, HGT.out, HN.out]; exact H3.out.m2
    obtain ⟨ct, m2⟩ := m2
    have hth : RThR W3 gt s.th := by rw [HGT.out]; exact H3.out.th
    obtain ⟨c0, c1, c2, c3, c4⟩ := hth.cells HT.out
    have y2 : W3.frozen? ⟨gt, t * 5 + 2, none⟩ = false := hth.frozen _
    have y3 : W3.frozen? ⟨gt, t * 5 + 3, none⟩ = false := hth.frozen _
    have y4 : W3.frozen? ⟨gt, t * 5 + 3 + 1, none⟩ = false := hth.frozen _
    have HTH := Lib.hid hth
    clear hth
    clear hq hal
    obtain rfl : er = 14 := HE.out
    obtain rfl : al = true := HAL2.out
    go_wp2
    go_ret
    have h3 : RAt W3 p cf s := H3.out
    have hu : RMUp W3 p cf { s with th := s.th.set t x.fin } p _ := RMUp.ths h3 (by simp) (by rw [← HGT.out]; exact RThR.fin HTH.out HT.out) (by rw [← HGT.out]; exact (((Chg.set1 W3 gt _ _).set2 _ _).set2 _ _))
    exact ⟨rfl, _, RMUp.after HN3.out (hu.nw (by repeat (first | exact Xt.Nw.refl _ | refine Xt.Nw.drew ?_ | refine Xt.Nw.drewN ?_ _ | refine Xt.Nw.alloc ?_ _ | refine Xt.Nw.joined ?_ | refine Xt.Nw.drewd ?_ | refine Xt.Nw.drewdN ?_ | refine Xt.Nw.ext ?_ | refine Xt.Nw.ext_some ?_ (by assumption) | refine Xt.Nw.setCell ?_ (by simp [go_sem] <;> omega) _)))⟩
set_option maxRecDepth 20000 in
set_option maxHeartbeats 16000000 in
theorem racc_12af (w : World) (p : Pl) (cf : Cf) (s : Md) (h : RAt w p cf s) (hl : s.l.length ≤ 400000) (t : Nat) (a b c d e f er : Int) (fd : Bool) (ke va cn : Int) (hw : Ox.Wf ⟨12, a, b, c, d, e, f⟩) (x : Th) (ht : s.th[t]? = some x) (hr : refM s t ⟨12, a, b, c, d, e, f⟩ = 0) (hc : chkO ⟨12, a, b, c, d, e, f⟩ = 0) (al gv : Bool) (hal : eqR er fd ke va cn er false 0 0 0 = al) (hgv : givesM s ⟨12, a, b, c, d, e, f⟩ er = gv) (hq : (al && gv) = false) (hal2 : al = false) (hb2 : eqR er fd ke va cn 0 true ke va 0 = false) :
    Calls Tryz.prog 10 #[.pointer (some ⟨p.gm, 0, none⟩), .int .i64 t, op7 12 a b c d e f, res5 er fd ke va cn] w fun q w' => q = .returned (.bool (false)) ∧ ∃ p', RMUp w p cf s p' w' := by
  have HAL2 := Lib.hid hal2
  have HB2 := Lib.hid hb2
  clear hb2 hal2
  have HRF := Lib.hid (fun W (hn : Nw w W) => rrefusal_any W p cf s (h.nw hn) t ⟨12, a, b, c, d, e, f⟩ hw)
  have HFL := Lib.hid (fun W (hn : Nw w W) => rfull_any W p cf s (h.nw hn) hl ⟨12, a, b, c, d, e, f⟩ hw hc)
  rw [hr] at HRF
  unfold opV at HRF HFL
  simp only at HRF HFL
  have H := Lib.hid h
  have HT := Lib.hid ht
  have HGV := Lib.hid hgv
  have im := h.im
  have it := h.it
  have p0 := (List.getElem?_eq_some_iff.1 ht).1
  obtain ⟨gm, hgm⟩ : ∃ g, g = p.gm := ⟨_, rfl⟩
  obtain ⟨gt, hgt⟩ : ∃ g, g = p.gt := ⟨_, rfl⟩
  have HGM := Lib.hid hgm
  have HGT := Lib.hid hgt
  rw [← hgm] at im HRF HFL ⊢
  rw [← hgt] at it
  haveI : In gm w := ⟨im⟩
  have t1 : (t : Int) < (s.th.length : Int) := by omega
  have t0 : (0 : Int) ≤ (t : Int) := by omega
  obtain ⟨n, hn⟩ : ∃ n, n = s.th.length := ⟨_, rfl⟩
  rw [← hn] at t1
  have HN := Lib.hid hn
  obtain ⟨W2, hW2⟩ : ∃ W2, W2 = (w.alloc (.cells #[.int .u8 12, .int .u64 a, .int .u64 b, .int .u64 c, .int .u64 d, .int .u64 e, .int .u64 f] 40)).alloc (.cells #[.int .i64 er, .bool fd, .int .u64 ke, .int .u64 va, .int .i64 cn] 42) := ⟨_, rfl⟩
  have hn2 : Nw w W2 := by rw [hW2]; exact (by repeat (first | exact Xt.Nw.refl _ | refine Xt.Nw.drew ?_ | refine Xt.Nw.drewN ?_ _ | refine Xt.Nw.alloc ?_ _ | refine Xt.Nw.joined ?_ | refine Xt.Nw.drewd ?_ | refine Xt.Nw.drewdN ?_ | refine Xt.Nw.ext ?_ | refine Xt.Nw.ext_some ?_ (by assumption) | refine Xt.Nw.setCell ?_ (by simp [go_sem] <;> omega) _))
  have q0 : W2.cell? ⟨w.heap.size, 0, none⟩ = some (.int .u8 12) := by rw [hW2]; simp [go_sem]
  have q1 : W2.cell? ⟨w.heap.size, 1, none⟩ = some (.int .u64 a) := by rw [hW2]; simp [go_sem]
  have q2 : W2.cell? ⟨w.heap.size, 2, none⟩ = some (.int .u64 b) := by rw [hW2]; simp [go_sem]
  have q3 : W2.cell? ⟨w.heap.size, 3, none⟩ = some (.int .u64 c) := by rw [hW2]; simp [go_sem]
  have q4 : W2.cell? ⟨w.heap.size, 4, none⟩ = some (.int .u64 d) := by rw [hW2]; simp [go_sem]
  have q5 : W2.cell? ⟨w.heap.size, 5, none⟩ = some (.int .u64 e) := by rw [hW2]; simp [go_sem]
  have q6 : W2.cell? ⟨w.heap.size, 6, none⟩ = some (.int .u64 f) := by rw [hW2]; simp [go_sem]
  have r0 : W2.cell? ⟨w.heap.size + 1, 0, none⟩ = some (.int .i64 er) := by rw [hW2]; simp [go_sem]
  have r1 : W2.cell? ⟨w.heap.size + 1, 1, none⟩ = some (.bool fd) := by rw [hW2]; simp [go_sem]
  have r2 : W2.cell? ⟨w.heap.size + 1, 2, none⟩ = some (.int .u64 ke) := by rw [hW2]; simp [go_sem]
  have r3 : W2.cell? ⟨w.heap.size + 1, 3, none⟩ = some (.int .u64 va) := by rw [hW2]; simp [go_sem]
  have r4 : W2.cell? ⟨w.heap.size + 1, 4, none⟩ = some (.int .i64 cn) := by rw [hW2]; simp [go_sem]
  have hs2 : W2.heap.size = w.heap.size + 2 := by rw [hW2]; simp
  have HN2 := Lib.hid hn2
  have HW2 := Lib.hid hW2
  have HS2 := Lib.hid hs2
  clear h hl hw hgm hgt hr hc ht hn2 hW2 hs2 hn p0 hgv
  go_enter Tryz.func10, Tryz.ntmps10
  go_upto_region 3 with (fail)
  rw [← HW2.out]
  go_wp2_with fail
  refine (HRF.out W2 HN2.out).mono ?_
  rintro r W3 ⟨rfl, hn3⟩
  replace q0 := cell_nw q0 hn3
  replace q1 := cell_nw q1 hn3
  replace q2 := cell_nw q2 hn3
  replace q3 := cell_nw q3 hn3
  replace q4 := cell_nw q4 hn3
  replace q5 := cell_nw q5 hn3
  replace q6 := cell_nw q6 hn3
  replace r0 := cell_nw r0 hn3
  replace r1 := cell_nw r1 hn3
  replace r2 := cell_nw r2 hn3
  replace r3 := cell_nw r3 hn3
  replace r4 := cell_nw r4 hn3
  have HN3 := Lib.hid (HN2.out.trans hn3)
  have HS3 := Lib.hid (Nat.le_trans (Nat.le_of_eq HS2.out.symm) hn3.grown.size)
  haveI : In w.heap.size W3 := ⟨World.block_lt_of_cell? W3 _ q0⟩
  haveI : In (w.heap.size + 1) W3 := ⟨World.block_lt_of_cell? W3 _ r0⟩
  have h3 := H.out.nw HN3.out
  have im3 : gm < W3.heap.size := by rw [HGM.out]; exact h3.im
  have it3 : gt < W3.heap.size := by rw [HGT.out]; exact h3.it
  haveI : In gm W3 := ⟨im3⟩
  haveI : In gt W3 := ⟨it3⟩
  have H3 := Lib.hid h3
  have HIM := Lib.hid im
  have HIT := Lib.hid it
  clear hn3 h3 im it im3 it3
  go_upto_region 7 with (fail)
  go_cut [61] (fun v wx => v = .bool (al && gv) ∧ Nw W3 wx)
  case first =>
    cases al with
    | false =>
      go_wp2
      go_meet
      exact ⟨by simp, (by repeat (first | exact Xt.Nw.refl _ | refine Xt.Nw.drew ?_ | refine Xt.Nw.drewN ?_ _ | refine Xt.Nw.alloc ?_ _ | refine Xt.Nw.joined ?_ | refine Xt.Nw.drewd ?_ | refine Xt.Nw.drewdN ?_ | refine Xt.Nw.ext ?_ | refine Xt.Nw.ext_some ?_ (by assumption) | refine Xt.Nw.setCell ?_ (by simp [go_sem] <;> omega) _))⟩
    | true =>
      by_cases e11 : er = 11
      · subst e11
        have HTR := Lib.hid (fun W => rtries_any 12 W)
        obtain ⟨tv, htv⟩ : ∃ tv, tv = triesB 12 := ⟨_, rfl⟩
        rw [← htv] at HTR
        have HTV := Lib.hid htv
        clear htv
        cases tv
        all_goals
          go_wp2_with (go_at_call 27; refine (HTR.out _).mono ?_; rintro e w' ⟨rfl, dW, rfl⟩)
          go_meet
          refine ⟨?_, (by repeat (first | exact Xt.Nw.refl _ | refine Xt.Nw.drew ?_ | refine Xt.Nw.drewN ?_ _ | refine Xt.Nw.alloc ?_ _ | refine Xt.Nw.joined ?_ | refine Xt.Nw.drewd ?_ | refine Xt.Nw.drewdN ?_ | refine Xt.Nw.ext ?_ | refine Xt.Nw.ext_some ?_ (by assumption) | refine Xt.Nw.setCell ?_ (by simp [go_sem] <;> omega) _))⟩
          rw [← HGV.out, rgives_11, ← HTV.out]; simp
      by_cases e6 : er = 6
      · subst e6
        rw [HGV.out] at HFL
        cases gv
        all_goals
          go_wp2_with (go_at_call 28; refine (HFL.out _ (HN3.out.trans ((by repeat (first | exact Xt.Nw.refl _ | refine Xt.Nw.drew ?_ | refine Xt.Nw.drewN ?_ _ | refine Xt.Nw.alloc ?_ _ | refine Xt.Nw.joined ?_ | refine Xt.Nw.drewd ?_ | refine Xt.Nw.drewdN ?_ | refine Xt.Nw.ext ?_ | refine Xt.Nw.ext_some ?_ (by assumption) | refine Xt.Nw.setCell ?_ (by simp [go_sem] <;> omega) _))))).mono ?_; rintro e w' ⟨rfl, dW, rfl⟩)
          go_meet
          exact ⟨by simp, (by repeat (first | exact Xt.Nw.refl _ | refine Xt.Nw.drew ?_ | refine Xt.Nw.drewN ?_ _ | refine Xt.Nw.alloc ?_ _ | refine Xt.Nw.joined ?_ | refine Xt.Nw.drewd ?_ | refine Xt.Nw.drewdN ?_ | refine Xt.Nw.ext ?_ | refine Xt.Nw.ext_some ?_ (by assumption) | refine Xt.Nw.setCell ?_ (by simp [go_sem] <;> omega) _))⟩
      by_cases e10 : er = 10
      · subst e10
        go_wp2
        go_meet
        refine ⟨?_, (by repeat (first | exact Xt.Nw.refl _ | refine Xt.Nw.drew ?_ | refine Xt.Nw.drewN ?_ _ | refine Xt.Nw.alloc ?_ _ | refine Xt.Nw.joined ?_ | refine Xt.Nw.drewd ?_ | refine Xt.Nw.drewdN ?_ | refine Xt.Nw.ext ?_ | refine Xt.Nw.ext_some ?_ (by assumption) | refine Xt.Nw.setCell ?_ (by simp [go_sem] <;> omega) _))⟩
        rw [← HGV.out, rgives_10]; simp
      · have d11 : (er == 11) = false := by simpa using e11
        have d6 : (er == 6) = false := by simpa using e6
        have d10 : (er == 10) = false := by simpa using e10
        have HNO := Lib.hid (rgives_no (s := s) (x := ⟨12, a, b, c, d, e, f⟩) e11 e6 e10)
        clear e11 e6 e10
        go_wp2
        go_meet
        refine ⟨?_, (by repeat (first | exact Xt.Nw.refl _ | refine Xt.Nw.drew ?_ | refine Xt.Nw.drewN ?_ _ | refine Xt.Nw.alloc ?_ _ | refine Xt.Nw.joined ?_ | refine Xt.Nw.drewd ?_ | refine Xt.Nw.drewdN ?_ | refine Xt.Nw.ext ?_ | refine Xt.Nw.ext_some ?_ (by assumption) | refine Xt.Nw.setCell ?_ (by simp [go_sem] <;> omega) _))⟩
        rw [← HGV.out, HNO.out]; simp
  case rest =>
    obtain ⟨hv, dX, rfl⟩ := hcut
    clear HFL HRF
    rw [hq] at hv
    subst hv
    have m2 : ∃ ct, W3.cell? ⟨gm, 17, none⟩ = some (.slice (some ⟨gt, 0, none⟩) n ct) := by rw [HGM.out, HGT.out, HN.out]; exact H3.out.m2
    obtain ⟨ct, m2⟩ := m2
    have hth : RThR W3 gt s.th := by rw [HGT.out]; exact H3.out.th
    obtain ⟨c0, c1, c2, c3, c4⟩ := hth.cells HT.out
    have y2 : W3.frozen? ⟨gt, t * 5 + 2, none⟩ = false := hth.frozen _
    have y3 : W3.frozen? ⟨gt, t * 5 + 3, none⟩ = false := hth.frozen _
    have y4 : W3.frozen? ⟨gt, t * 5 + 3 + 1, none⟩ = false := hth.frozen _
    have HTH := Lib.hid hth
    clear hth
    have hb2 := HB2.out
    clear hq
    obtain rfl : al = false := HAL2.out
    go_upto_region 14 with (fail)
    (refine wp_region_nw (by kernel_rfl) (by kernel_rfl) ?_; (repeat (go_big_quiet_step ((go_at_call 29; exact quiet_of (rhas_any _ _ _ _))))); refine wpQuiet_nil ?_; intro _ hreg; obtain ⟨dW, rfl⟩ : Nw _ _ := hreg)
    go_wp2
    go_ret
    exact ⟨rfl, _, RMUp.same H.out (HN3.out.trans ((by repeat (first | exact Xt.Nw.refl _ | refine Xt.Nw.drew ?_ | refine Xt.Nw.drewN ?_ _ | refine Xt.Nw.alloc ?_ _ | refine Xt.Nw.joined ?_ | refine Xt.Nw.drewd ?_ | refine Xt.Nw.drewdN ?_ | refine Xt.Nw.ext ?_ | refine Xt.Nw.ext_some ?_ (by assumption) | refine Xt.Nw.setCell ?_ (by simp [go_sem] <;> omega) _))))⟩
set_option maxRecDepth 20000 in
set_option maxHeartbeats 16000000 in
theorem racc_12at (w : World) (p : Pl) (cf : Cf) (s : Md) (h : RAt w p cf s) (hl : s.l.length ≤ 400000) (t : Nat) (a b c d e f er : Int) (fd : Bool) (ke va cn : Int) (hw : Ox.Wf ⟨12, a, b, c, d, e, f⟩) (x : Th) (ht : s.th[t]? = some x) (hr : refM s t ⟨12, a, b, c, d, e, f⟩ = 0) (hc : chkO ⟨12, a, b, c, d, e, f⟩ = 0) (al gv : Bool) (hal : eqR er fd ke va cn er false 0 0 0 = al) (hgv : givesM s ⟨12, a, b, c, d, e, f⟩ er = gv) (hq : (al && gv) = false) (hal2 : al = true) (he : er ≠ 14) (hb2 : eqR er fd ke va cn 0 true ke va 0 = false) :
    Calls Tryz.prog 10 #[.pointer (some ⟨p.gm, 0, none⟩), .int .i64 t, op7 12 a b c d e f, res5 er fd ke va cn] w fun q w' => q = .returned (.bool (false)) ∧ ∃ p', RMUp w p cf s p' w' := by
  have HAL2 := Lib.hid hal2
  have HB2 := Lib.hid hb2
  clear hb2 hal2
  have HE := Lib.hid he
  clear he
  have HRF := Lib.hid (fun W (hn : Nw w W) => rrefusal_any W p cf s (h.nw hn) t ⟨12, a, b, c, d, e, f⟩ hw)
  have HFL := Lib.hid (fun W (hn : Nw w W) => rfull_any W p cf s (h.nw hn) hl ⟨12, a, b, c, d, e, f⟩ hw hc)
  rw [hr] at HRF
  unfold opV at HRF HFL
  simp only at HRF HFL
  have H := Lib.hid h
  have HT := Lib.hid ht
  have HGV := Lib.hid hgv
  have im := h.im
  have it := h.it
  have p0 := (List.getElem?_eq_some_iff.1 ht).1
  obtain ⟨gm, hgm⟩ : ∃ g, g = p.gm := ⟨_, rfl⟩
  obtain ⟨gt, hgt⟩ : ∃ g, g = p.gt := ⟨_, rfl⟩
  have HGM := Lib.hid hgm
  have HGT := Lib.hid hgt
  rw [← hgm] at im HRF HFL ⊢
  rw [← hgt] at it
  haveI : In gm w := ⟨im⟩
  have t1 : (t : Int) < (s.th.length : Int) := by omega
  have t0 : (0 : Int) ≤ (t : Int) := by omega
  obtain ⟨n, hn⟩ : ∃ n, n = s.th.length := ⟨_, rfl⟩
  rw [← hn] at t1
  have HN := Lib.hid hn
  obtain ⟨W2, hW2⟩ : ∃ W2, W2 = (w.alloc (.cells #[.int .u8 12, .int .u64 a, .int .u64 b, .int .u64 c, .int .u64 d, .int .u64 e, .int .u64 f] 40)).alloc (.cells #[.int .i64 er, .bool fd, .int .u64 ke, .int .u64 va, .int .i64 cn] 42) := ⟨_, rfl⟩
  have hn2 : Nw w W2 := by rw [hW2]; exact (by repeat (first | exact Xt.Nw.refl _ | refine Xt.Nw.drew ?_ | refine Xt.Nw.drewN ?_ _ | refine Xt.Nw.alloc ?_ _ | refine Xt.Nw.joined ?_ | refine Xt.Nw.drewd ?_ | refine Xt.Nw.drewdN ?_ | refine Xt.Nw.ext ?_ | refine Xt.Nw.ext_some ?_ (by assumption) | refine Xt.Nw.setCell ?_ (by simp [go_sem] <;> omega) _))
  have q0 : W2.cell? ⟨w.heap.size, 0, none⟩ = some (.int .u8 12) := by rw [hW2]; simp [go_sem]
  have q1 : W2.cell? ⟨w.heap.size, 1, none⟩ = some (.int .u64 a) := by rw [hW2]; simp [go_sem]
  have q2 : W2.cell? ⟨w.heap.size, 2, none⟩ = some (.int .u64 b) := by rw [hW2]; simp [go_sem]
  have q3 : W2.cell? ⟨w.heap.size, 3, none⟩ = some (.int .u64 c) := by rw [hW2]; simp [go_sem]
  have q4 : W2.cell? ⟨w.heap.size, 4, none⟩ = some (.int .u64 d) := by rw [hW2]; simp [go_sem]
  have q5 : W2.cell? ⟨w.heap.size, 5, none⟩ = some (.int .u64 e) := by rw [hW2]; simp [go_sem]
  have q6 : W2.cell? ⟨w.heap.size, 6, none⟩ = some (.int .u64 f) := by rw [hW2]; simp [go_sem]
  have r0 : W2.cell? ⟨w.heap.size + 1, 0, none⟩ = some (.int .i64 er) := by rw [hW2]; simp [go_sem]
  have r1 : W2.cell? ⟨w.heap.size + 1, 1, none⟩ = some (.bool fd) := by rw [hW2]; simp [go_sem]
  have r2 : W2.cell? ⟨w.heap.size + 1, 2, none⟩ = some (.int .u64 ke) := by rw [hW2]; simp [go_sem]
  have r3 : W2.cell? ⟨w.heap.size + 1, 3, none⟩ = some (.int .u64 va) := by rw [hW2]; simp [go_sem]
  have r4 : W2.cell? ⟨w.heap.size + 1, 4, none⟩ = some (.int .i64 cn) := by rw [hW2]; simp [go_sem]
  have hs2 : W2.heap.size = w.heap.size + 2 := by rw [hW2]; simp
  have HN2 := Lib.hid hn2
  have HW2 := Lib.hid hW2
  have HS2 := Lib.hid hs2
  clear h hl hw hgm hgt hr hc ht hn2 hW2 hs2 hn p0 hgv
  go_enter Tryz.func10, Tryz.ntmps10
  go_upto_region 3 with (fail)
  rw [← HW2.out]
  go_wp2_with fail
  refine (HRF.out W2 HN2.out).mono ?_
  rintro r W3 ⟨rfl, hn3⟩
  replace q0 := cell_nw q0 hn3
  replace q1 := cell_nw q1 hn3
  replace q2 := cell_nw q2 hn3
  replace q3 := cell_nw q3 hn3
  replace q4 := cell_nw q4 hn3
  replace q5 := cell_nw q5 hn3
  replace q6 := cell_nw q6 hn3
  replace r0 := cell_nw r0 hn3
  replace r1 := cell_nw r1 hn3
  replace r2 := cell_nw r2 hn3
  replace r3 := cell_nw r3 hn3
  replace r4 := cell_nw r4 hn3
  have HN3 := Lib.hid (HN2.out.trans hn3)
  have HS3 := Lib.hid (Nat.le_trans (Nat.le_of_eq HS2.out.symm) hn3.grown.size)
  haveI : In w.heap.size W3 := ⟨World.block_lt_of_cell? W3 _ q0⟩
  haveI : In (w.heap.size + 1) W3 := ⟨World.block_lt_of_cell? W3 _ r0⟩
  have h3 := H.out.nw HN3.out
  have im3 : gm < W3.heap.size := by rw [HGM.out]; exact h3.im
  have it3 : gt < W3.heap.size := by rw [HGT.out]; exact h3.it
  haveI : In gm W3 := ⟨im3⟩
  haveI : In gt W3 := ⟨it3⟩
  have H3 := Lib.hid h3
  have HIM := Lib.hid im
  have HIT := Lib.hid it
  clear hn3 h3 im it im3 it3
  go_upto_region 7 with (fail)
  go_cut [61] (fun v wx => v = .bool (al && gv) ∧ Nw W3 wx)
  case first =>
    cases al with
    | false =>
      go_wp2
      go_meet
      exact ⟨by simp, (by repeat (first | exact Xt.Nw.refl _ | refine Xt.Nw.drew ?_ | refine Xt.Nw.drewN ?_ _ | refine Xt.Nw.alloc ?_ _ | refine Xt.Nw.joined ?_ | refine Xt.Nw.drewd ?_ | refine Xt.Nw.drewdN ?_ | refine Xt.Nw.ext ?_ | refine Xt.Nw.ext_some ?_ (by assumption) | refine Xt.Nw.setCell ?_ (by simp [go_sem] <;> omega) _))⟩
    | true =>
      by_cases e11 : er = 11
      · subst e11
        have HTR := Lib.hid (fun W => rtries_any 12 W)
        obtain ⟨tv, htv⟩ : ∃ tv, tv = triesB 12 := ⟨_, rfl⟩
        rw [← htv] at HTR
        have HTV := Lib.hid htv
        clear htv
        cases tv
        all_goals
          go_wp2_with (go_at_call 27; refine (HTR.out _).mono ?_; rintro e w' ⟨rfl, dW, rfl⟩)
          go_meet
          refine ⟨?_, (by repeat (first | exact Xt.Nw.refl _ | refine Xt.Nw.drew ?_ | refine Xt.Nw.drewN ?_ _ | refine Xt.Nw.alloc ?_ _ | refine Xt.Nw.joined ?_ | refine Xt.Nw.drewd ?_ | refine Xt.Nw.drewdN ?_ | refine Xt.Nw.ext ?_ | refine Xt.Nw.ext_some ?_ (by assumption) | refine Xt.Nw.setCell ?_ (by simp [go_sem] <;> omega) _))⟩
          rw [← HGV.out, rgives_11, ← HTV.out]; simp
      by_cases e6 : er = 6
      · subst e6
        rw [HGV.out] at HFL
        cases gv
        all_goals
          go_wp2_with (go_at_call 28; refine (HFL.out _ (HN3.out.trans ((by repeat (first | exact Xt.Nw.refl _ | refine Xt.Nw.drew ?_ | refine Xt.Nw.drewN ?_ _ | refine Xt.Nw.alloc ?_ _ | refine Xt.Nw.joined ?_ | refine Xt.Nw.drewd ?_ | refine Xt.Nw.drewdN ?_ | refine Xt.Nw.ext ?_ | refine Xt.Nw.ext_some ?_ (by assumption) | refine Xt.Nw.setCell ?_ (by simp [go_sem] <;> omega) _))))).mono ?_; rintro e w' ⟨rfl, dW, rfl⟩)
          go_meet
          exact ⟨by simp, (by repeat (first | exact Xt.Nw.refl _ | refine Xt.Nw.drew ?_ | refine Xt.Nw.drewN ?_ _ | refine Xt.Nw.alloc ?_ _ | refine Xt.Nw.joined ?_ | refine Xt.Nw.drewd ?_ | refine Xt.Nw.drewdN ?_ | refine Xt.Nw.ext ?_ | refine Xt.Nw.ext_some ?_ (by assumption) | refine Xt.Nw.setCell ?_ (by simp [go_sem] <;> omega) _))⟩
      by_cases e10 : er = 10
      · subst e10
        go_wp2
        go_meet
        refine ⟨?_, (by repeat (first | exact Xt.Nw.refl _ | refine Xt.Nw.drew ?_ | refine Xt.Nw.drewN ?_ _ | refine Xt.Nw.alloc ?_ _ | refine Xt.Nw.joined ?_ | refine Xt.Nw.drewd ?_ | refine Xt.Nw.drewdN ?_ | refine Xt.Nw.ext ?_ | refine Xt.Nw.ext_some ?_ (by assumption) | refine Xt.Nw.setCell ?_ (by simp [go_sem] <;> omega) _))⟩
        rw [← HGV.out, rgives_10]; simp
      · have d11 : (er == 11) = false := by simpa using e11
        have d6 : (er == 6) = false := by simpa using e6
        have d10 : (er == 10) = false := by simpa using e10
        have HNO := Lib.hid (rgives_no (s := s) (x := ⟨12, a, b, c, d, e, f⟩) e11 e6 e10)
        clear e11 e6 e10
        go_wp2
        go_meet
        refine ⟨?_, (by repeat (first | exact Xt.Nw.refl _ | refine Xt.Nw.drew ?_ | refine Xt.Nw.drewN ?_ _ | refine Xt.Nw.alloc ?_ _ | refine Xt.Nw.joined ?_ | refine Xt.Nw.drewd ?_ | refine Xt.Nw.drewdN ?_ | refine Xt.Nw.ext ?_ | refine Xt.Nw.ext_some ?_ (by assumption) | refine Xt.Nw.setCell ?_ (by simp [go_sem] <;> omega) _))⟩
        rw [← HGV.out, HNO.out]; simp
  case rest =>
    obtain ⟨hv, dX, rfl⟩ := hcut
    clear HFL HRF
    rw [hq] at hv
    subst hv
    have m2 : ∃ ct, W3.cell? ⟨gm, 17, none⟩ = some (.slice (some ⟨gt, 0, none⟩) n ct) := by rw [HGM.out, HGT.out, HN.out]; exact H3.out.m2
    obtain ⟨ct, m2⟩ := m2
    have hth : RThR W3 gt s.th := by rw [HGT.out]; exact H3.out.th
    obtain ⟨c0, c1, c2, c3, c4⟩ := hth.cells HT.out
    have y2 : W3.frozen? ⟨gt, t * 5 + 2, none⟩ = false := hth.frozen _
    have y3 : W3.frozen? ⟨gt, t * 5 + 3, none⟩ = false := hth.frozen _
    have y4 : W3.frozen? ⟨gt, t * 5 + 3 + 1, none⟩ = false := hth.frozen _
    have HTH := Lib.hid hth
    clear hth
    have d14 : (er == 14) = false := by simpa using HE.out
    have hb2 := HB2.out
    clear hq
    obtain rfl : al = true := HAL2.out
    go_upto_region 14 with (fail)
    (refine wp_region_nw (by kernel_rfl) (by kernel_rfl) ?_; (repeat (go_big_quiet_step ((go_at_call 29; exact quiet_of (rhas_any _ _ _ _))))); refine wpQuiet_nil ?_; intro _ hreg; obtain ⟨dW, rfl⟩ : Nw _ _ := hreg)
    go_wp2
    go_ret
    exact ⟨rfl, _, RMUp.same H.out (HN3.out.trans ((by repeat (first | exact Xt.Nw.refl _ | refine Xt.Nw.drew ?_ | refine Xt.Nw.drewN ?_ _ | refine Xt.Nw.alloc ?_ _ | refine Xt.Nw.joined ?_ | refine Xt.Nw.drewd ?_ | refine Xt.Nw.drewdN ?_ | refine Xt.Nw.ext ?_ | refine Xt.Nw.ext_some ?_ (by assumption) | refine Xt.Nw.setCell ?_ (by simp [go_sem] <;> omega) _))))⟩
set_option maxRecDepth 20000 in
set_option maxHeartbeats 16000000 in
theorem racc_12c (w : World) (p : Pl) (cf : Cf) (s : Md) (h : RAt w p cf s) (hl : s.l.length ≤ 400000) (t : Nat) (a b c d e f er : Int) (fd : Bool) (ke va cn : Int) (hw : Ox.Wf ⟨12, a, b, c, d, e, f⟩) (x : Th) (ht : s.th[t]? = some x) (hr : refM s t ⟨12, a, b, c, d, e, f⟩ = 0) (hc : chkO ⟨12, a, b, c, d, e, f⟩ = 0) (al gv : Bool) (hal : eqR er fd ke va cn er false 0 0 0 = al) (hgv : givesM s ⟨12, a, b, c, d, e, f⟩ er = gv) (hq : (al && gv) = false) (her : er = 0) (hfd : fd = true) (hcn : cn = 0) (hh : (decide (x.lo ≤ ke) && decide (ke ≤ x.hi)) = false) :
    Calls Tryz.prog 10 #[.pointer (some ⟨p.gm, 0, none⟩), .int .i64 t, op7 12 a b c d e f, res5 er fd ke va cn] w fun q w' => q = .returned (.bool (false)) ∧ ∃ p', RMUp w p cf s p' w' := by
  have HER := Lib.hid (And.intro her (And.intro hfd hcn))
  have hal0 : al = false := by rw [← hal, her, hfd, hcn]; simp [eqR]
  have HAL2 := Lib.hid hal0
  clear her hfd hcn hal0
  have HH := Lib.hid (fun W => rhas_any x.lo x.hi ke W)
  rw [hh] at HH
  clear hh
  have HRF := Lib.hid (fun W (hn : Nw w W) => rrefusal_any W p cf s (h.nw hn) t ⟨12, a, b, c, d, e, f⟩ hw)
  have HFL := Lib.hid (fun W (hn : Nw w W) => rfull_any W p cf s (h.nw hn) hl ⟨12, a, b, c, d, e, f⟩ hw hc)
  rw [hr] at HRF
  unfold opV at HRF HFL
  simp only at HRF HFL
  have H := Lib.hid h
  have HT := Lib.hid ht
  have HGV := Lib.hid hgv
  have im := h.im
  have it := h.it
  have p0 := (List.getElem?_eq_some_iff.1 ht).1
  obtain ⟨gm, hgm⟩ : ∃ g, g = p.gm := ⟨_, rfl⟩
  obtain ⟨gt, hgt⟩ : ∃ g, g = p.gt := ⟨_, rfl⟩
  have HGM := Lib.hid hgm
  have HGT := Lib.hid hgt
  rw [← hgm] at im HRF HFL ⊢
  rw [← hgt] at it
  haveI : In gm w := ⟨im⟩
  have t1 : (t : Int) < (s.th.length : Int) := by omega
  have t0 : (0 : Int) ≤ (t : Int) := by omega
  obtain ⟨n, hn⟩ : ∃ n, n = s.th.length := ⟨_, rfl⟩
  rw [← hn] at t1
  have HN := Lib.hid hn
  obtain ⟨W2, hW2⟩ : ∃ W2, W2 = (w.alloc (.cells #[.int .u8 12, .int .u64 a, .int .u64 b, .int .u64 c, .int .u64 d, .int .u64 e, .int .u64 f] 40)).alloc (.cells #[.int .i64 er, .bool fd, .int .u64 ke, .int .u64 va, .int .i64 cn] 42) := ⟨_, rfl⟩
  have hn2 : Nw w W2 := by rw [hW2]; exact (by repeat (first | exact Xt.Nw.refl _ | refine Xt.Nw.drew ?_ | refine Xt.Nw.drewN ?_ _ | refine Xt.Nw.alloc ?_ _ | refine Xt.Nw.joined ?_ | refine Xt.Nw.drewd ?_ | refine Xt.Nw.drewdN ?_ | refine Xt.Nw.ext ?_ | refine Xt.Nw.ext_some ?_ (by assumption) | refine Xt.Nw.setCell ?_ (by simp [go_sem] <;> omega) _))
  have q0 : W2.cell? ⟨w.heap.size, 0, none⟩ = some (.int .u8 12) := by rw [hW2]; simp [go_sem]
  have q1 : W2.cell? ⟨w.heap.size, 1, none⟩ = some (.int .u64 a) := by rw [hW2]; simp [go_sem]
  have q2 : W2.cell? ⟨w.heap.size, 2, none⟩ = some (.int .u64 b) := by rw [hW2]; simp [go_sem]
  have q3 : W2.cell? ⟨w.heap.size, 3, none⟩ = some (.int .u64 c) := by rw [hW2]; simp [go_sem]
  have q4 : W2.cell? ⟨w.heap.size, 4, none⟩ = some (.int .u64 d) := by rw [hW2]; simp [go_sem]
  have q5 : W2.cell? ⟨w.heap.size, 5, none⟩ = some (.int .u64 e) := by rw [hW2]; simp [go_sem]
  have q6 : W2.cell? ⟨w.heap.size, 6, none⟩ = some (.int .u64 f) := by rw [hW2]; simp [go_sem]
  have r0 : W2.cell? ⟨w.heap.size + 1, 0, none⟩ = some (.int .i64 er) := by rw [hW2]; simp [go_sem]
  have r1 : W2.cell? ⟨w.heap.size + 1, 1, none⟩ = some (.bool fd) := by rw [hW2]; simp [go_sem]
  have r2 : W2.cell? ⟨w.heap.size + 1, 2, none⟩ = some (.int .u64 ke) := by rw [hW2]; simp [go_sem]
  have r3 : W2.cell? ⟨w.heap.size + 1, 3, none⟩ = some (.int .u64 va) := by rw [hW2]; simp [go_sem]
  have r4 : W2.cell? ⟨w.heap.size + 1, 4, none⟩ = some (.int .i64 cn) := by rw [hW2]; simp [go_sem]
  have hs2 : W2.heap.size = w.heap.size + 2 := by rw [hW2]; simp
  have HN2 := Lib.hid hn2
  have HW2 := Lib.hid hW2
  have HS2 := Lib.hid hs2
  clear h hl hw hgm hgt hr hc ht hn2 hW2 hs2 hn p0 hgv
  go_enter Tryz.func10, Tryz.ntmps10
  go_upto_region 3 with (fail)
  rw [← HW2.out]
  go_wp2_with fail
  refine (HRF.out W2 HN2.out).mono ?_
  rintro r W3 ⟨rfl, hn3⟩
  replace q0 := cell_nw q0 hn3
  replace q1 := cell_nw q1 hn3
  replace q2 := cell_nw q2 hn3
  replace q3 := cell_nw q3 hn3
  replace q4 := cell_nw q4 hn3
  replace q5 := cell_nw q5 hn3
  replace q6 := cell_nw q6 hn3
  replace r0 := cell_nw r0 hn3
  replace r1 := cell_nw r1 hn3
  replace r2 := cell_nw r2 hn3
  replace r3 := cell_nw r3 hn3
  replace r4 := cell_nw r4 hn3
  have HN3 := Lib.hid (HN2.out.trans hn3)
  have HS3 := Lib.hid (Nat.le_trans (Nat.le_of_eq HS2.out.symm) hn3.grown.size)
  haveI : In w.heap.size W3 := ⟨World.block_lt_of_cell? W3 _ q0⟩
  haveI : In (w.heap.size + 1) W3 := ⟨World.block_lt_of_cell? W3 _ r0⟩
  have h3 := H.out.nw HN3.out
  have im3 : gm < W3.heap.size := by rw [HGM.out]; exact h3.im
  have it3 : gt < W3.heap.size := by rw [HGT.out]; exact h3.it
  haveI : In gm W3 := ⟨im3⟩
  haveI : In gt W3 := ⟨it3⟩
  have H3 := Lib.hid h3
  have HIM := Lib.hid im
  have HIT := Lib.hid it
  clear hn3 h3 im it im3 it3
  go_upto_region 7 with (fail)
  go_cut [61] (fun v wx => v = .bool (al && gv) ∧ Nw W3 wx)
  case first =>
    cases al with
    | false =>
      go_wp2
      go_meet
      exact ⟨by simp, (by repeat (first | exact Xt.Nw.refl _ | refine Xt.Nw.drew ?_ | refine Xt.Nw.drewN ?_ _ | refine Xt.Nw.alloc ?_ _ | refine Xt.Nw.joined ?_ | refine Xt.Nw.drewd ?_ | refine Xt.Nw.drewdN ?_ | refine Xt.Nw.ext ?_ | refine Xt.Nw.ext_some ?_ (by assumption) | refine Xt.Nw.setCell ?_ (by simp [go_sem] <;> omega) _))⟩
    | true =>
      by_cases e11 : er = 11
      · subst e11
        have HTR := Lib.hid (fun W => rtries_any 12 W)
        obtain ⟨tv, htv⟩ : ∃ tv, tv = triesB 12 := ⟨_, rfl⟩
        rw [← htv] at HTR
        have HTV := Lib.hid htv
        clear htv
        cases tv
        all_goals
          go_wp2_with (go_at_call 27; refine (HTR.out _).mono ?_; rintro e w' ⟨rfl, dW, rfl⟩)
          go_meet
          refine ⟨?_, (by repeat (first | exact Xt.Nw.refl _ | refine Xt.Nw.drew ?_ | refine Xt.Nw.drewN ?_ _ | refine Xt.Nw.alloc ?_ _ | refine Xt.Nw.joined ?_ | refine Xt.Nw.drewd ?_ | refine Xt.Nw.drewdN ?_ | refine Xt.Nw.ext ?_ | refine Xt.Nw.ext_some ?_ (by assumption) | refine Xt.Nw.setCell ?_ (by simp [go_sem] <;> omega) _))⟩
          rw [← HGV.out, rgives_11, ← HTV.out]; simp
      by_cases e6 : er = 6
      · subst e6
        rw [HGV.out] at HFL
        cases gv
        all_goals
          go_wp2_with (go_at_call 28; refine (HFL.out _ (HN3.out.trans ((by repeat (first | exact Xt.Nw.refl _ | refine Xt.Nw.drew ?_ | refine Xt.Nw.drewN ?_ _ | refine Xt.Nw.alloc ?_ _ | refine Xt.Nw.joined ?_ | refine Xt.Nw.drewd ?_ | refine Xt.Nw.drewdN ?_ | refine Xt.Nw.ext ?_ | refine Xt.Nw.ext_some ?_ (by assumption) | refine Xt.Nw.setCell ?_ (by simp [go_sem] <;> omega) _))))).mono ?_; rintro e w' ⟨rfl, dW, rfl⟩)
          go_meet
          exact ⟨by simp, (by repeat (first | exact Xt.Nw.refl _ | refine Xt.Nw.drew ?_ | refine Xt.Nw.drewN ?_ _ | refine Xt.Nw.alloc ?_ _ | refine Xt.Nw.joined ?_ | refine Xt.Nw.drewd ?_ | refine Xt.Nw.drewdN ?_ | refine Xt.Nw.ext ?_ | refine Xt.Nw.ext_some ?_ (by assumption) | refine Xt.Nw.setCell ?_ (by simp [go_sem] <;> omega) _))⟩
      by_cases e10 : er = 10
      · subst e10
        go_wp2
        go_meet
        refine ⟨?_, (by repeat (first | exact Xt.Nw.refl _ | refine Xt.Nw.drew ?_ | refine Xt.Nw.drewN ?_ _ | refine Xt.Nw.alloc ?_ _ | refine Xt.Nw.joined ?_ | refine Xt.Nw.drewd ?_ | refine Xt.Nw.drewdN ?_ | refine Xt.Nw.ext ?_ | refine Xt.Nw.ext_some ?_ (by assumption) | refine Xt.Nw.setCell ?_ (by simp [go_sem] <;> omega) _))⟩
        rw [← HGV.out, rgives_10]; simp
      · have d11 : (er == 11) = false := by simpa using e11
        have d6 : (er == 6) = false := by simpa using e6
        have d10 : (er == 10) = false := by simpa using e10
        have HNO := Lib.hid (rgives_no (s := s) (x := ⟨12, a, b, c, d, e, f⟩) e11 e6 e10)
        clear e11 e6 e10
        go_wp2
        go_meet
        refine ⟨?_, (by repeat (first | exact Xt.Nw.refl _ | refine Xt.Nw.drew ?_ | refine Xt.Nw.drewN ?_ _ | refine Xt.Nw.alloc ?_ _ | refine Xt.Nw.joined ?_ | refine Xt.Nw.drewd ?_ | refine Xt.Nw.drewdN ?_ | refine Xt.Nw.ext ?_ | refine Xt.Nw.ext_some ?_ (by assumption) | refine Xt.Nw.setCell ?_ (by simp [go_sem] <;> omega) _))⟩
        rw [← HGV.out, HNO.out]; simp
  case rest =>
    obtain ⟨hv, dX, rfl⟩ := hcut
    clear HFL HRF
    rw [hq] at hv
    subst hv
    have m2 : ∃ ct, W3.cell? ⟨gm, 17, none⟩ = some (.slice (some ⟨gt, 0, none⟩) n ct) := by rw [HGM.out, HGT.out, HN.out]; exact H3.out.m2
    obtain ⟨ct, m2⟩ := m2
    have hth : RThR W3 gt s.th := by rw [HGT.out]; exact H3.out.th
    obtain ⟨c0, c1, c2, c3, c4⟩ := hth.cells HT.out
    have y2 : W3.frozen? ⟨gt, t * 5 + 2, none⟩ = false := hth.frozen _
    have y3 : W3.frozen? ⟨gt, t * 5 + 3, none⟩ = false := hth.frozen _
    have y4 : W3.frozen? ⟨gt, t * 5 + 3 + 1, none⟩ = false := hth.frozen _
    have HTH := Lib.hid hth
    clear hth
    clear hq hal
    obtain rfl : er = 0 := HER.out.1
    obtain rfl : fd = true := HER.out.2.1
    obtain rfl : cn = 0 := HER.out.2.2
    obtain rfl : al = false := HAL2.out
    go_upto_region 14 with (fail)
    (refine wp_region_nw (by kernel_rfl) (by kernel_rfl) ?_; (repeat (go_big_quiet_step ((go_at_call 29; exact quiet_of (HH.out _))))); refine wpQuiet_nil ?_; intro _ hreg; obtain ⟨dW, rfl⟩ : Nw _ _ := hreg)
    go_wp2
    go_ret
    exact ⟨rfl, _, RMUp.same H.out (HN3.out.trans ((by repeat (first | exact Xt.Nw.refl _ | refine Xt.Nw.drew ?_ | refine Xt.Nw.drewN ?_ _ | refine Xt.Nw.alloc ?_ _ | refine Xt.Nw.joined ?_ | refine Xt.Nw.drewd ?_ | refine Xt.Nw.drewdN ?_ | refine Xt.Nw.ext ?_ | refine Xt.Nw.ext_some ?_ (by assumption) | refine Xt.Nw.setCell ?_ (by simp [go_sem] <;> omega) _))))⟩
set_option maxRecDepth 20000 in
set_option maxHeartbeats 16000000 in
theorem racc_12p (w : World) (p : Pl) (cf : Cf) (s : Md) (h : RAt w p cf s) (hl : s.l.length ≤ 400000) (t : Nat) (a b c d e f er : Int) (fd : Bool) (ke va cn : Int) (hw : Ox.Wf ⟨12, a, b, c, d, e, f⟩) (x : Th) (ht : s.th[t]? = some x) (hr : refM s t ⟨12, a, b, c, d, e, f⟩ = 0) (hc : chkO ⟨12, a, b, c, d, e, f⟩ = 0) (al gv : Bool) (hal : eqR er fd ke va cn er false 0 0 0 = al) (hgv : givesM s ⟨12, a, b, c, d, e, f⟩ er = gv) (hq : (al && gv) = false) (her : er = 0) (hfd : fd = true) (hcn : cn = 0) (hk : 0 ≤ ke ∧ ke < 18446744073709551616) (hmo : x.mo = true) (hhi : x.hi < 18446744073709551616) (hh : x.lo ≤ ke ∧ ke ≤ x.hi) :
    Calls Tryz.prog 10 #[.pointer (some ⟨p.gm, 0, none⟩), .int .i64 t, op7 12 a b c d e f, res5 er fd ke va cn] w fun q w' => q = .returned (.bool (true)) ∧ ∃ p', RMUp w p cf { s with th := s.th.set t (x.after ke) } p' w' := by
  have HER := Lib.hid (And.intro her (And.intro hfd hcn))
  have hal0 : al = false := by rw [← hal, her, hfd, hcn]; simp [eqR]
  have HAL2 := Lib.hid hal0
  clear her hfd hcn hal0
  have HH := Lib.hid (fun W => rhas_any x.lo x.hi ke W)
  rw [show (decide (x.lo ≤ ke) && decide (ke ≤ x.hi)) = true by simp [hh.1, hh.2]] at HH
  have HHH := Lib.hid (And.intro hh (And.intro hk (And.intro hmo hhi)))
  clear hh hk hmo hhi
  have HRF := Lib.hid (fun W (hn : Nw w W) => rrefusal_any W p cf s (h.nw hn) t ⟨12, a, b, c, d, e, f⟩ hw)
  have HFL := Lib.hid (fun W (hn : Nw w W) => rfull_any W p cf s (h.nw hn) hl ⟨12, a, b, c, d, e, f⟩ hw hc)
  rw [hr] at HRF
  unfold opV at HRF HFL
  simp only at HRF HFL
  have H := Lib.hid h
  have HT := Lib.hid ht
  have HGV := Lib.hid hgv
  have im := h.im
  have it := h.it
  have p0 := (List.getElem?_eq_some_iff.1 ht).1
  obtain ⟨gm, hgm⟩ : ∃ g, g = p.gm := ⟨_, rfl⟩
  obtain ⟨gt, hgt⟩ : ∃ g, g = p.gt := ⟨_, rfl⟩
  have HGM := Lib.hid hgm
  have HGT := Lib.hid hgt
  rw [← hgm] at im HRF HFL ⊢
  rw [← hgt] at it
  haveI : In gm w := ⟨im⟩
  have t1 : (t : Int) < (s.th.length : Int) := by omega
  have t0 : (0 : Int) ≤ (t : Int) := by omega
  obtain ⟨n, hn⟩ : ∃ n, n = s.th.length := ⟨_, rfl⟩
  rw [← hn] at t1
  have HN := Lib.hid hn
  obtain ⟨W2, hW2⟩ : ∃ W2, W2 = (w.alloc (.cells #[.int .u8 12, .int .u64 a, .int .u64 b, .int .u64 c, .int .u64 d, .int .u64 e, .int .u64 f] 40)).alloc (.cells #[.int .i64 er, .bool fd, .int .u64 ke, .int .u64 va, .int .i64 cn] 42) := ⟨_, rfl⟩
  have hn2 : Nw w W2 := by rw [hW2]; exact (by repeat (first | exact Xt.Nw.refl _ | refine Xt.Nw.drew ?_ | refine Xt.Nw.drewN ?_ _ | refine Xt.Nw.alloc ?_ _ | refine Xt.Nw.joined ?_ | refine Xt.Nw.drewd ?_ | refine Xt.Nw.drewdN ?_ | refine Xt.Nw.ext ?_ | refine Xt.Nw.ext_some ?_ (by assumption) | refine Xt.Nw.setCell ?_ (by simp [go_sem] <;> omega) _))
  have q0 : W2.cell? ⟨w.heap.size, 0, none⟩ = some (.int .u8 12) := by rw [hW2]; simp [go_sem]
  have q1 : W2.cell? ⟨w.heap.size, 1, none⟩ = some (.int .u64 a) := by rw [hW2]; simp [go_sem]
  have q2 : W2.cell? ⟨w.heap.size, 2, none⟩ = some (.int .u64 b) := by rw [hW2]; simp [go_sem]
  have q3 : W2.cell? ⟨w.heap.size, 3, none⟩ = some (.int .u64 c) := by rw [hW2]; simp [go_sem]
  have q4 : W2.cell? ⟨w.heap.size, 4, none⟩ = some (.int .u64 d) := by rw [hW2]; simp [go_sem]
  have q5 : W2.cell? ⟨w.heap.size, 5, none⟩ = some (.int .u64 e) := by rw [hW2]; simp [go_sem]
  have q6 : W2.cell? ⟨w.heap.size, 6, none⟩ = some (.int .u64 f) := by rw [hW2]; simp [go_sem]
  have r0 : W2.cell? ⟨w.heap.size + 1, 0, none⟩ = some (.int .i64 er) := by rw [hW2]; simp [go_sem]
  have r1 : W2.cell? ⟨w.heap.size + 1, 1, none⟩ = some (.bool fd) := by rw [hW2]; simp [go_sem]
  have r2 : W2.cell? ⟨w.heap.size + 1, 2, none⟩ = some (.int .u64 ke) := by rw [hW2]; simp [go_sem]
  have r3 : W2.cell? ⟨w.heap.size + 1, 3, none⟩ = some (.int .u64 va) := by rw [hW2]; simp [go_sem]
  have r4 : W2.cell? ⟨w.heap.size + 1, 4, none⟩ = some (.int .i64 cn) := by rw [hW2]; simp [go_sem]
  have hs2 : W2.heap.size = w.heap.size + 2 := by rw [hW2]; simp
  have HN2 := Lib.hid hn2
  have HW2 := Lib.hid hW2
  have HS2 := Lib.hid hs2
  clear h hl hw hgm hgt hr hc ht hn2 hW2 hs2 hn p0 hgv
  go_enter Tryz.func10, Tryz.ntmps10
  go_upto_region 3 with (fail)
  rw [← HW2.out]
  go_wp2_with fail
  refine (HRF.out W2 HN2.out).mono ?_
  rintro r W3 ⟨rfl, hn3⟩
  replace q0 := cell_nw q0 hn3
  replace q1 := cell_nw q1 hn3
  replace q2 := cell_nw q2 hn3
  replace q3 := cell_nw q3 hn3
  replace q4 := cell_nw q4 hn3
  replace q5 := cell_nw q5 hn3
  replace q6 := cell_nw q6 hn3
  replace r0 := cell_nw r0 hn3
  replace r1 := cell_nw r1 hn3
  replace r2 := cell_nw r2 hn3
  replace r3 := cell_nw r3 hn3
  replace r4 := cell_nw r4 hn3
  have HN3 := Lib.hid (HN2.out.trans hn3)
  have HS3 := Lib.hid (Nat.le_trans (Nat.le_of_eq HS2.out.symm) hn3.grown.size)
  haveI : In w.heap.size W3 := ⟨World.block_lt_of_cell? W3 _ q0⟩
  haveI : In (w.heap.size + 1) W3 := ⟨World.block_lt_of_cell? W3 _ r0⟩
  have h3 := H.out.nw HN3.out
  have im3 : gm < W3.heap.size := by rw [HGM.out]; exact h3.im
  have it3 : gt < W3.heap.size := by rw [HGT.out]; exact h3.it
  haveI : In gm W3 := ⟨im3⟩
  haveI : In gt W3 := ⟨it3⟩
  have H3 := Lib.hid h3
  have HIM := Lib.hid im
  have HIT := Lib.hid it
  clear hn3 h3 im it im3 it3
  go_upto_region 7 with (fail)
  go_cut [61] (fun v wx => v = .bool (al && gv) ∧ Nw W3 wx)
  case first =>
    cases al with
    | false =>
      go_wp2
      go_meet
      exact ⟨by simp, (by repeat (first | exact Xt.Nw.refl _ | refine Xt.Nw.drew ?_ | refine Xt.Nw.drewN ?_ _ | refine Xt.Nw.alloc ?_ _ | refine Xt.Nw.joined ?_ | refine Xt.Nw.drewd ?_ | refine Xt.Nw.drewdN ?_ | refine Xt.Nw.ext ?_ | refine Xt.Nw.ext_some ?_ (by assumption) | refine Xt.Nw.setCell ?_ (by simp [go_sem] <;> omega) _))⟩
    | true =>
      by_cases e11 : er = 11
      · subst e11
        have HTR := Lib.hid (fun W => rtries_any 12 W)
        obtain ⟨tv, htv⟩ : ∃ tv, tv = triesB 12 := ⟨_, rfl⟩
        rw [← htv] at HTR
        have HTV := Lib.hid htv
        clear htv
        cases tv
        all_goals
          go_wp2_with (go_at_call 27; refine (HTR.out _).mono ?_; rintro e w' ⟨rfl, dW, rfl⟩)
          go_meet
          refine ⟨?_, (by repeat (first | exact Xt.Nw.refl _ | refine Xt.Nw.drew ?_ | refine Xt.Nw.drewN ?_ _ | refine Xt.Nw.alloc ?_ _ | refine Xt.Nw.joined ?_ | refine Xt.Nw.drewd ?_ | refine Xt.Nw.drewdN ?_ | refine Xt.Nw.ext ?_ | refine Xt.Nw.ext_some ?_ (by assumption) | refine Xt.Nw.setCell ?_ (by simp [go_sem] <;> omega) _))⟩
          rw [← HGV.out, rgives_11, ← HTV.out]; simp
      by_cases e6 : er = 6
      · subst e6
        rw [HGV.out] at HFL
        cases gv
        all_goals
          go_wp2_with (go_at_call 28; refine (HFL.out _ (HN3.out.trans ((by repeat (first | exact Xt.Nw.refl _ | refine Xt.Nw.drew ?_ | refine Xt.Nw.drewN ?_ _ | refine Xt.Nw.alloc ?_ _ | refine Xt.Nw.joined ?_ | refine Xt.Nw.drewd ?_ | refine Xt.Nw.drewdN ?_ | refine Xt.Nw.ext ?_ | refine Xt.Nw.ext_some ?_ (by assumption) | refine Xt.Nw.setCell ?_ (by simp [go_sem] <;> omega) _))))).mono ?_; rintro e w' ⟨rfl, dW, rfl⟩)
          go_meet
          exact ⟨by simp, (by repeat (first | exact Xt.Nw.refl _ | refine Xt.Nw.drew ?_ | refine Xt.Nw.drewN ?_ _ | refine Xt.Nw.alloc ?_ _ | refine Xt.Nw.joined ?_ | refine Xt.Nw.drewd ?_ | refine Xt.Nw.drewdN ?_ | refine Xt.Nw.ext ?_ | refine Xt.Nw.ext_some ?_ (by assumption) | refine Xt.Nw.setCell ?_ (by simp [go_sem] <;> omega) _))⟩
      by_cases e10 : er = 10
      · subst e10
        go_wp2
        go_meet
        refine ⟨?_, (by repeat (first | exact Xt.Nw.refl _ | refine Xt.Nw.drew ?_ | refine Xt.Nw.drewN ?_ _ | refine Xt.Nw.alloc ?_ _ | refine Xt.Nw.joined ?_ | refine Xt.Nw.drewd ?_ | refine Xt.Nw.drewdN ?_ | refine Xt.Nw.ext ?_ | refine Xt.Nw.ext_some ?_ (by assumption) | refine Xt.Nw.setCell ?_ (by simp [go_sem] <;> omega) _))⟩
        rw [← HGV.out, rgives_10]; simp
      · have d11 : (er == 11) = false := by simpa using e11
        have d6 : (er == 6) = false := by simpa using e6
        have d10 : (er == 10) = false := by simpa using e10
        have HNO := Lib.hid (rgives_no (s := s) (x := ⟨12, a, b, c, d, e, f⟩) e11 e6 e10)
        clear e11 e6 e10
        go_wp2
        go_meet
        refine ⟨?_, (by repeat (first | exact Xt.Nw.refl _ | refine Xt.Nw.drew ?_ | refine Xt.Nw.drewN ?_ _ | refine Xt.Nw.alloc ?_ _ | refine Xt.Nw.joined ?_ | refine Xt.Nw.drewd ?_ | refine Xt.Nw.drewdN ?_ | refine Xt.Nw.ext ?_ | refine Xt.Nw.ext_some ?_ (by assumption) | refine Xt.Nw.setCell ?_ (by simp [go_sem] <;> omega) _))⟩
        rw [← HGV.out, HNO.out]; simp
  case rest =>
    obtain ⟨hv, dX, rfl⟩ := hcut
    clear HFL HRF
    rw [hq] at hv
    subst hv
    have m2 : ∃ ct, W3.cell? ⟨gm, 17, none⟩ = some (.slice (some ⟨gt, 0, none⟩) n ct) := by rw [HGM.out, HGT.out, HN.out]; exact H3.out.m2
    obtain ⟨ct, m2⟩ := m2
    have hth : RThR W3 gt s.th := by rw [HGT.out]; exact H3.out.th
    obtain ⟨c0, c1, c2, c3, c4⟩ := hth.cells HT.out
    have y2 : W3.frozen? ⟨gt, t * 5 + 2, none⟩ = false := hth.frozen _
    have y3 : W3.frozen? ⟨gt, t * 5 + 3, none⟩ = false := hth.frozen _
    have y4 : W3.frozen? ⟨gt, t * 5 + 3 + 1, none⟩ = false := hth.frozen _
    have HTH := Lib.hid hth
    clear hth
    clear hq hal
    obtain rfl : er = 0 := HER.out.1
    obtain rfl : fd = true := HER.out.2.1
    obtain rfl : cn = 0 := HER.out.2.2
    obtain rfl : al = false := HAL2.out
    obtain ⟨hh, hk, hmo, hhi⟩ := HHH.out
    have HAF := Lib.hid (fun W (hn : Nw W3 W) => rafter_any W gt s.th (RThR.nw HTH.out hn) t x HT.out ke hk.1 hhi)
    rw [← Th.after_in hmo hh.1 hh.2 hhi] at HAF
    clear hh hk hmo hhi
    go_upto_region 14 with (fail)
    (refine wp_region_nw (by kernel_rfl) (by kernel_rfl) ?_; (repeat (go_big_quiet_step ((go_at_call 29; exact quiet_of (HH.out _))))); refine wpQuiet_nil ?_; intro _ hreg; obtain ⟨dW, rfl⟩ : Nw _ _ := hreg)
    go_wp2_with fail
    obtain ⟨W4, hW4⟩ : ∃ W4, W4 = (W3.ext none dX).ext none dW := ⟨_, rfl⟩
    have hn4 : Nw W3 W4 := by rw [hW4]; exact (by repeat (first | exact Xt.Nw.refl _ | refine Xt.Nw.drew ?_ | refine Xt.Nw.drewN ?_ _ | refine Xt.Nw.alloc ?_ _ | refine Xt.Nw.joined ?_ | refine Xt.Nw.drewd ?_ | refine Xt.Nw.drewdN ?_ | refine Xt.Nw.ext ?_ | refine Xt.Nw.ext_some ?_ (by assumption) | refine Xt.Nw.setCell ?_ (by simp [go_sem] <;> omega) _))
    rw [← hW4]
    refine (HAF.out W4 hn4).mono ?_
    rintro r W5 ⟨rfl, hth, hch⟩
    have h4 : RAt W4 p cf s := H3.out.nw hn4
    have hu := Lib.hid (RMUp.after (HN3.out.trans hn4) (RMUp.ths (th' := s.th.set t (x.after ke)) h4 (by simp) (by rw [← HGT.out]; exact hth) (by rw [← HGT.out]; exact hch)))
    clear hth hch h4 hn4 hW4
    go_wp2
    go_ret
    exact ⟨rfl, _, hu.out⟩
set_option maxRecDepth 20000 in
set_option maxHeartbeats 16000000 in
theorem racc_no (w : World) (p : Pl) (cf : Cf) (s : Md) (h : RAt w p cf s) (hl : s.l.length ≤ 400000) (t : Nat) (k : Int) (a b c d e f er : Int) (fd : Bool) (ke va cn : Int) (hw : Ox.Wf ⟨k, a, b, c, d, e, f⟩) (x : Th) (ht : s.th[t]? = some x) (hr : refM s t ⟨k, a, b, c, d, e, f⟩ = 0) (hc : chkO ⟨k, a, b, c, d, e, f⟩ = 0) (al gv : Bool) (hal : eqR er fd ke va cn er false 0 0 0 = al) (hgv : givesM s ⟨k, a, b, c, d, e, f⟩ er = gv) (hq : (al && gv) = false) {N : Nat} (hok : s.Ok N) (hN : N ≤ 400000) (h12 : k ≠ 12) (h15 : k ≠ 15) (hre : refE x ⟨k, a, b, c, d, e, f⟩ = 0) (e2 : Int) (f2 : Bool) (k2 v2 c2 : Int) (s2 : Md) (hP : perfM s t x ⟨k, a, b, c, d, e, f⟩ = (⟨e2, f2, k2, v2, c2⟩, s2)) (hb : eqR e2 f2 k2 v2 c2 er fd ke va cn = false) :
    Calls Tryz.prog 10 #[.pointer (some ⟨p.gm, 0, none⟩), .int .i64 t, op7 k a b c d e f, res5 er fd ke va cn] w fun q w' => q = .returned (.bool (false)) ∧ ∃ p', RMUp w p cf s p' w' := by
  have HRF := Lib.hid (fun W (hn : Nw w W) => rrefusal_any W p cf s (h.nw hn) t ⟨k, a, b, c, d, e, f⟩ hw)
  have HFL := Lib.hid (fun W (hn : Nw w W) => rfull_any W p cf s (h.nw hn) hl ⟨k, a, b, c, d, e, f⟩ hw hc)
  rw [hr] at HRF
  unfold opV at HRF HFL
  simp only at HRF HFL
  have H := Lib.hid h
  have ht0 : 0 < s.th.length := by have := (List.getElem?_eq_some_iff.1 ht).1; omega
  have HCP := Lib.hid (fun W (hn : Nw w W) => rcopy_M W p cf s (h.nw hn) (by omega) ht0 hok.thn)
  have HPF := Lib.hid (fun (W : World) (q : Pl) (hq : RAt W q cf s) => rdo_done W q cf s hq hok hN t x ht ⟨k, a, b, c, d, e, f⟩ hw hr hc hre)
  rw [hP] at HPF
  unfold opV resV at HPF
  simp only at HPF
  have k12 : (k == 12) = false := by simpa using h12
  have k15 : (k == 15) = false := by simpa using h15
  clear hok hN h12 h15 hre hP ht0
  have HT := Lib.hid ht
  have HGV := Lib.hid hgv
  have im := h.im
  have it := h.it
  have p0 := (List.getElem?_eq_some_iff.1 ht).1
  obtain ⟨gm, hgm⟩ : ∃ g, g = p.gm := ⟨_, rfl⟩
  obtain ⟨gt, hgt⟩ : ∃ g, g = p.gt := ⟨_, rfl⟩
  have HGM := Lib.hid hgm
  have HGT := Lib.hid hgt
  rw [← hgm] at im HRF HFL HCP ⊢
  rw [← hgt] at it
  haveI : In gm w := ⟨im⟩
  have t1 : (t : Int) < (s.th.length : Int) := by omega
  have t0 : (0 : Int) ≤ (t : Int) := by omega
  obtain ⟨n, hn⟩ : ∃ n, n = s.th.length := ⟨_, rfl⟩
  rw [← hn] at t1
  have HN := Lib.hid hn
  obtain ⟨W2, hW2⟩ : ∃ W2, W2 = (w.alloc (.cells #[.int .u8 k, .int .u64 a, .int .u64 b, .int .u64 c, .int .u64 d, .int .u64 e, .int .u64 f] 40)).alloc (.cells #[.int .i64 er, .bool fd, .int .u64 ke, .int .u64 va, .int .i64 cn] 42) := ⟨_, rfl⟩
  have hn2 : Nw w W2 := by rw [hW2]; exact (by repeat (first | exact Xt.Nw.refl _ | refine Xt.Nw.drew ?_ | refine Xt.Nw.drewN ?_ _ | refine Xt.Nw.alloc ?_ _ | refine Xt.Nw.joined ?_ | refine Xt.Nw.drewd ?_ | refine Xt.Nw.drewdN ?_ | refine Xt.Nw.ext ?_ | refine Xt.Nw.ext_some ?_ (by assumption) | refine Xt.Nw.setCell ?_ (by simp [go_sem] <;> omega) _))
  have q0 : W2.cell? ⟨w.heap.size, 0, none⟩ = some (.int .u8 k) := by rw [hW2]; simp [go_sem]
  have q1 : W2.cell? ⟨w.heap.size, 1, none⟩ = some (.int .u64 a) := by rw [hW2]; simp [go_sem]
  have q2 : W2.cell? ⟨w.heap.size, 2, none⟩ = some (.int .u64 b) := by rw [hW2]; simp [go_sem]
  have q3 : W2.cell? ⟨w.heap.size, 3, none⟩ = some (.int .u64 c) := by rw [hW2]; simp [go_sem]
  have q4 : W2.cell? ⟨w.heap.size, 4, none⟩ = some (.int .u64 d) := by rw [hW2]; simp [go_sem]
  have q5 : W2.cell? ⟨w.heap.size, 5, none⟩ = some (.int .u64 e) := by rw [hW2]; simp [go_sem]
  have q6 : W2.cell? ⟨w.heap.size, 6, none⟩ = some (.int .u64 f) := by rw [hW2]; simp [go_sem]
  have r0 : W2.cell? ⟨w.heap.size + 1, 0, none⟩ = some (.int .i64 er) := by rw [hW2]; simp [go_sem]
  have r1 : W2.cell? ⟨w.heap.size + 1, 1, none⟩ = some (.bool fd) := by rw [hW2]; simp [go_sem]
  have r2 : W2.cell? ⟨w.heap.size + 1, 2, none⟩ = some (.int .u64 ke) := by rw [hW2]; simp [go_sem]
  have r3 : W2.cell? ⟨w.heap.size + 1, 3, none⟩ = some (.int .u64 va) := by rw [hW2]; simp [go_sem]
  have r4 : W2.cell? ⟨w.heap.size + 1, 4, none⟩ = some (.int .i64 cn) := by rw [hW2]; simp [go_sem]
  have hs2 : W2.heap.size = w.heap.size + 2 := by rw [hW2]; simp
  have HN2 := Lib.hid hn2
  have HW2 := Lib.hid hW2
  have HS2 := Lib.hid hs2
  clear h hl hw hgm hgt hr hc ht hn2 hW2 hs2 hn p0 hgv
  go_enter Tryz.func10, Tryz.ntmps10
  go_upto_region 3 with (fail)
  rw [← HW2.out]
  go_wp2_with fail
  refine (HRF.out W2 HN2.out).mono ?_
  rintro r W3 ⟨rfl, hn3⟩
  replace q0 := cell_nw q0 hn3
  replace q1 := cell_nw q1 hn3
  replace q2 := cell_nw q2 hn3
  replace q3 := cell_nw q3 hn3
  replace q4 := cell_nw q4 hn3
  replace q5 := cell_nw q5 hn3
  replace q6 := cell_nw q6 hn3
  replace r0 := cell_nw r0 hn3
  replace r1 := cell_nw r1 hn3
  replace r2 := cell_nw r2 hn3
  replace r3 := cell_nw r3 hn3
  replace r4 := cell_nw r4 hn3
  have HN3 := Lib.hid (HN2.out.trans hn3)
  have HS3 := Lib.hid (Nat.le_trans (Nat.le_of_eq HS2.out.symm) hn3.grown.size)
  haveI : In w.heap.size W3 := ⟨World.block_lt_of_cell? W3 _ q0⟩
  haveI : In (w.heap.size + 1) W3 := ⟨World.block_lt_of_cell? W3 _ r0⟩
  have h3 := H.out.nw HN3.out
  have im3 : gm < W3.heap.size := by rw [HGM.out]; exact h3.im
  have it3 : gt < W3.heap.size := by rw [HGT.out]; exact h3.it
  haveI : In gm W3 := ⟨im3⟩
  haveI : In gt W3 := ⟨it3⟩
  have H3 := Lib.hid h3
  have HIM := Lib.hid im
  have HIT := Lib.hid it
  clear hn3 h3 im it im3 it3
  go_upto_region 7 with (fail)
  go_cut [61] (fun v wx => v = .bool (al && gv) ∧ Nw W3 wx)
  case first =>
    cases al with
    | false =>
      go_wp2
      go_meet
      exact ⟨by simp, (by repeat (first | exact Xt.Nw.refl _ | refine Xt.Nw.drew ?_ | refine Xt.Nw.drewN ?_ _ | refine Xt.Nw.alloc ?_ _ | refine Xt.Nw.joined ?_ | refine Xt.Nw.drewd ?_ | refine Xt.Nw.drewdN ?_ | refine Xt.Nw.ext ?_ | refine Xt.Nw.ext_some ?_ (by assumption) | refine Xt.Nw.setCell ?_ (by simp [go_sem] <;> omega) _))⟩
    | true =>
      by_cases e11 : er = 11
      · subst e11
        have HTR := Lib.hid (fun W => rtries_any k W)
        obtain ⟨tv, htv⟩ : ∃ tv, tv = triesB k := ⟨_, rfl⟩
        rw [← htv] at HTR
        have HTV := Lib.hid htv
        clear htv
        cases tv
        all_goals
          go_wp2_with (go_at_call 27; refine (HTR.out _).mono ?_; rintro e w' ⟨rfl, dW, rfl⟩)
          go_meet
          refine ⟨?_, (by repeat (first | exact Xt.Nw.refl _ | refine Xt.Nw.drew ?_ | refine Xt.Nw.drewN ?_ _ | refine Xt.Nw.alloc ?_ _ | refine Xt.Nw.joined ?_ | refine Xt.Nw.drewd ?_ | refine Xt.Nw.drewdN ?_ | refine Xt.Nw.ext ?_ | refine Xt.Nw.ext_some ?_ (by assumption) | refine Xt.Nw.setCell ?_ (by simp [go_sem] <;> omega) _))⟩
          rw [← HGV.out, rgives_11, ← HTV.out]; simp
      by_cases e6 : er = 6
      · subst e6
        rw [HGV.out] at HFL
        cases gv
        all_goals
          go_wp2_with (go_at_call 28; refine (HFL.out _ (HN3.out.trans ((by repeat (first | exact Xt.Nw.refl _ | refine Xt.Nw.drew ?_ | refine Xt.Nw.drewN ?_ _ | refine Xt.Nw.alloc ?_ _ | refine Xt.Nw.joined ?_ | refine Xt.Nw.drewd ?_ | refine Xt.Nw.drewdN ?_ | refine Xt.Nw.ext ?_ | refine Xt.Nw.ext_some ?_ (by assumption) | refine Xt.Nw.setCell ?_ (by simp [go_sem] <;> omega) _))))).mono ?_; rintro e w' ⟨rfl, dW, rfl⟩)
          go_meet
          exact ⟨by simp, (by repeat (first | exact Xt.Nw.refl _ | refine Xt.Nw.drew ?_ | refine Xt.Nw.drewN ?_ _ | refine Xt.Nw.alloc ?_ _ | refine Xt.Nw.joined ?_ | refine Xt.Nw.drewd ?_ | refine Xt.Nw.drewdN ?_ | refine Xt.Nw.ext ?_ | refine Xt.Nw.ext_some ?_ (by assumption) | refine Xt.Nw.setCell ?_ (by simp [go_sem] <;> omega) _))⟩
      by_cases e10 : er = 10
      · subst e10
        by_cases hk1 : (k : Int) = 1
        · have d1 : ((k : Int) == 1) = true := by simpa using hk1
          go_wp2
          go_meet
          refine ⟨?_, (by repeat (first | exact Xt.Nw.refl _ | refine Xt.Nw.drew ?_ | refine Xt.Nw.drewN ?_ _ | refine Xt.Nw.alloc ?_ _ | refine Xt.Nw.joined ?_ | refine Xt.Nw.drewd ?_ | refine Xt.Nw.drewdN ?_ | refine Xt.Nw.ext ?_ | refine Xt.Nw.ext_some ?_ (by assumption) | refine Xt.Nw.setCell ?_ (by simp [go_sem] <;> omega) _))⟩
          rw [← HGV.out, rgives_10]; simp [d1]
        · have d1 : ((k : Int) == 1) = false := by simpa using hk1
          go_wp2
          go_meet
          refine ⟨?_, (by repeat (first | exact Xt.Nw.refl _ | refine Xt.Nw.drew ?_ | refine Xt.Nw.drewN ?_ _ | refine Xt.Nw.alloc ?_ _ | refine Xt.Nw.joined ?_ | refine Xt.Nw.drewd ?_ | refine Xt.Nw.drewdN ?_ | refine Xt.Nw.ext ?_ | refine Xt.Nw.ext_some ?_ (by assumption) | refine Xt.Nw.setCell ?_ (by simp [go_sem] <;> omega) _))⟩
          rw [← HGV.out, rgives_10]; simp [d1]
      · have d11 : (er == 11) = false := by simpa using e11
        have d6 : (er == 6) = false := by simpa using e6
        have d10 : (er == 10) = false := by simpa using e10
        have HNO := Lib.hid (rgives_no (s := s) (x := ⟨k, a, b, c, d, e, f⟩) e11 e6 e10)
        clear e11 e6 e10
        go_wp2
        go_meet
        refine ⟨?_, (by repeat (first | exact Xt.Nw.refl _ | refine Xt.Nw.drew ?_ | refine Xt.Nw.drewN ?_ _ | refine Xt.Nw.alloc ?_ _ | refine Xt.Nw.joined ?_ | refine Xt.Nw.drewd ?_ | refine Xt.Nw.drewdN ?_ | refine Xt.Nw.ext ?_ | refine Xt.Nw.ext_some ?_ (by assumption) | refine Xt.Nw.setCell ?_ (by simp [go_sem] <;> omega) _))⟩
        rw [← HGV.out, HNO.out]; simp
  case rest =>
    obtain ⟨hv, dX, rfl⟩ := hcut
    clear HFL HRF
    rw [hq] at hv
    subst hv
    have m2 : ∃ ct, W3.cell? ⟨gm, 17, none⟩ = some (.slice (some ⟨gt, 0, none⟩) n ct) := by rw [HGM.out, HGT.out, HN.out]; exact H3.out.m2
    obtain ⟨ct, m2⟩ := m2
    clear hq hal
    go_wp2_with fail
    refine (HCP.out _ (HN3.out.trans (by repeat (first | exact Xt.Nw.refl _ | refine Xt.Nw.drew ?_ | refine Xt.Nw.drewN ?_ _ | refine Xt.Nw.alloc ?_ _ | refine Xt.Nw.joined ?_ | refine Xt.Nw.drewd ?_ | refine Xt.Nw.drewdN ?_ | refine Xt.Nw.ext ?_ | refine Xt.Nw.ext_some ?_ (by assumption) | refine Xt.Nw.setCell ?_ (by simp [go_sem] <;> omega) _)))).mono ?_
    rintro r W5 ⟨pc, rfl, hat, hft, hn5'⟩
    have hn5 : Nw W3 W5 := Nw.trans ⟨_, rfl⟩ hn5'
    have hsz := le_size W3 none dX
    replace q0 := cell_nw q0 hn5
    replace q1 := cell_nw q1 hn5
    replace q2 := cell_nw q2 hn5
    replace q3 := cell_nw q3 hn5
    replace q4 := cell_nw q4 hn5
    replace q5 := cell_nw q5 hn5
    replace q6 := cell_nw q6 hn5
    replace r0 := cell_nw r0 hn5
    replace r1 := cell_nw r1 hn5
    replace r2 := cell_nw r2 hn5
    replace r3 := cell_nw r3 hn5
    replace r4 := cell_nw r4 hn5
    have HAT := Lib.hid hat
    have hf1 : w.heap.size ∉ pc.foot := fun e => by have h1 := hft _ e; have h2 := HS3.out; omega
    have hf2 : w.heap.size + 1 ∉ pc.foot := fun e => by have h1 := hft _ e; have h2 := HS3.out; omega
    have HFT := Lib.hid (fun g (hg : g ∈ pc.foot) => Nat.le_trans (Nat.le_trans (Nat.le_trans (Nat.le_add_right _ 2) HS3.out) hsz) (hft g hg))
    have HN5 := Lib.hid (HN3.out.trans hn5)
    haveI : In w.heap.size W5 := ⟨World.block_lt_of_cell? W5 _ q0⟩
    haveI : In (w.heap.size + 1) W5 := ⟨World.block_lt_of_cell? W5 _ r0⟩
    clear hn5 hn5' hft hat hsz m2
    go_wp2_with fail
    refine (HPF.out W5 pc HAT.out).mono ?_
    rintro r W6 ⟨rfl, p6, hu⟩
    replace r0 := hu.chg.cell r0 hf2
    replace r1 := hu.chg.cell r1 hf2
    replace r2 := hu.chg.cell r2 hf2
    replace r3 := hu.chg.cell r3 hf2
    replace r4 := hu.chg.cell r4 hf2
    haveI : In (w.heap.size + 1) W6 := ⟨World.block_lt_of_cell? W6 _ r0⟩
    have HN6 := Lib.hid (nw_chg2 HN5.out hu.chg HFT.out : Nw w W6)
    clear q0 q1 q2 q3 q4 q5 q6 hf1 hf2
    clear hu
    go_wp2
    go_ret
    exact ⟨rfl, _, RMUp.same H.out (HN6.out.trans ((by repeat (first | exact Xt.Nw.refl _ | refine Xt.Nw.drew ?_ | refine Xt.Nw.drewN ?_ _ | refine Xt.Nw.alloc ?_ _ | refine Xt.Nw.joined ?_ | refine Xt.Nw.drewd ?_ | refine Xt.Nw.drewdN ?_ | refine Xt.Nw.ext ?_ | refine Xt.Nw.ext_some ?_ (by assumption) | refine Xt.Nw.setCell ?_ (by simp [go_sem] <;> omega) _))))⟩
set_option maxRecDepth 20000 in
set_option maxHeartbeats 16000000 in
theorem racc_yes (w : World) (p : Pl) (cf : Cf) (s : Md) (h : RAt w p cf s) (hl : s.l.length ≤ 400000) (t : Nat) (k : Int) (a b c d e f er : Int) (fd : Bool) (ke va cn : Int) (hw : Ox.Wf ⟨k, a, b, c, d, e, f⟩) (x : Th) (ht : s.th[t]? = some x) (hr : refM s t ⟨k, a, b, c, d, e, f⟩ = 0) (hc : chkO ⟨k, a, b, c, d, e, f⟩ = 0) (al gv : Bool) (hal : eqR er fd ke va cn er false 0 0 0 = al) (hgv : givesM s ⟨k, a, b, c, d, e, f⟩ er = gv) (hq : (al && gv) = false) {N : Nat} (hok : s.Ok N) (hN : N ≤ 400000) (h12 : k ≠ 12) (h15 : k ≠ 15) (hre : refE x ⟨k, a, b, c, d, e, f⟩ = 0) (e2 : Int) (f2 : Bool) (k2 v2 c2 : Int) (s2 : Md) (hP : perfM s t x ⟨k, a, b, c, d, e, f⟩ = (⟨e2, f2, k2, v2, c2⟩, s2)) (hb : eqR e2 f2 k2 v2 c2 er fd ke va cn = true) :
    Calls Tryz.prog 10 #[.pointer (some ⟨p.gm, 0, none⟩), .int .i64 t, op7 k a b c d e f, res5 er fd ke va cn] w fun q w' => q = .returned (.bool (true)) ∧ ∃ p', RMUp w p cf s2 p' w' := by
  have HRF := Lib.hid (fun W (hn : Nw w W) => rrefusal_any W p cf s (h.nw hn) t ⟨k, a, b, c, d, e, f⟩ hw)
  have HFL := Lib.hid (fun W (hn : Nw w W) => rfull_any W p cf s (h.nw hn) hl ⟨k, a, b, c, d, e, f⟩ hw hc)
  rw [hr] at HRF
  unfold opV at HRF HFL
  simp only at HRF HFL
  have H := Lib.hid h
  have ht0 : 0 < s.th.length := by have := (List.getElem?_eq_some_iff.1 ht).1; omega
  have HCP := Lib.hid (fun W (hn : Nw w W) => rcopy_M W p cf s (h.nw hn) (by omega) ht0 hok.thn)
  have HPF := Lib.hid (fun (W : World) (q : Pl) (hq : RAt W q cf s) => rdo_done W q cf s hq hok hN t x ht ⟨k, a, b, c, d, e, f⟩ hw hr hc hre)
  rw [hP] at HPF
  unfold opV resV at HPF
  simp only at HPF
  have k12 : (k == 12) = false := by simpa using h12
  have k15 : (k == 15) = false := by simpa using h15
  clear hok hN h12 h15 hre hP ht0
  have HT := Lib.hid ht
  have HGV := Lib.hid hgv
  have im := h.im
  have it := h.it
  have p0 := (List.getElem?_eq_some_iff.1 ht).1
  obtain ⟨gm, hgm⟩ : ∃ g, g = p.gm := ⟨_, rfl⟩
  obtain ⟨gt, hgt⟩ : ∃ g, g = p.gt := ⟨_, rfl⟩
  have HGM := Lib.hid hgm
  have HGT := Lib.hid hgt
  rw [← hgm] at im HRF HFL HCP ⊢
  rw [← hgt] at it
  haveI : In gm w := ⟨im⟩
  have t1 : (t : Int) < (s.th.length : Int) := by omega
  have t0 : (0 : Int) ≤ (t : Int) := by omega
  obtain ⟨n, hn⟩ : ∃ n, n = s.th.length := ⟨_, rfl⟩
  rw [← hn] at t1
  have HN := Lib.hid hn
  obtain ⟨W2, hW2⟩ : ∃ W2, W2 = (w.alloc (.cells #[.int .u8 k, .int .u64 a, .int .u64 b, .int .u64 c, .int .u64 d, .int .u64 e, .int .u64 f] 40)).alloc (.cells #[.int .i64 er, .bool fd, .int .u64 ke, .int .u64 va, .int .i64 cn] 42) := ⟨_, rfl⟩
  have hn2 : Nw w W2 := by rw [hW2]; exact (by repeat (first | exact Xt.Nw.refl _ | refine Xt.Nw.drew ?_ | refine Xt.Nw.drewN ?_ _ | refine Xt.Nw.alloc ?_ _ | refine Xt.Nw.joined ?_ | refine Xt.Nw.drewd ?_ | refine Xt.Nw.drewdN ?_ | refine Xt.Nw.ext ?_ | refine Xt.Nw.ext_some ?_ (by assumption) | refine Xt.Nw.setCell ?_ (by simp [go_sem] <;> omega) _))
  have q0 : W2.cell? ⟨w.heap.size, 0, none⟩ = some (.int .u8 k) := by rw [hW2]; simp [go_sem]
  have q1 : W2.cell? ⟨w.heap.size, 1, none⟩ = some (.int .u64 a) := by rw [hW2]; simp [go_sem]
  have q2 : W2.cell? ⟨w.heap.size, 2, none⟩ = some (.int .u64 b) := by rw [hW2]; simp [go_sem]
  have q3 : W2.cell? ⟨w.heap.size, 3, none⟩ = some (.int .u64 c) := by rw [hW2]; simp [go_sem]
  have q4 : W2.cell? ⟨w.heap.size, 4, none⟩ = some (.int .u64 d) := by rw [hW2]; simp [go_sem]
  have q5 : W2.cell? ⟨w.heap.size, 5, none⟩ = some (.int .u64 e) := by rw [hW2]; simp [go_sem]
  have q6 : W2.cell? ⟨w.heap.size, 6, none⟩ = some (.int .u64 f) := by rw [hW2]; simp [go_sem]
  have r0 : W2.cell? ⟨w.heap.size + 1, 0, none⟩ = some (.int .i64 er) := by rw [hW2]; simp [go_sem]
  have r1 : W2.cell? ⟨w.heap.size + 1, 1, none⟩ = some (.bool fd) := by rw [hW2]; simp [go_sem]
  have r2 : W2.cell? ⟨w.heap.size + 1, 2, none⟩ = some (.int .u64 ke) := by rw [hW2]; simp [go_sem]
  have r3 : W2.cell? ⟨w.heap.size + 1, 3, none⟩ = some (.int .u64 va) := by rw [hW2]; simp [go_sem]
  have r4 : W2.cell? ⟨w.heap.size + 1, 4, none⟩ = some (.int .i64 cn) := by rw [hW2]; simp [go_sem]
  have hs2 : W2.heap.size = w.heap.size + 2 := by rw [hW2]; simp
  have HN2 := Lib.hid hn2
  have HW2 := Lib.hid hW2
  have HS2 := Lib.hid hs2
  clear h hl hw hgm hgt hr hc ht hn2 hW2 hs2 hn p0 hgv
  go_enter Tryz.func10, Tryz.ntmps10
  go_upto_region 3 with (fail)
  rw [← HW2.out]
  go_wp2_with fail
  refine (HRF.out W2 HN2.out).mono ?_
  rintro r W3 ⟨rfl, hn3⟩
  replace q0 := cell_nw q0 hn3
  replace q1 := cell_nw q1 hn3
  replace q2 := cell_nw q2 hn3
  replace q3 := cell_nw q3 hn3
  replace q4 := cell_nw q4 hn3
  replace q5 := cell_nw q5 hn3
  replace q6 := cell_nw q6 hn3
  replace r0 := cell_nw r0 hn3
  replace r1 := cell_nw r1 hn3
  replace r2 := cell_nw r2 hn3
  replace r3 := cell_nw r3 hn3
  replace r4 := cell_nw r4 hn3
  have HN3 := Lib.hid (HN2.out.trans hn3)
  have HS3 := Lib.hid (Nat.le_trans (Nat.le_of_eq HS2.out.symm) hn3.grown.size)
  haveI : In w.heap.size W3 := ⟨World.block_lt_of_cell? W3 _ q0⟩
  haveI : In (w.heap.size + 1) W3 := ⟨World.block_lt_of_cell? W3 _ r0⟩
  have h3 := H.out.nw HN3.out
  have im3 : gm < W3.heap.size := by rw [HGM.out]; exact h3.im
  have it3 : gt < W3.heap.size := by rw [HGT.out]; exact h3.it
  haveI : In gm W3 := ⟨im3⟩
  haveI : In gt W3 := ⟨it3⟩
  have H3 := Lib.hid h3
  have HIM := Lib.hid im
  have HIT := Lib.hid it
  clear hn3 h3 im it im3 it3
  go_upto_region 7 with (fail)
  go_cut [61] (fun v wx => v = .bool (al && gv) ∧ Nw W3 wx)
  case first =>
    cases al with
    | false =>
      go_wp2
      go_meet
      exact ⟨by simp, (by repeat (first | exact Xt.Nw.refl _ | refine Xt.Nw.drew ?_ | refine Xt.Nw.drewN ?_ _ | refine Xt.Nw.alloc ?_ _ | refine Xt.Nw.joined ?_ | refine Xt.Nw.drewd ?_ | refine Xt.Nw.drewdN ?_ | refine Xt.Nw.ext ?_ | refine Xt.Nw.ext_some ?_ (by assumption) | refine Xt.Nw.setCell ?_ (by simp [go_sem] <;> omega) _))⟩
    | true =>
      by_cases e11 : er = 11
      · subst e11
        have HTR := Lib.hid (fun W => rtries_any k W)
        obtain ⟨tv, htv⟩ : ∃ tv, tv = triesB k := ⟨_, rfl⟩
        rw [← htv] at HTR
        have HTV := Lib.hid htv
        clear htv
        cases tv
        all_goals
          go_wp2_with (go_at_call 27; refine (HTR.out _).mono ?_; rintro e w' ⟨rfl, dW, rfl⟩)
          go_meet
          refine ⟨?_, (by repeat (first | exact Xt.Nw.refl _ | refine Xt.Nw.drew ?_ | refine Xt.Nw.drewN ?_ _ | refine Xt.Nw.alloc ?_ _ | refine Xt.Nw.joined ?_ | refine Xt.Nw.drewd ?_ | refine Xt.Nw.drewdN ?_ | refine Xt.Nw.ext ?_ | refine Xt.Nw.ext_some ?_ (by assumption) | refine Xt.Nw.setCell ?_ (by simp [go_sem] <;> omega) _))⟩
          rw [← HGV.out, rgives_11, ← HTV.out]; simp
      by_cases e6 : er = 6
      · subst e6
        rw [HGV.out] at HFL
        cases gv
        all_goals
          go_wp2_with (go_at_call 28; refine (HFL.out _ (HN3.out.trans ((by repeat (first | exact Xt.Nw.refl _ | refine Xt.Nw.drew ?_ | refine Xt.Nw.drewN ?_ _ | refine Xt.Nw.alloc ?_ _ | refine Xt.Nw.joined ?_ | refine Xt.Nw.drewd ?_ | refine Xt.Nw.drewdN ?_ | refine Xt.Nw.ext ?_ | refine Xt.Nw.ext_some ?_ (by assumption) | refine Xt.Nw.setCell ?_ (by simp [go_sem] <;> omega) _))))).mono ?_; rintro e w' ⟨rfl, dW, rfl⟩)
          go_meet
          exact ⟨by simp, (by repeat (first | exact Xt.Nw.refl _ | refine Xt.Nw.drew ?_ | refine Xt.Nw.drewN ?_ _ | refine Xt.Nw.alloc ?_ _ | refine Xt.Nw.joined ?_ | refine Xt.Nw.drewd ?_ | refine Xt.Nw.drewdN ?_ | refine Xt.Nw.ext ?_ | refine Xt.Nw.ext_some ?_ (by assumption) | refine Xt.Nw.setCell ?_ (by simp [go_sem] <;> omega) _))⟩
      by_cases e10 : er = 10
      · subst e10
        by_cases hk1 : (k : Int) = 1
        · have d1 : ((k : Int) == 1) = true := by simpa using hk1
          go_wp2
          go_meet
          refine ⟨?_, (by repeat (first | exact Xt.Nw.refl _ | refine Xt.Nw.drew ?_ | refine Xt.Nw.drewN ?_ _ | refine Xt.Nw.alloc ?_ _ | refine Xt.Nw.joined ?_ | refine Xt.Nw.drewd ?_ | refine Xt.Nw.drewdN ?_ | refine Xt.Nw.ext ?_ | refine Xt.Nw.ext_some ?_ (by assumption) | refine Xt.Nw.setCell ?_ (by simp [go_sem] <;> omega) _))⟩
          rw [← HGV.out, rgives_10]; simp [d1]
        · have d1 : ((k : Int) == 1) = false := by simpa using hk1
          go_wp2
          go_meet
          refine ⟨?_, (by repeat (first | exact Xt.Nw.refl _ | refine Xt.Nw.drew ?_ | refine Xt.Nw.drewN ?_ _ | refine Xt.Nw.alloc ?_ _ | refine Xt.Nw.joined ?_ | refine Xt.Nw.drewd ?_ | refine Xt.Nw.drewdN ?_ | refine Xt.Nw.ext ?_ | refine Xt.Nw.ext_some ?_ (by assumption) | refine Xt.Nw.setCell ?_ (by simp [go_sem] <;> omega) _))⟩
          rw [← HGV.out, rgives_10]; simp [d1]
      · have d11 : (er == 11) = false := by simpa using e11
        have d6 : (er == 6) = false := by simpa using e6
        have d10 : (er == 10) = false := by simpa using e10
        have HNO := Lib.hid (rgives_no (s := s) (x := ⟨k, a, b, c, d, e, f⟩) e11 e6 e10)
        clear e11 e6 e10
        go_wp2
        go_meet
        refine ⟨?_, (by repeat (first | exact Xt.Nw.refl _ | refine Xt.Nw.drew ?_ | refine Xt.Nw.drewN ?_ _ | refine Xt.Nw.alloc ?_ _ | refine Xt.Nw.joined ?_ | refine Xt.Nw.drewd ?_ | refine Xt.Nw.drewdN ?_ | refine Xt.Nw.ext ?_ | refine Xt.Nw.ext_some ?_ (by assumption) | refine Xt.Nw.setCell ?_ (by simp [go_sem] <;> omega) _))⟩
        rw [← HGV.out, HNO.out]; simp
  case rest =>
    obtain ⟨hv, dX, rfl⟩ := hcut
    clear HFL HRF
    rw [hq] at hv
    subst hv
    have m2 : ∃ ct, W3.cell? ⟨gm, 17, none⟩ = some (.slice (some ⟨gt, 0, none⟩) n ct) := by rw [HGM.out, HGT.out, HN.out]; exact H3.out.m2
    obtain ⟨ct, m2⟩ := m2
    clear hq hal
    go_wp2_with fail
    refine (HCP.out _ (HN3.out.trans (by repeat (first | exact Xt.Nw.refl _ | refine Xt.Nw.drew ?_ | refine Xt.Nw.drewN ?_ _ | refine Xt.Nw.alloc ?_ _ | refine Xt.Nw.joined ?_ | refine Xt.Nw.drewd ?_ | refine Xt.Nw.drewdN ?_ | refine Xt.Nw.ext ?_ | refine Xt.Nw.ext_some ?_ (by assumption) | refine Xt.Nw.setCell ?_ (by simp [go_sem] <;> omega) _)))).mono ?_
    rintro r W5 ⟨pc, rfl, hat, hft, hn5'⟩
    have hn5 : Nw W3 W5 := Nw.trans ⟨_, rfl⟩ hn5'
    have hsz := le_size W3 none dX
    replace q0 := cell_nw q0 hn5
    replace q1 := cell_nw q1 hn5
    replace q2 := cell_nw q2 hn5
    replace q3 := cell_nw q3 hn5
    replace q4 := cell_nw q4 hn5
    replace q5 := cell_nw q5 hn5
    replace q6 := cell_nw q6 hn5
    replace r0 := cell_nw r0 hn5
    replace r1 := cell_nw r1 hn5
    replace r2 := cell_nw r2 hn5
    replace r3 := cell_nw r3 hn5
    replace r4 := cell_nw r4 hn5
    have HAT := Lib.hid hat
    have hf1 : w.heap.size ∉ pc.foot := fun e => by have h1 := hft _ e; have h2 := HS3.out; omega
    have hf2 : w.heap.size + 1 ∉ pc.foot := fun e => by have h1 := hft _ e; have h2 := HS3.out; omega
    have HFT := Lib.hid (fun g (hg : g ∈ pc.foot) => Nat.le_trans (Nat.le_trans (Nat.le_trans (Nat.le_add_right _ 2) HS3.out) hsz) (hft g hg))
    have HN5 := Lib.hid (HN3.out.trans hn5)
    haveI : In w.heap.size W5 := ⟨World.block_lt_of_cell? W5 _ q0⟩
    haveI : In (w.heap.size + 1) W5 := ⟨World.block_lt_of_cell? W5 _ r0⟩
    clear hn5 hn5' hft hat hsz m2
    go_wp2_with fail
    refine (HPF.out W5 pc HAT.out).mono ?_
    rintro r W6 ⟨rfl, p6, hu⟩
    replace r0 := hu.chg.cell r0 hf2
    replace r1 := hu.chg.cell r1 hf2
    replace r2 := hu.chg.cell r2 hf2
    replace r3 := hu.chg.cell r3 hf2
    replace r4 := hu.chg.cell r4 hf2
    haveI : In (w.heap.size + 1) W6 := ⟨World.block_lt_of_cell? W6 _ r0⟩
    have HN6 := Lib.hid (nw_chg2 HN5.out hu.chg HFT.out : Nw w W6)
    clear q0 q1 q2 q3 q4 q5 q6 hf1 hf2
    have hf6 : ∀ g ∈ p6.foot, w.heap.size ≤ g := fun g hg => by
      rcases hu.mv g hg with h1 | h1
      · exact HFT.out g h1
      · exact Nat.le_trans HN5.out.grown.size h1
    have h6 := hu.at'
    obtain ⟨ct2, hr6⟩ := h6.range
    have hnA : Nw W6 (W6.alloc (.cells #[.int .i64 e2, .bool f2, .int .u64 k2, .int .u64 v2, .int .i64 c2] 42)) := (Nw.refl _).alloc _
    have HST := Lib.hid (racc_store (ct := ct2) H.out (HN6.out.trans hnA) (h6.nw hnA) hf6)
    rw [hu.gm] at hr6
    rw [← HGM.out] at HST
    haveI : RmAt W6 pc.gm (mcells cf p6.gp p6.gt s2.th.length ct2) := ⟨hr6, rfl⟩
    haveI : RmTo W6 gm := ⟨by rw [HGM.out]; exact (H.out.nw HN6.out).there⟩
    haveI : In gm W6 := ⟨by rw [HGM.out]; exact (H.out.nw HN6.out).im⟩
    haveI : In pc.gm W6 := ⟨by have := h6.im; rw [hu.gm] at this; exact this⟩
    clear hu hf6 h6 hr6
    clear hnA
    go_wp2
    go_ret
    exact ⟨rfl, _, HST.out⟩
end Go.Proofs.YtahagplegmcaaaaGreat
