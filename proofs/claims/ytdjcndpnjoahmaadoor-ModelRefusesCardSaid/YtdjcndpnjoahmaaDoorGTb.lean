import Derived.Test.YtdjcndpnjoahmaaDoorGSc
import Derived.Deep.DeepCutAuto
set_option linter.unusedVariables false
set_option linter.unusedSimpArgs false
namespace Go.Proofs.YtdjcndpnjoahmaaDoor
open Go.RowKit Go.Xt
/-! The law ModelRefuses. -/
set_option maxRecDepth 20000 in
set_option maxHeartbeats 16000000 in
theorem refuses_M (A : Option Addr) (n c : Nat) (ds : List Dd) (x : Dd) (w : World) (hr : Rd w 15 A n (dcells ds)) (hw : ∀ d ∈ ds, d.o.Wf) (hx : x.o.Wf) (HF : FmtAt w) :
    Calls Tryd.prog 5 #[.slice A n c, .agg #[.int .i64 x.t, .int .u8 x.o.k, .int .u64 x.o.key, .int .u64 x.o.hi, .int .u64 x.o.val, .int .u64 x.o.old, .int .u64 x.o.by_, .int .u64 x.o.draw, .bool x.j, .int .u8 x.by_, .int .i64 x.r.err, .bool x.r.fd, .int .u64 x.r.key, .int .u64 x.r.val, .int .i64 x.r.cnt]] w fun e w' => e = .returned (.bool true) ∧ Nw w w' := by
  have HKN := Lib.hid (fun W => known_M W)
  by_cases hn : 80 < n
  · have d0 : decide ((80 : Int) < (n : Int)) = true := by simp; omega
    clear hr hw hx
    go_enter Tryd.func5, Tryd.ntmps5
    go_wp2_with (go_at_call 9; refine (HKN.out _).mono ?_; rintro e w' ⟨rfl, dW, rfl⟩)
    go_ret
    exact ⟨rfl, (by repeat (first | exact Xt.Nw.refl _ | refine Xt.Nw.drew ?_ | refine Xt.Nw.drewN ?_ _ | refine Xt.Nw.alloc ?_ _ | refine Xt.Nw.joined ?_ | refine Xt.Nw.drewd ?_ | refine Xt.Nw.drewdN ?_ | refine Xt.Nw.ext ?_ | refine Xt.Nw.ext_some ?_ (by assumption) | refine Xt.Nw.setCell ?_ (by simp [go_sem] <;> omega) _))⟩
  have d0 : decide ((80 : Int) < (n : Int)) = false := by simp; omega
  obtain ⟨xt, ⟨ok, oa, ob, oc, od, oe, of⟩, xj, xb, ⟨er, fd, rk, rv, rc⟩⟩ := x
  simp only at hx ⊢
  obtain ⟨w1, hw1⟩ : ∃ w1, w1 = w.alloc (.cells #[.int .i64 xt, .int .u8 ok, .int .u64 oa, .int .u64 ob, .int .u64 oc, .int .u64 od, .int .u64 oe, .int .u64 of, .bool xj, .int .u8 xb, .int .i64 er, .bool fd, .int .u64 rk, .int .u64 rv, .int .i64 rc] 30) := ⟨_, rfl⟩
  obtain ⟨q, hq⟩ : ∃ q, q = w.heap.size := ⟨_, rfl⟩
  have hn1 : Nw w w1 := by rw [hw1]; exact (Nw.refl w).alloc _
  have hb : w1.heap[q]? = some (.cells #[.int .i64 xt, .int .u8 ok, .int .u64 oa, .int .u64 ob, .int .u64 oc, .int .u64 od, .int .u64 oe, .int .u64 of, .bool xj, .int .u8 xb, .int .i64 er, .bool fd, .int .u64 rk, .int .u64 rv, .int .i64 rc] 30) := by rw [hw1, hq]; exact heap_alloc_new _ _
  have b0 : w1.cell? ⟨q, 0, none⟩ = some (.int .i64 xt) := by rw [Lib.cell_of_heap hb]; rfl
  have b1 : w1.cell? ⟨q, 1, none⟩ = some (.int .u8 ok) := by rw [Lib.cell_of_heap hb]; rfl
  have b2 : w1.cell? ⟨q, 2, none⟩ = some (.int .u64 oa) := by rw [Lib.cell_of_heap hb]; rfl
  have b3 : w1.cell? ⟨q, 3, none⟩ = some (.int .u64 ob) := by rw [Lib.cell_of_heap hb]; rfl
  have b4 : w1.cell? ⟨q, 4, none⟩ = some (.int .u64 oc) := by rw [Lib.cell_of_heap hb]; rfl
  have b5 : w1.cell? ⟨q, 5, none⟩ = some (.int .u64 od) := by rw [Lib.cell_of_heap hb]; rfl
  have b6 : w1.cell? ⟨q, 6, none⟩ = some (.int .u64 oe) := by rw [Lib.cell_of_heap hb]; rfl
  have b7 : w1.cell? ⟨q, 7, none⟩ = some (.int .u64 of) := by rw [Lib.cell_of_heap hb]; rfl
  have b10 : w1.cell? ⟨q, 10, none⟩ = some (.int .i64 er) := by rw [Lib.cell_of_heap hb]; rfl
  have b11 : w1.cell? ⟨q, 11, none⟩ = some (.bool fd) := by rw [Lib.cell_of_heap hb]; rfl
  have b12 : w1.cell? ⟨q, 12, none⟩ = some (.int .u64 rk) := by rw [Lib.cell_of_heap hb]; rfl
  have b13 : w1.cell? ⟨q, 13, none⟩ = some (.int .u64 rv) := by rw [Lib.cell_of_heap hb]; rfl
  have b14 : w1.cell? ⟨q, 14, none⟩ = some (.int .i64 rc) := by rw [Lib.cell_of_heap hb]; rfl
  have HPL := Lib.hid (played_L A n c ds w1 (hr.nw hn1) (by omega) hw)
  have HFM := Lib.hid (HF.nw hn1)
  have HX := Lib.hid hx
  have HW1 := Lib.hid hw1
  have HQ := Lib.hid hq
  have HNW := Lib.hid hn1
  haveI : In q w1 := ⟨World.block_lt_of_cell? w1 _ b0⟩
  clear hr hw hn hx HF hb hw1 hq hn1
  go_enter Tryd.func5, Tryd.ntmps5
  go_wp2_with fail
  rw [← HW1.out, ← HQ.out]
  refine HPL.out.mono ?_
  rintro e W1 ⟨gm, s, rfl, h1, hth⟩
  have H1 := Lib.hid h1
  obtain ⟨d1, rfl⟩ := h1.nw
  clear h1
  go_wp2_with fail
  refine (copy_Lw (i := 0) H1.out (by omega) rfl).mono ?_
  rintro e W2 ⟨ga, rfl, h2⟩
  have H2 := Lib.hid h2
  obtain ⟨d2, rfl⟩ := h2.nw
  clear h2
  go_wp2_with fail
  refine (copy_Lw (i := 0) H2.out (by omega) rfl).mono ?_
  rintro e W3 ⟨gb, rfl, h3⟩
  have H3 := Lib.hid h3
  obtain ⟨d3, rfl⟩ := h3.nw
  clear h3
  go_wp2_with fail
  refine (index_any xt _).mono ?_
  rintro e W5 ⟨rfl, hn5⟩
  have h5 := H3.out.grow hn5
  have H5 := Lib.hid h5
  obtain ⟨d5, rfl⟩ := h5.nw
  clear h5 hn5 H1 H2 H3
  obtain ⟨t, ht⟩ : ∃ t, t = idxI xt := ⟨_, rfl⟩
  rw [← ht]
  have HT := Lib.hid ht
  clear ht
  go_wp2_with fail
  have hok := (H5.out.at (i := 0) rfl)
  obtain ⟨-, -, -, hok, -, -, -⟩ := hok
  have herr := do_err (s := s) (t := t) (o := ⟨ok, oa, ob, oc, od, oe, of⟩)
  have hstl := do_still (s := s) (t := t) (o := ⟨ok, oa, ob, oc, od, oe, of⟩)
  have hret := refuses_eq s t ⟨ok, oa, ob, oc, od, oe, of⟩
  have hsam : (acceptM s t ⟨ok, oa, ob, oc, od, oe, of⟩ rRetry).2 = s := by rw [acc_retry]
  have hdon := doneM_eq s t ⟨ok, oa, ob, oc, od, oe, of⟩
  have c6 := do_Lw (i := 1) H5.out (by omega) rfl t ⟨ok, oa, ob, oc, od, oe, of⟩ HX.out
  obtain ⟨⟨⟨e1, f1, k1, v1, n1⟩, s1⟩, hd⟩ : ∃ z, z = doM s t ⟨ok, oa, ob, oc, od, oe, of⟩ := ⟨_, rfl⟩
  rw [← hd] at herr hstl hdon c6
  simp only at herr hstl hret hdon
  have HD := Lib.hid hd
  have HERR := Lib.hid herr
  have HSTL := Lib.hid hstl
  have HRET := Lib.hid hret
  have HSAM := Lib.hid hsam
  obtain ⟨dn, hdn⟩ : ∃ z, z = doneM s t ⟨ok, oa, ob, oc, od, oe, of⟩ := ⟨_, rfl⟩
  rw [← hdn] at hret
  have HRET := Lib.hid hret
  have hdon := hdn.trans hdon
  have HDON := Lib.hid hdon
  obtain ⟨us, hus⟩ : ∃ z, z = usesK ok := ⟨_, rfl⟩
  have HUS := Lib.hid hus
  clear hok herr hstl hret hsam hdon hdn hus hd
  refine Calls.mono (by exact c6) ?_
  rintro e W6 ⟨rfl, h6⟩
  have H6 := Lib.hid h6
  obtain ⟨d6, rfl⟩ := h6.nw
  clear h6 c6 H5
  obtain ⟨KA, hKA⟩ : ∃ z : ByteArray, z = ⟨(keyB s1).toArray⟩ := ⟨_, rfl⟩
  have HKA := Lib.hid hKA
  obtain ⟨KM, hKM⟩ : ∃ z : ByteArray, z = ⟨(keyB s).toArray⟩ := ⟨_, rfl⟩
  have HKM := Lib.hid hKM
  clear hKA hKM
  obtain ⟨KA, hKA⟩ : ∃ z : ByteArray, z = ⟨(keyB s1).toArray⟩ := ⟨_, rfl⟩
  have HKA := Lib.hid hKA
  obtain ⟨KM, hKM⟩ : ∃ z : ByteArray, z = ⟨(keyB s).toArray⟩ := ⟨_, rfl⟩
  have HKM := Lib.hid hKM
  clear hKA hKM
  unfold resV
  simp only
  go_wp2_with fail
  obtain ⟨gr, hgr⟩ : ∃ g, g = (w1.ext none d6).heap.size := ⟨_, rfl⟩
  obtain ⟨Wr, hWr⟩ : ∃ W, W = (w1.ext none d6).alloc (.cells #[.int .i64 e1, .bool f1, .int .u64 k1, .int .u64 v1, .int .i64 n1] 28) := ⟨_, rfl⟩
  have h7 : Lw w1 101 [(gm, s), (ga, s1), (gb, s)] [(gr, .cells #[.int .i64 e1, .bool f1, .int .u64 k1, .int .u64 v1, .int .i64 n1] 28)] Wr := Lw.keep H6.out (by rw [hWr]; exact (Nw.refl _).alloc _) (by rw [hWr, hgr]; exact heap_alloc_new _ _) (by omega)
  have H7 := Lib.hid h7
  rw [← hgr, ← hWr]
  clear h7 hgr hWr H6
  go_loopw [10] (fun a wr => ∃ i : Nat, i ≤ 3 ∧ a = .int .i64 i ∧ Hid (Lw w1 101 [(gm, s), (ga, s1), (gb, s)] [(gr, .cells #[.int .i64 e1, .bool f1, .int .u64 k1, .int .u64 v1, .int .i64 n1] 28)] wr)) (fun a _ => 3 - (intOf a).toNat)
  case atStart => exact ⟨0, by omega, rfl, H7⟩
  case round =>
    obtain ⟨i, hi, rfl, HL⟩ := hrel
    clear H7
    have c0 : wr.cell? ⟨gr, 0, none⟩ = some (.int .i64 e1) := HL.out.cell (List.mem_singleton_self _) 0
    have c1 : wr.cell? ⟨gr, 1, none⟩ = some (.bool f1) := HL.out.cell (List.mem_singleton_self _) 1
    have c2 : wr.cell? ⟨gr, 2, none⟩ = some (.int .u64 k1) := HL.out.cell (List.mem_singleton_self _) 2
    have c3 : wr.cell? ⟨gr, 3, none⟩ = some (.int .u64 v1) := HL.out.cell (List.mem_singleton_self _) 3
    have c4 : wr.cell? ⟨gr, 4, none⟩ = some (.int .i64 n1) := HL.out.cell (List.mem_singleton_self _) 4
    haveI : In gr wr := ⟨World.block_lt_of_cell? wr _ c0⟩
    by_cases hi3 : i < 3
    · have i0 : (0 : Int) ≤ (i : Int) := by omega
      have i1 : (i : Int) < 3 := by omega
      have HI3 := Lib.hid hi3
      clear hi3
      by_cases he : e1 = 0
      · have d1 : (e1 != 0) = false := by simpa using he
        clear he
        go_wp2
        exact ⟨⟨i + 1, by have := HI3.out; omega, by go_num, HL⟩, by have := HI3.out; simp [intOf]; omega⟩
      · have d1 : (e1 != 0) = true := by simpa using he
        have hse := (HERR.out he).2.1 i
        obtain ⟨sb, hsb⟩ : ∃ z, z = (ofM s i).se := ⟨_, rfl⟩
        have HS := Lib.hid (hse.trans hsb.symm)
        have HSB := Lib.hid hsb
        have S1 := Lib.hid (fun W (hW : Nw wr W) => sess_Lw (i := 1) (HL.out.grow hW) rfl i)
        have S2 := Lib.hid (fun W (hW : Nw wr W) => sess_Lw (i := 0) (HL.out.grow hW) rfl i)
        rw [HS.out] at S1
        rw [← HSB.out] at S2
        clear he hse hsb
        go_wp2_with fail
        refine (S1.out _ ((by repeat (first | exact Xt.Nw.refl _ | refine Xt.Nw.drew ?_ | refine Xt.Nw.drewN ?_ _ | refine Xt.Nw.alloc ?_ _ | refine Xt.Nw.joined ?_ | refine Xt.Nw.drewd ?_ | refine Xt.Nw.drewdN ?_ | refine Xt.Nw.ext ?_ | refine Xt.Nw.ext_some ?_ (by assumption) | refine Xt.Nw.setCell ?_ (by simp [go_sem] <;> omega) _)))).mono ?_
        rintro e W8 ⟨rfl, d8, rfl⟩
        go_wp2_with fail
        refine (S2.out _ ((by repeat (first | exact Xt.Nw.refl _ | refine Xt.Nw.drew ?_ | refine Xt.Nw.drewN ?_ _ | refine Xt.Nw.alloc ?_ _ | refine Xt.Nw.joined ?_ | refine Xt.Nw.drewd ?_ | refine Xt.Nw.drewdN ?_ | refine Xt.Nw.ext ?_ | refine Xt.Nw.ext_some ?_ (by assumption) | refine Xt.Nw.setCell ?_ (by simp [go_sem] <;> omega) _)))).mono ?_
        rintro e W9 ⟨rfl, d9, rfl⟩
        have HL9 := Lib.hid (HL.out.grow ((by repeat (first | exact Xt.Nw.refl _ | refine Xt.Nw.drew ?_ | refine Xt.Nw.drewN ?_ _ | refine Xt.Nw.alloc ?_ _ | refine Xt.Nw.joined ?_ | refine Xt.Nw.drewd ?_ | refine Xt.Nw.drewdN ?_ | refine Xt.Nw.ext ?_ | refine Xt.Nw.ext_some ?_ (by assumption) | refine Xt.Nw.setCell ?_ (by simp [go_sem] <;> omega) _)) : Nw wr ((wr.ext none d8).ext none d9)))
        go_wp2
        exact ⟨⟨i + 1, by have := HI3.out; omega, by go_num, HL9⟩, by have := HI3.out; simp [intOf]; omega⟩
    · have i3 : i = 3 := by omega
      subst i3
      clear hi hi3
      go_upto_region 14 with (fail)
      obtain ⟨d9, rfl⟩ := HL.out.nw
      obtain ⟨W9, hW9⟩ : ∃ W9, W9 = w1.ext none d9 := ⟨_, rfl⟩
      go_cut [11] (fun v wx => v = .bool (decide (4 ≤ ok) && decide (ok ≤ 9)) ∧ wx = W9)
      case first =>
        by_cases h4 : 4 ≤ ok
        · have d4 : decide (4 ≤ ok) = true := by simpa using h4
          by_cases h9 : ok ≤ 9
          · have d9 : decide (ok ≤ 9) = true := by simpa using h9
            go_wp2
            go_meet
            exact ⟨by rw [d4, d9]; rfl, hW9.symm⟩
          · have d9 : decide (ok ≤ 9) = false := by simpa using h9
            go_wp2
            go_meet
            exact ⟨by rw [d4, d9]; rfl, hW9.symm⟩
        · have d4 : decide (4 ≤ ok) = false := by simpa using h4
          go_wp2
          go_meet
          exact ⟨by rw [d4]; rfl, hW9.symm⟩
      case rest =>
        obtain ⟨hv, hwc⟩ := hcut
        subst hv
        rw [hW9] at hwc
        subst hwc
        clear hW9
        obtain ⟨wb, hwb⟩ : ∃ z, z = (decide (4 ≤ ok) && decide (ok ≤ 9)) := ⟨_, rfl⟩
        rw [← hwb]
        have HWB := Lib.hid hwb
        clear hwb
        go_upto_region 15 with (fail)
        go_cut [91] (fun v wx => v = .bool false ∧ Hid (Lw w1 101 [(gm, s), (ga, s1), (gb, s)] [(gr, .cells #[.int .i64 e1, .bool f1, .int .u64 k1, .int .u64 v1, .int .i64 n1] 28)] wx))
        case first =>
          by_cases he : e1 = 0
          · have g1 : (e1 != 0) = false := by simpa using he
            cases wb with
            | true =>
              clear he
              go_wp2
              go_meet
              exact ⟨rfl, HL⟩
            | false =>
              have hl : s1.l = s.l := HSTL.out (by
                intro hc
                have hb := HWB.out
                rw [decide_eq_true hc.1, decide_eq_true hc.2] at hb
                cases hb)
              have HLL := Lib.hid hl
              clear he hl
              go_wp2_with fail
              refine (pairs_Lv (i := 1) HL.out (by omega) rfl).mono ?_
              rintro e W15 ⟨A1, m1, q1, K1, rfl, hm1, hs1, p1, h15, -⟩
              have H15 := Lib.hid h15
              have P1 := Lib.hid p1
              have HM1 := Lib.hid hm1
              have HS1 := Lib.hid hs1
              obtain ⟨d15, rfl⟩ := h15.nw
              clear h15 p1 hm1 hs1
              go_wp2_with fail
              refine (pairs_Lv (i := 0) H15.out (by omega) rfl).mono ?_
              rintro e W16 ⟨A2, m2, q2, K2, rfl, hm2, hs2, p2, h16, -⟩
              have H16 := Lib.hid h16
              have P2 := Lib.hid p2
              have P1 := Lib.hid (P1.out.more hs2)
              have HM2 := Lib.hid hm2
              have HS2 := Lib.hid (fun x hx => hs2 x (HS1.out x hx))
              obtain ⟨d16, rfl⟩ := h16.nw
              clear h16 p2 hm2 hs2
              go_wp2_with fail
              refine (equal_Lw (b := true) H16.out P1.out P2.out HM1.out HM2.out (by simp [HLL.out])).mono ?_
              rintro e W17 ⟨rfl, hn17⟩
              have HL := Lib.hid ((H16.out.grow hn17).less HS2.out)
              obtain ⟨d17, rfl⟩ : Nw w1 W17 := HL.out.nw
              clear hn17 H16 H15
              have c0 : (w1.ext none d17).cell? ⟨gr, 0, none⟩ = some (.int .i64 e1) := HL.out.cell (List.mem_singleton_self _) 0
              haveI : In gr (w1.ext none d17) := ⟨World.block_lt_of_cell? _ _ c0⟩
              go_wp2
              go_meet
              exact ⟨rfl, HL⟩
          · have g1 : (e1 != 0) = true := by simpa using he
            obtain ⟨hl, -, hr⟩ := HERR.out he
            simp only [Rs.mk.injEq, true_and] at hr
            obtain ⟨rfl, rfl, rfl, rfl⟩ := hr
            have HLL := Lib.hid hl
            clear he hl
            go_wp2_with fail
            refine (pairs_Lv (i := 1) HL.out (by omega) rfl).mono ?_
            rintro e W15 ⟨A1, m1, q1, K1, rfl, hm1, hs1, p1, h15, -⟩
            have H15 := Lib.hid h15
            have P1 := Lib.hid p1
            have HM1 := Lib.hid hm1
            have HS1 := Lib.hid hs1
            obtain ⟨d15, rfl⟩ := h15.nw
            clear h15 p1 hm1 hs1
            go_wp2_with fail
            refine (pairs_Lv (i := 0) H15.out (by omega) rfl).mono ?_
            rintro e W16 ⟨A2, m2, q2, K2, rfl, hm2, hs2, p2, h16, -⟩
            have H16 := Lib.hid h16
            have P2 := Lib.hid p2
            have P1 := Lib.hid (P1.out.more hs2)
            have HM2 := Lib.hid hm2
            have HS2 := Lib.hid (fun x hx => hs2 x (HS1.out x hx))
            obtain ⟨d16, rfl⟩ := h16.nw
            clear h16 p2 hm2 hs2
            go_wp2_with fail
            refine (equal_Lw (b := true) H16.out P1.out P2.out HM1.out HM2.out (by simp [HLL.out])).mono ?_
            rintro e W17 ⟨rfl, hn17⟩
            have HL := Lib.hid ((H16.out.grow hn17).less HS2.out)
            obtain ⟨d17, rfl⟩ : Nw w1 W17 := HL.out.nw
            clear hn17 H16 H15
            have c0 : (w1.ext none d17).cell? ⟨gr, 0, none⟩ = some (.int .i64 e1) := HL.out.cell (List.mem_singleton_self _) 0
            have c1 : (w1.ext none d17).cell? ⟨gr, 1, none⟩ = some (.bool false) := HL.out.cell (List.mem_singleton_self _) 1
            have c2 : (w1.ext none d17).cell? ⟨gr, 2, none⟩ = some (.int .u64 0) := HL.out.cell (List.mem_singleton_self _) 2
            have c3 : (w1.ext none d17).cell? ⟨gr, 3, none⟩ = some (.int .u64 0) := HL.out.cell (List.mem_singleton_self _) 3
            have c4 : (w1.ext none d17).cell? ⟨gr, 4, none⟩ = some (.int .i64 0) := HL.out.cell (List.mem_singleton_self _) 4
            haveI : In gr (w1.ext none d17) := ⟨World.block_lt_of_cell? _ _ c0⟩
            go_wp2
            go_meet
            exact ⟨rfl, HL⟩
        case rest =>
          obtain ⟨hv, HL⟩ := hcut
          subst hv
          obtain ⟨d10, rfl⟩ := HL.out.nw
          clear c0 c1 c2 c3 c4
          have c0 : (w1.ext none d10).cell? ⟨gr, 0, none⟩ = some (.int .i64 e1) := HL.out.cell (List.mem_singleton_self _) 0
          have c1 : (w1.ext none d10).cell? ⟨gr, 1, none⟩ = some (.bool f1) := HL.out.cell (List.mem_singleton_self _) 1
          have c2 : (w1.ext none d10).cell? ⟨gr, 2, none⟩ = some (.int .u64 k1) := HL.out.cell (List.mem_singleton_self _) 2
          have c3 : (w1.ext none d10).cell? ⟨gr, 3, none⟩ = some (.int .u64 v1) := HL.out.cell (List.mem_singleton_self _) 3
          have c4 : (w1.ext none d10).cell? ⟨gr, 4, none⟩ = some (.int .i64 n1) := HL.out.cell (List.mem_singleton_self _) 4
          haveI : In gr (w1.ext none d10) := ⟨World.block_lt_of_cell? _ _ c0⟩
          go_upto_region 17 with (fail)
          obtain ⟨W9, hW9⟩ : ∃ W9, W9 = w1.ext none d10 := ⟨_, rfl⟩
          go_cut [12] (fun v wx => v = .bool us ∧ wx = W9)
          case first =>
            by_cases k3 : ok = 3
            · have d3 : (ok == 3) = true := by simpa using k3
              have hu : us = true := by rw [HUS.out]; simp [usesK, k3]
              clear k3
              go_wp2
              go_meet
              exact ⟨by rw [hu], hW9.symm⟩
            · have d3 : (ok == 3) = false := by simpa using k3
              cases wb with
              | true =>
                have hu : us = true := by
                  have hb := HWB.out
                  rw [HUS.out]; unfold usesK
                  rw [← hb]; simp
                clear k3
                go_wp2
                go_meet
                exact ⟨by rw [hu], hW9.symm⟩
              | false =>
                by_cases k10 : ok = 10
                · have d10 : (ok == 10) = true := by simpa using k10
                  have hu : us = true := by rw [HUS.out]; simp [usesK, k10]
                  clear k3 k10
                  go_wp2
                  go_meet
                  exact ⟨by rw [hu], hW9.symm⟩
                · have d10 : (ok == 10) = false := by simpa using k10
                  have hu : us = (ok == 12) := by
                    have hb := HWB.out
                    rw [HUS.out]; unfold usesK
                    rw [← hb, decide_eq_false k3, decide_eq_false k10]
                    simp [Bool.beq_eq_decide_eq]
                  clear k3 k10
                  cases d12 : (ok == 12) with
                  | true =>
                    rw [d12] at hu
                    go_wp2
                    go_meet
                    exact ⟨by rw [hu], hW9.symm⟩
                  | false =>
                    rw [d12] at hu
                    go_wp2
                    go_meet
                    exact ⟨by rw [hu], hW9.symm⟩
          case rest =>
            obtain ⟨hv, hwc⟩ := hcut
            subst hv
            rw [hW9] at hwc
            subst hwc
            clear hW9
            go_upto_region 18 with (fail)
            go_cut [13] (fun v wx => v = .bool dn ∧ Hid (Lw w1 101 [(gm, s), (ga, s1), (gb, s)] [(gr, .cells #[.int .i64 e1, .bool f1, .int .u64 k1, .int .u64 v1, .int .i64 n1] 28)] wx))
            case first =>
              by_cases he : e1 = 0
              · have g1 : (e1 == 0) = true := by simpa using he
                have hd : dn = true := by rw [HDON.out]; simp [he]
                clear he
                go_wp2
                go_meet
                exact ⟨by rw [hd], HL⟩
              · have g1 : (e1 == 0) = false := by simpa using he
                by_cases he2 : e1 = 14
                · have g2 : (e1 == 14) = true := by simpa using he2
                  have hd : dn = !decide (keyB s1 = keyB s) := by rw [HDON.out]; simp [he2]
                  clear he he2
                  go_wp2_with fail
                  refine (key_Lv (i := 1) HL.out (by omega) HFM.out rfl HKA.out).mono ?_
                  rintro e W15 ⟨rfl, d15, rfl⟩
                  go_wp2_with fail
                  refine (key_Lv (i := 0) (HL.out.grow ⟨_, rfl⟩) (by omega) HFM.out rfl HKM.out).mono ?_
                  rintro e W16 ⟨rfl, d16, rfl⟩
                  have hkk : (KA.toList == KM.toList) = decide (keyB s1 = keyB s) := by rw [HKA.out, HKM.out]; exact key_beq _ _
                  go_wp2
                  go_meet
                  exact ⟨by rw [hd], Lib.hid (HL.out.grow ((by repeat (first | exact Xt.Nw.refl _ | refine Xt.Nw.drew ?_ | refine Xt.Nw.drewN ?_ _ | refine Xt.Nw.alloc ?_ _ | refine Xt.Nw.joined ?_ | refine Xt.Nw.drewd ?_ | refine Xt.Nw.drewdN ?_ | refine Xt.Nw.ext ?_ | refine Xt.Nw.ext_some ?_ (by assumption) | refine Xt.Nw.setCell ?_ (by simp [go_sem] <;> omega) _))))⟩
                · have g2 : (e1 == 14) = false := by simpa using he2
                  have hd : dn = false := by rw [HDON.out]; simp [he, he2]
                  clear he he2
                  go_wp2
                  go_meet
                  exact ⟨by rw [hd], HL⟩
            case rest =>
              obtain ⟨hv, HL⟩ := hcut
              subst hv
              obtain ⟨d11, rfl⟩ := HL.out.nw
              clear c0 c1 c2 c3 c4
              have HCN := fun W (hW : Nw (w1.ext none d11) W) => acc_Lw (i := 2) (HL.out.grow hW) (by omega) rfl t ⟨ok, oa, ob, oc, od, oe, of⟩ HX.out rRetry (by simp)
              rw [HRET.out, HSAM.out, ← HUS.out] at HCN
              unfold opV resV at HCN
              simp only at HCN
              have HC := Lib.hid HCN
              clear HCN
              go_wp2_with fail
              refine (HC.out _ ((by repeat (first | exact Xt.Nw.refl _ | refine Xt.Nw.drew ?_ | refine Xt.Nw.drewN ?_ _ | refine Xt.Nw.alloc ?_ _ | refine Xt.Nw.joined ?_ | refine Xt.Nw.drewd ?_ | refine Xt.Nw.drewdN ?_ | refine Xt.Nw.ext ?_ | refine Xt.Nw.ext_some ?_ (by assumption) | refine Xt.Nw.setCell ?_ (by simp [go_sem] <;> omega) _)))).mono ?_
              rintro e W14 ⟨rfl, h14⟩
              have H14 := Lib.hid (show Lw w1 102 [(gm, s), (ga, s1), (gb, s)] [(gr, .cells #[.int .i64 e1, .bool f1, .int .u64 k1, .int .u64 v1, .int .i64 n1] 28)] W14 from h14)
              obtain ⟨d14, rfl⟩ := h14.nw
              clear h14 HC
              cases us <;> cases dn
              all_goals
                go_wp2_with fail
                refine (key_Lv (i := 2) (H14.out.grow ((by repeat (first | exact Xt.Nw.refl _ | refine Xt.Nw.drew ?_ | refine Xt.Nw.drewN ?_ _ | refine Xt.Nw.alloc ?_ _ | refine Xt.Nw.joined ?_ | refine Xt.Nw.drewd ?_ | refine Xt.Nw.drewdN ?_ | refine Xt.Nw.ext ?_ | refine Xt.Nw.ext_some ?_ (by assumption) | refine Xt.Nw.setCell ?_ (by simp [go_sem] <;> omega) _)))) (by omega) HFM.out rfl HKM.out).mono ?_
                rintro e W15 ⟨rfl, d15, rfl⟩
                go_wp2_with fail
                refine (key_Lv (i := 0) (H14.out.grow ((by repeat (first | exact Xt.Nw.refl _ | refine Xt.Nw.drew ?_ | refine Xt.Nw.drewN ?_ _ | refine Xt.Nw.alloc ?_ _ | refine Xt.Nw.joined ?_ | refine Xt.Nw.drewd ?_ | refine Xt.Nw.drewdN ?_ | refine Xt.Nw.ext ?_ | refine Xt.Nw.ext_some ?_ (by assumption) | refine Xt.Nw.setCell ?_ (by simp [go_sem] <;> omega) _)))) (by omega) HFM.out rfl HKM.out).mono ?_
                rintro e W16 ⟨rfl, d16, rfl⟩
                go_wp2_with (go_at_call 9; refine (HKN.out _).mono ?_; rintro e w' ⟨rfl, dW, rfl⟩)
                go_ret
                exact ⟨rfl, HNW.out.trans ((by repeat (first | exact Xt.Nw.refl _ | refine Xt.Nw.drew ?_ | refine Xt.Nw.drewN ?_ _ | refine Xt.Nw.alloc ?_ _ | refine Xt.Nw.joined ?_ | refine Xt.Nw.drewd ?_ | refine Xt.Nw.drewdN ?_ | refine Xt.Nw.ext ?_ | refine Xt.Nw.ext_some ?_ (by assumption) | refine Xt.Nw.setCell ?_ (by simp [go_sem] <;> omega) _)))⟩
end Go.Proofs.YtdjcndpnjoahmaaDoor
