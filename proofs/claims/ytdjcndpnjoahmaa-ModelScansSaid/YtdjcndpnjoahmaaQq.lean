import Derived.Test.YtdjcndpnjoahmaaQp
namespace Go.Proofs.Ytdjcndpnjoahmaa
open Go.RowKit Go.Xt
/-! The law ModelScans. -/
/-- Do, its result and state named. -/
theorem do_LS2 {w W : World} {gm : Nat} {s : Md} {N : Nat} (h : LS w gm s N W) (hN : N ≤ 500000) (t : Int) (o : Ox) (hw : o.Wf) :
    Calls Try.prog 6 #[.pointer (some ⟨gm, 0, none⟩), .int .i64 t, op7 o.k o.key o.hi o.val o.old o.by_ o.draw] W fun e W' => ∃ er fd ke va cn s', doM s t o = (⟨er, fd, ke, va, cn⟩, s') ∧ e = .returned (res5 er fd ke va cn) ∧ LS w gm s' (N + 1) W' := by
  refine (do_LS h hN t o hw).mono ?_
  rintro e W' ⟨rfl, h2⟩
  exact ⟨_, _, _, _, _, _, rfl, rfl, h2⟩
theorem LSR.no {w W : World} {gm : Nat} {s : Md} {N : Nat} {v : Value} {l : List (Int × Int)} (h : LSR w gm s N W v l) {N' : Nat} (hN : N ≤ N') : LSR w gm s N' W v l := by
  obtain ⟨p, h1, h2, h3, h4⟩ := h
  exact ⟨p, h1, h2, h3.mono hN, h4⟩
theorem Sc.none_left {l : List (Int × Int)} {L0 hi L : Int} (h : Sc l L0 hi l.length L) : ∀ p ∈ l, ¬ (L ≤ p.1 ∧ p.1 ≤ hi) := fun p hp => by
  obtain ⟨j, hj⟩ := List.mem_iff_getElem?.1 hp
  exact h.done j p hj (List.getElem?_eq_some_iff.1 hj).1
set_option maxRecDepth 20000 in
set_option maxHeartbeats 16000000 in
theorem scans_M (A : Option Addr) (n c : Nat) (ds : List Dd) (lo hi sk : Int) (w : World) (hr : Rd w 15 A n (dcells ds)) (hw : ∀ d ∈ ds, d.o.Wf) (hlo : 0 ≤ lo ∧ lo < 18446744073709551616) (hhi : 0 ≤ hi ∧ hi < 18446744073709551616) (hsk : 0 ≤ sk ∧ sk < 18446744073709551616) :
    Calls Try.prog 3 #[.slice A n c, .agg #[.int .u64 lo, .int .u64 hi], .int .u64 sk] w fun e w' => e = .returned (.bool true) ∧ Nw w w' := by
  have HKN := Lib.hid (fun W => known_M W)
  by_cases hn : 80 < n
  · have d0 : decide ((80 : Int) < (n : Int)) = true := by simp; omega
    clear hr hw hlo hhi hsk
    go_enter Try.func3, Try.ntmps3
    go_wp2_with (go_at_call 4; refine (HKN.out _).mono ?_; rintro e w' ⟨rfl, dW, rfl⟩)
    go_ret
    exact ⟨rfl, (by repeat (first | exact Xt.Nw.refl _ | refine Xt.Nw.drew ?_ | refine Xt.Nw.drewN ?_ _ | refine Xt.Nw.alloc ?_ _ | refine Xt.Nw.joined ?_ | refine Xt.Nw.drewd ?_ | refine Xt.Nw.drewdN ?_ | refine Xt.Nw.ext ?_ | refine Xt.Nw.ext_some ?_ (by assumption) | refine Xt.Nw.setCell ?_ (by simp [go_sem] <;> omega) _))⟩
  have d0 : decide ((80 : Int) < (n : Int)) = false := by simp; omega
  by_cases hlh : hi < lo
  · have d1 : decide (hi < lo) = true := by simp; omega
    clear hr hw hlo hhi hsk
    go_enter Try.func3, Try.ntmps3
    go_wp2_with (go_at_call 4; refine (HKN.out _).mono ?_; rintro e w' ⟨rfl, dW, rfl⟩)
    go_ret
    exact ⟨rfl, (by repeat (first | exact Xt.Nw.refl _ | refine Xt.Nw.drew ?_ | refine Xt.Nw.drewN ?_ _ | refine Xt.Nw.alloc ?_ _ | refine Xt.Nw.joined ?_ | refine Xt.Nw.drewd ?_ | refine Xt.Nw.drewdN ?_ | refine Xt.Nw.ext ?_ | refine Xt.Nw.ext_some ?_ (by assumption) | refine Xt.Nw.setCell ?_ (by simp [go_sem] <;> omega) _))⟩
  have d1 : decide (hi < lo) = false := by simp; omega
  obtain ⟨w1, hw1⟩ : ∃ w1, w1 = w.alloc (.cells #[.int .u64 lo, .int .u64 hi] 25) := ⟨_, rfl⟩
  have hn1 : Nw w w1 := by rw [hw1]; exact (Nw.refl w).alloc _
  have b0 : w1.cell? ⟨w.heap.size, 0, none⟩ = some (.int .u64 lo) := by rw [hw1]; simp [go_sem]
  have b1 : w1.cell? ⟨w.heap.size, 1, none⟩ = some (.int .u64 hi) := by rw [hw1]; simp [go_sem]
  have HPL := Lib.hid (played_M A n c ds w1 (hr.nw hn1) (by omega) hw)
  have HD := Lib.hid (fun (W : World) gm s N (h : LS w1 gm s N W) (hN : N ≤ 500000) (o : Ox) (hw : o.Wf) => do_LS2 h hN 0 o hw)
  have HLO := Lib.hid hlo
  have HHI := Lib.hid hhi
  have HSK := Lib.hid hsk
  have HLH := Lib.hid (show lo ≤ hi by omega)
  have HW1 := Lib.hid hw1
  have HN1 := Lib.hid hn1
  clear hr hw hlo hhi hsk hlh hn hw1 hn1
  go_enter Try.func3, Try.ntmps3
  go_wp2_with fail
  rw [← HW1.out]
  refine HPL.out.mono ?_
  rintro r W1 ⟨gm, s0, rfl, h1, hth⟩
  have H1 := Lib.hid h1
  have HTH := Lib.hid hth
  have c0 := cell_nw b0 h1.nw
  have c1 := cell_nw b1 h1.nw
  clear h1 hth
  go_wp2_with fail
  refine (HD.out W1 gm s0 100 H1.out (by omega) oEnd (by constructor <;> simp)).mono ?_
  rintro r W2 ⟨er, fd, ke, va, cn, s1, hd, rfl, h2⟩
  have hs1 : s1 = (doM s0 0 oEnd).2 := by rw [hd]
  have HSH1 := Lib.hid (show Shut s1 by rw [hs1]; exact shut_end H1.out.ok (by rw [HTH.out]; omega))
  have H2 := Lib.hid h2
  replace c0 := cell_nw b0 h2.nw
  replace c1 := cell_nw b1 h2.nw
  clear hd hs1 h2
  go_wp2_with fail
  refine (HD.out W2 gm s1 _ H2.out (by omega) oOpen (by constructor <;> simp)).mono ?_
  rintro r W3 ⟨er2, fd2, ke2, va2, cn2, s2, hd, rfl, h3⟩
  have hs1 : s2 = (doM s1 0 oOpen).2 := by rw [hd]
  have HSH2 := Lib.hid (show Shut s2 by rw [hs1]; exact shut_open HSH1.out)
  have H3 := Lib.hid h3
  replace c0 := cell_nw b0 h3.nw
  replace c1 := cell_nw b1 h3.nw
  clear hd hs1 h3
  go_wp2_with fail
  refine (session_LS H3.out 0).mono ?_
  rintro r W4 ⟨rfl, hn4⟩
  have H4 := Lib.hid (H3.out.grow hn4)
  replace c0 := cell_nw b0 H4.out.nw
  replace c1 := cell_nw b1 H4.out.nw
  clear hn4
  obtain ⟨se, hse⟩ : ∃ b, b = (ofM s2 0).se := ⟨_, rfl⟩
  rw [← hse]
  have HSE := Lib.hid hse
  clear hse
  cases se with
  | false =>
    have HN4 := Lib.hid H4.out.nw
    go_wp2_with (go_at_call 4; refine (HKN.out _).mono ?_; rintro e w' ⟨rfl, dW, rfl⟩)
    go_ret
    exact ⟨rfl, (HN1.out.trans HN4.out).trans (by repeat (first | exact Xt.Nw.refl _ | refine Xt.Nw.drew ?_ | refine Xt.Nw.drewN ?_ _ | refine Xt.Nw.alloc ?_ _ | refine Xt.Nw.joined ?_ | refine Xt.Nw.drewd ?_ | refine Xt.Nw.drewdN ?_ | refine Xt.Nw.ext ?_ | refine Xt.Nw.ext_some ?_ (by assumption) | refine Xt.Nw.setCell ?_ (by simp [go_sem] <;> omega) _))⟩
  | true =>
    haveI : In w.heap.size W4 := ⟨World.block_lt_of_cell? W4 _ c0⟩
    go_wp2_with fail
    refine (HD.out W4 gm s2 _ H4.out (by omega) (oScan lo hi) (by constructor <;> simp; exact HLO.out; exact HHI.out)).mono ?_
    rintro r W5 ⟨er3, fd3, ke3, va3, cn3, s3, hd, rfl, h5⟩
    have hsc := scan_do HSH2.out HSE.out.symm HLH.out
    rw [hd] at hsc
    obtain ⟨hr3, hl3, ht3⟩ := hsc
    cases hr3
    have HT3 := Lib.hid ht3
    have H5 := Lib.hid h5
    replace c0 := cell_nw b0 h5.nw
    replace c1 := cell_nw b1 h5.nw
    haveI : In w.heap.size W5 := ⟨World.block_lt_of_cell? W5 _ c0⟩
    clear hd hl3 ht3 h5
    by_cases hsl : lo ≤ sk
    · have d2 : decide (lo ≤ sk) = true := by simpa using hsl
      go_wp2_with fail
      refine (HD.out W5 gm s3 _ H5.out (by omega) (oSeek sk) (by constructor <;> simp; exact HSK.out)).mono ?_
      rintro r W6 ⟨er4, fd4, ke4, va4, cn4, s4, hd, rfl, h6⟩
      have hsc := seek_do HLH.out HT3.out hsl
      rw [hd] at hsc
      obtain ⟨hr4, hl4, ht4⟩ := hsc
      cases hr4
      have HT4 := Lib.hid ht4
      have H6 := Lib.hid h6
      have HSL := Lib.hid hsl
      replace c0 := cell_nw b0 h6.nw
      replace c1 := cell_nw b1 h6.nw
      clear hd hl4 ht4 h6 hsl
      go_wp2_with fail
      refine (pairs_LS H6.out (by omega)).mono ?_
      rintro r W7 ⟨vA, rfl, h7⟩
      have H7 := Lib.hid h7
      replace c0 := cell_nw b0 h7.ls.nw
      replace c1 := cell_nw b1 h7.ls.nw
      obtain ⟨m, hm⟩ : ∃ m, m = s4.l.length := ⟨_, rfl⟩
      obtain ⟨AA, cA, hvA⟩ : ∃ A c, vA = .slice A m c := by
        rcases own_forms h7.row with ⟨rfl, h0⟩ | ⟨g, c, rfl, _⟩
        · rw [hm, h0]; exact ⟨_, _, rfl⟩
        · rw [hm]; exact ⟨_, _, rfl⟩
      subst hvA
      have HM := Lib.hid hm
      have hm1 : m ≤ 104 := by rw [hm]; exact h7.ls.ok.len
      obtain ⟨l, hl⟩ : ∃ l, l = s4.l := ⟨_, rfl⟩
      have HLL := Lib.hid hl
      have HASC := Lib.hid (show asc l by rw [hl]; exact h7.ls.ok.asc)
      rw [← hl] at H7
      clear h7 hm hl
      go_wp2_with fail
      go_loopw [9, 10] (fun a _ wr => ∃ (i : Nat) (s : Md) (L : Int), i ≤ m ∧ a = .int .i64 i ∧ Hid (LSR w1 gm s (104 + i) wr (.slice AA m cA) l ∧ s.l = l ∧ s.th[0]? = some (itAt L hi) ∧ Sc l sk hi i L)) (fun a _ _ => m - (intOf a).toNat)
      case atStart => exact ⟨0, s4, sk, Nat.zero_le _, rfl, Lib.hid ⟨H7.out, HLL.out.symm, HT4.out, Sc.start _ _ _⟩⟩
      case round =>
        obtain ⟨i, s, L, hi', rfl, HL⟩ := hrel
        have hnr := HL.out.1.ls.nw
        replace c0 := cell_nw b0 hnr
        replace c1 := cell_nw b1 hnr
        haveI : In w.heap.size wr := ⟨World.block_lt_of_cell? wr _ c0⟩
        haveI : In gm wr := ⟨HL.out.1.ls.im⟩
        clear hnr
        by_cases him : i < m
        · obtain ⟨⟨pk, px⟩, hp⟩ : ∃ p, l[i]? = some p := ⟨_, List.getElem?_eq_getElem (by have := HM.out; have := HLL.out; rw [HLL.out]; omega)⟩
          obtain ⟨y0, y1⟩ := pcells_get l i _ hp
          have hrow := HL.out.1.row
          have hlm : l.length = m := by rw [HM.out, HLL.out]
          rw [hlm] at hrow
          rcases own_forms hrow with ⟨hA, h0⟩ | ⟨gC, cC', hA, _, hin, _, _⟩
          · omega
          injection hA with a1 a2 a3
          subst a1 a3
          have e0 : wr.cell? ⟨gC, i * 2, none⟩ = some (.int .u64 pk) := (hrow.cellAt _ (by omega)).trans y0
          have e1 : wr.cell? ⟨gC, i * 2 + 1, none⟩ = some (.int .u64 px) := (hrow.cellAt _ (by omega)).trans y1
          haveI : In gC wr := ⟨World.block_lt_of_cell? wr _ e0⟩
          have i1 : (i : Int) < (m : Int) := by omega
          have i0 : (0 : Int) ≤ (i : Int) := by omega
          have i3 : i < 1000 := by omega
          have HP := Lib.hid hp
          have HIM := Lib.hid him
          clear y0 y1 hp hrow hlm hin him
          by_cases k1 : pk < lo
          · have f1 : decide (pk < lo) = true := by simpa using k1
            have HSKIP := Lib.hid (show ¬ (sk ≤ pk ∧ pk ≤ hi) by have := HLH.out; have := HSL.out; omega)
            clear k1
            go_wp2
            exact ⟨⟨i + 1, s, L, by have := HIM.out; omega, by go_num, Lib.hid ⟨(HL.out.1.grow ((by repeat (first | exact Xt.Nw.refl _ | refine Xt.Nw.drew ?_ | refine Xt.Nw.drewN ?_ _ | refine Xt.Nw.alloc ?_ _ | refine Xt.Nw.joined ?_ | refine Xt.Nw.drewd ?_ | refine Xt.Nw.drewdN ?_ | refine Xt.Nw.ext ?_ | refine Xt.Nw.ext_some ?_ (by assumption) | refine Xt.Nw.setCell ?_ (by simp [go_sem] <;> omega) _)))).no (by omega), HL.out.2.1, HL.out.2.2.1, HL.out.2.2.2.skip HP.out HSKIP.out⟩⟩, by have := HIM.out; simp [intOf]; omega⟩
          have f1 : decide (pk < lo) = false := by simpa using k1
          by_cases k2 : hi < pk
          · have f2 : decide (hi < pk) = true := by simpa using k2
            have HSKIP := Lib.hid (show ¬ (sk ≤ pk ∧ pk ≤ hi) by omega)
            clear k1 k2
            go_wp2
            exact ⟨⟨i + 1, s, L, by have := HIM.out; omega, by go_num, Lib.hid ⟨(HL.out.1.grow ((by repeat (first | exact Xt.Nw.refl _ | refine Xt.Nw.drew ?_ | refine Xt.Nw.drewN ?_ _ | refine Xt.Nw.alloc ?_ _ | refine Xt.Nw.joined ?_ | refine Xt.Nw.drewd ?_ | refine Xt.Nw.drewdN ?_ | refine Xt.Nw.ext ?_ | refine Xt.Nw.ext_some ?_ (by assumption) | refine Xt.Nw.setCell ?_ (by simp [go_sem] <;> omega) _)))).no (by omega), HL.out.2.1, HL.out.2.2.1, HL.out.2.2.2.skip HP.out HSKIP.out⟩⟩, by have := HIM.out; simp [intOf]; omega⟩
          have f2 : decide (hi < pk) = false := by simpa using k2
          by_cases k3 : pk < sk
          · have f3 : decide (pk < sk) = true := by simpa using k3
            have HSKIP := Lib.hid (show ¬ (sk ≤ pk ∧ pk ≤ hi) by omega)
            clear k1 k2 k3
            go_wp2
            exact ⟨⟨i + 1, s, L, by have := HIM.out; omega, by go_num, Lib.hid ⟨(HL.out.1.grow ((by repeat (first | exact Xt.Nw.refl _ | refine Xt.Nw.drew ?_ | refine Xt.Nw.drewN ?_ _ | refine Xt.Nw.alloc ?_ _ | refine Xt.Nw.joined ?_ | refine Xt.Nw.drewd ?_ | refine Xt.Nw.drewdN ?_ | refine Xt.Nw.ext ?_ | refine Xt.Nw.ext_some ?_ (by assumption) | refine Xt.Nw.setCell ?_ (by simp [go_sem] <;> omega) _)))).no (by omega), HL.out.2.1, HL.out.2.2.1, HL.out.2.2.2.skip HP.out HSKIP.out⟩⟩, by have := HIM.out; simp [intOf]; omega⟩
          have f3 : decide (pk < sk) = false := by simpa using k3
          have HK := Lib.hid (show sk ≤ pk ∧ pk ≤ hi by omega)
          clear k1 k2 k3
          go_upto_region 20 with (fail)
          obtain ⟨Wp, hWp⟩ : ∃ Wp, Wp = wr.alloc (.cells #[.int .u64 pk, .int .u64 px] 39) := ⟨_, rfl⟩
          have hnp : Nw wr Wp := by rw [hWp]; exact (Nw.refl wr).alloc _
          have g0 : Wp.cell? ⟨wr.heap.size, 0, none⟩ = some (.int .u64 pk) := by rw [hWp]; simp [go_sem]
          have g1 : Wp.cell? ⟨wr.heap.size, 1, none⟩ = some (.int .u64 px) := by rw [hWp]; simp [go_sem]
          rw [← hWp]
          have HNP := Lib.hid hnp
          clear hWp hnp
          have hnx := next_do HL.out.2.2.1 HHI.out.2 (show Sc s.l sk hi i L by rw [HL.out.2.1]; exact HL.out.2.2.2) (p := (pk, px)) (by rw [HL.out.2.1]; exact HP.out) HK.out.1 HK.out.2
          have HDN := do_LSR HL.out.1 (Nw.drew HNP.out) (by omega) 0 oNext (by constructor <;> simp)
          rw [hnx.1] at HDN
          unfold opV resV at HDN
          simp only at HDN
          have HNX := Lib.hid hnx
          have HDh := Lib.hid HDN
          clear hnx HDN
          go_region_held3 (fun w' => w'.cell? ⟨wr.heap.size, 0, none⟩ = some (.int .u64 pk) ∧ w'.cell? ⟨wr.heap.size, 1, none⟩ = some (.int .u64 px)) (first | exact ⟨g0, g1⟩ | exact ⟨hch.cell g0 (fun e => Nat.lt_irrefl _ (hX _ e)), hch.cell g1 (fun e => Nat.lt_irrefl _ (hX _ e))⟩)
            ((first | (go_at_call 6; refine HDh.out.mono ?_; rintro r W8 ⟨rfl, hls, X, hch, hX⟩)))
          have HLS := Lib.hid (⟨hls, HNX.out.2.1.trans HL.out.2.1, HNX.out.2.2, HL.out.2.2.2.take HASC.out HP.out HK.out.1⟩ : LSR w1 gm _ (104 + i + 1) W8 (.slice (some ⟨gC, 0, none⟩) m cA) l ∧ (doM s 0 oNext).2.l = l ∧ (doM s 0 oNext).2.th[0]? = some (itAt (pk + 1) hi) ∧ Sc l sk hi (i + 1) (pk + 1))
          clear hls hch hX
          go_wp2
          exact ⟨⟨i + 1, _, pk + 1, by have := HIM.out; omega, by go_num, HLS⟩, by have := HIM.out; simp [intOf]; omega⟩
        · obtain rfl : i = m := by omega
          have hlm : l.length = i := by rw [HM.out, HLL.out]
          have hno := Sc.none_left (show Sc l sk hi l.length L by rw [hlm]; exact HL.out.2.2.2)
          have HST := Lib.hid (⟨HL.out.1.ls, ⟨L, HL.out.2.2.1, by rw [HL.out.2.1]; exact hno⟩⟩ : LS w1 gm s (104 + i) wr ∧ ∃ L, s.th[0]? = some (itAt L hi) ∧ ∀ p ∈ s.l, ¬ (L ≤ p.1 ∧ p.1 ≤ hi))
          clear hno hlm
          go_wp2_with fail
          go_loopw [11] (fun a wx => ∃ (j : Nat) (s' : Md), j ≤ 3 ∧ a = .int .i64 j ∧ Hid ((LS w1 gm s' (104 + i + j) wx ∧ ∃ L, s'.th[0]? = some (itAt L hi) ∧ ∀ p ∈ s'.l, ¬ (L ≤ p.1 ∧ p.1 ≤ hi)) ∧ (0 < j → s'.th[0]? = some itF))) (fun a _ => 3 - (intOf a).toNat)
          case atStart => exact ⟨0, s, by omega, rfl, Lib.hid ⟨HST.out, fun h => by omega⟩⟩
          case round =>
            obtain ⟨j, s', hj, rfl, HJ⟩ := hrel
            by_cases hj3 : j < 3
            · have j1 : (j : Int) < 3 := by omega
              have HJ3 := Lib.hid hj3
              obtain ⟨⟨hls, L', ht', hno'⟩, -⟩ := HJ.out
              have hnx := end_do ht' hno'
              have HE := Lib.hid hnx
              have HNO := Lib.hid hno'
              have HDN := do_LS hls (by omega) 0 oNext (by constructor <;> simp)
              rw [hnx.1] at HDN
              unfold opV resV at HDN
              simp only at HDN
              have HDh := Lib.hid HDN
              clear hls ht' hno' hnx HDN hj3
              go_wp2_with fail
              refine HDh.out.mono ?_
              rintro r W9 ⟨rfl, h9⟩
              have HN9 := Lib.hid (⟨⟨h9, hi + 1, by rw [HE.out.2.2, itF_at hi], fun p _ h => by omega⟩, fun _ => HE.out.2.2⟩ : (LS w1 gm _ (104 + i + j + 1) W9 ∧ ∃ L, (doM s' 0 oNext).2.th[0]? = some (itAt L hi) ∧ ∀ p ∈ (doM s' 0 oNext).2.l, ¬ (L ≤ p.1 ∧ p.1 ≤ hi)) ∧ (0 < j + 1 → (doM s' 0 oNext).2.th[0]? = some itF))
              clear h9
              go_wp2
              exact ⟨⟨j + 1, _, by have := HJ3.out; omega, by go_num, HN9⟩, by have := HJ3.out; simp [intOf]; omega⟩
            · obtain rfl : j = 3 := by omega
              have ht := HJ.out.2 (by omega)
              have hof : ofM s' ((0 : Nat) : Int) = itF := ofM_in ht
              have HI := Lib.hid (fun W (h : LS w1 gm s' (104 + i + 3) W) => iter_LS h 0)
              have hof : ofM s' 0 = itF := hof
              rw [hof] at HI
              have HC := Lib.hid (close_do ht)
              clear ht hof
              go_wp2_with fail
              refine (HI.out _ HJ.out.1.1).mono ?_
              rintro r Wi ⟨rfl, hni⟩
              have hli := HJ.out.1.1.grow hni
              have HLI := Lib.hid hli
              clear hli hni
              haveI : In gm Wi := ⟨HLI.out.im⟩
              have HDN := fun W (h : LS w1 gm s' (104 + i + 3) W) => do_LS h (by omega) 0 oEnd (by constructor <;> simp)
              rw [HC.out] at HDN
              unfold opV resV at HDN
              simp only at HDN
              have HDh := Lib.hid HDN
              clear HDN
              go_wp2_with fail
              refine (HDh.out _ (HLI.out.grow ((by repeat (first | exact Xt.Nw.refl _ | refine Xt.Nw.drew ?_ | refine Xt.Nw.drewN ?_ _ | refine Xt.Nw.alloc ?_ _ | refine Xt.Nw.joined ?_ | refine Xt.Nw.drewd ?_ | refine Xt.Nw.drewdN ?_ | refine Xt.Nw.ext ?_ | refine Xt.Nw.ext_some ?_ (by assumption) | refine Xt.Nw.setCell ?_ (by simp [go_sem] <;> omega) _))))).mono ?_
              rintro r We ⟨rfl, hle⟩
              have HLE := Lib.hid hle
              clear hle
              go_wp2_with (go_at_call 4; refine (HKN.out _).mono ?_; rintro e w' ⟨rfl, dW, rfl⟩)
              go_ret
              exact ⟨rfl, (HN1.out.trans HLE.out.nw).trans (by repeat (first | exact Xt.Nw.refl _ | refine Xt.Nw.drew ?_ | refine Xt.Nw.drewN ?_ _ | refine Xt.Nw.alloc ?_ _ | refine Xt.Nw.joined ?_ | refine Xt.Nw.drewd ?_ | refine Xt.Nw.drewdN ?_ | refine Xt.Nw.ext ?_ | refine Xt.Nw.ext_some ?_ (by assumption) | refine Xt.Nw.setCell ?_ (by simp [go_sem] <;> omega) _))⟩
    · have d2 : decide (lo ≤ sk) = false := by simp; omega
      obtain ⟨W6, hW6⟩ : ∃ W6, W6 = W5 := ⟨_, rfl⟩
      obtain ⟨s4, hs4⟩ : ∃ s4, s4 = s3 := ⟨_, rfl⟩
      subst hW6
      subst hs4
      have HT4 := HT3
      have H6 := Lib.hid (show LS w1 gm s4 (100 + 1 + 1 + 1 + 1) W6 by obtain ⟨p, a1, a2, a3, a4⟩ := H5.out; exact ⟨p, a1, a2, a3.mono (by omega), a4⟩)
      have HSL := Lib.hid hsl
      clear hsl
      go_wp2_with fail
      refine (pairs_LS H6.out (by omega)).mono ?_
      rintro r W7 ⟨vA, rfl, h7⟩
      have H7 := Lib.hid h7
      replace c0 := cell_nw b0 h7.ls.nw
      replace c1 := cell_nw b1 h7.ls.nw
      obtain ⟨m, hm⟩ : ∃ m, m = s4.l.length := ⟨_, rfl⟩
      obtain ⟨AA, cA, hvA⟩ : ∃ A c, vA = .slice A m c := by
        rcases own_forms h7.row with ⟨rfl, h0⟩ | ⟨g, c, rfl, _⟩
        · rw [hm, h0]; exact ⟨_, _, rfl⟩
        · rw [hm]; exact ⟨_, _, rfl⟩
      subst hvA
      have HM := Lib.hid hm
      have hm1 : m ≤ 104 := by rw [hm]; exact h7.ls.ok.len
      obtain ⟨l, hl⟩ : ∃ l, l = s4.l := ⟨_, rfl⟩
      have HLL := Lib.hid hl
      have HASC := Lib.hid (show asc l by rw [hl]; exact h7.ls.ok.asc)
      rw [← hl] at H7
      clear h7 hm hl
      go_wp2_with fail
      go_loopw [9, 10] (fun a _ wr => ∃ (i : Nat) (s : Md) (L : Int), i ≤ m ∧ a = .int .i64 i ∧ Hid (LSR w1 gm s (104 + i) wr (.slice AA m cA) l ∧ s.l = l ∧ s.th[0]? = some (itAt L hi) ∧ Sc l lo hi i L)) (fun a _ _ => m - (intOf a).toNat)
      case atStart => exact ⟨0, s4, lo, Nat.zero_le _, rfl, Lib.hid ⟨H7.out, HLL.out.symm, HT4.out, Sc.start _ _ _⟩⟩
      case round =>
        obtain ⟨i, s, L, hi', rfl, HL⟩ := hrel
        have hnr := HL.out.1.ls.nw
        replace c0 := cell_nw b0 hnr
        replace c1 := cell_nw b1 hnr
        haveI : In w.heap.size wr := ⟨World.block_lt_of_cell? wr _ c0⟩
        haveI : In gm wr := ⟨HL.out.1.ls.im⟩
        clear hnr
        by_cases him : i < m
        · obtain ⟨⟨pk, px⟩, hp⟩ : ∃ p, l[i]? = some p := ⟨_, List.getElem?_eq_getElem (by have := HM.out; have := HLL.out; rw [HLL.out]; omega)⟩
          obtain ⟨y0, y1⟩ := pcells_get l i _ hp
          have hrow := HL.out.1.row
          have hlm : l.length = m := by rw [HM.out, HLL.out]
          rw [hlm] at hrow
          rcases own_forms hrow with ⟨hA, h0⟩ | ⟨gC, cC', hA, _, hin, _, _⟩
          · omega
          injection hA with a1 a2 a3
          subst a1 a3
          have e0 : wr.cell? ⟨gC, i * 2, none⟩ = some (.int .u64 pk) := (hrow.cellAt _ (by omega)).trans y0
          have e1 : wr.cell? ⟨gC, i * 2 + 1, none⟩ = some (.int .u64 px) := (hrow.cellAt _ (by omega)).trans y1
          haveI : In gC wr := ⟨World.block_lt_of_cell? wr _ e0⟩
          have i1 : (i : Int) < (m : Int) := by omega
          have i0 : (0 : Int) ≤ (i : Int) := by omega
          have i3 : i < 1000 := by omega
          have HP := Lib.hid hp
          have HIM := Lib.hid him
          clear y0 y1 hp hrow hlm hin him
          by_cases k1 : pk < lo
          · have f1 : decide (pk < lo) = true := by simpa using k1
            have HSKIP := Lib.hid (show ¬ (lo ≤ pk ∧ pk ≤ hi) by have := HLH.out; have := HSL.out; omega)
            clear k1
            go_wp2
            exact ⟨⟨i + 1, s, L, by have := HIM.out; omega, by go_num, Lib.hid ⟨(HL.out.1.grow ((by repeat (first | exact Xt.Nw.refl _ | refine Xt.Nw.drew ?_ | refine Xt.Nw.drewN ?_ _ | refine Xt.Nw.alloc ?_ _ | refine Xt.Nw.joined ?_ | refine Xt.Nw.drewd ?_ | refine Xt.Nw.drewdN ?_ | refine Xt.Nw.ext ?_ | refine Xt.Nw.ext_some ?_ (by assumption) | refine Xt.Nw.setCell ?_ (by simp [go_sem] <;> omega) _)))).no (by omega), HL.out.2.1, HL.out.2.2.1, HL.out.2.2.2.skip HP.out HSKIP.out⟩⟩, by have := HIM.out; simp [intOf]; omega⟩
          have f1 : decide (pk < lo) = false := by simpa using k1
          by_cases k2 : hi < pk
          · have f2 : decide (hi < pk) = true := by simpa using k2
            have HSKIP := Lib.hid (show ¬ (lo ≤ pk ∧ pk ≤ hi) by omega)
            clear k1 k2
            go_wp2
            exact ⟨⟨i + 1, s, L, by have := HIM.out; omega, by go_num, Lib.hid ⟨(HL.out.1.grow ((by repeat (first | exact Xt.Nw.refl _ | refine Xt.Nw.drew ?_ | refine Xt.Nw.drewN ?_ _ | refine Xt.Nw.alloc ?_ _ | refine Xt.Nw.joined ?_ | refine Xt.Nw.drewd ?_ | refine Xt.Nw.drewdN ?_ | refine Xt.Nw.ext ?_ | refine Xt.Nw.ext_some ?_ (by assumption) | refine Xt.Nw.setCell ?_ (by simp [go_sem] <;> omega) _)))).no (by omega), HL.out.2.1, HL.out.2.2.1, HL.out.2.2.2.skip HP.out HSKIP.out⟩⟩, by have := HIM.out; simp [intOf]; omega⟩
          have f2 : decide (hi < pk) = false := by simpa using k2
          have HK := Lib.hid (show lo ≤ pk ∧ pk ≤ hi by omega)
          clear k1 k2
          go_upto_region 20 with (fail)
          obtain ⟨Wp, hWp⟩ : ∃ Wp, Wp = wr.alloc (.cells #[.int .u64 pk, .int .u64 px] 39) := ⟨_, rfl⟩
          have hnp : Nw wr Wp := by rw [hWp]; exact (Nw.refl wr).alloc _
          have g0 : Wp.cell? ⟨wr.heap.size, 0, none⟩ = some (.int .u64 pk) := by rw [hWp]; simp [go_sem]
          have g1 : Wp.cell? ⟨wr.heap.size, 1, none⟩ = some (.int .u64 px) := by rw [hWp]; simp [go_sem]
          rw [← hWp]
          have HNP := Lib.hid hnp
          clear hWp hnp
          have hnx := next_do HL.out.2.2.1 HHI.out.2 (show Sc s.l lo hi i L by rw [HL.out.2.1]; exact HL.out.2.2.2) (p := (pk, px)) (by rw [HL.out.2.1]; exact HP.out) HK.out.1 HK.out.2
          have HDN := do_LSR HL.out.1 (Nw.drew HNP.out) (by omega) 0 oNext (by constructor <;> simp)
          rw [hnx.1] at HDN
          unfold opV resV at HDN
          simp only at HDN
          have HNX := Lib.hid hnx
          have HDh := Lib.hid HDN
          clear hnx HDN
          go_region_held3 (fun w' => w'.cell? ⟨wr.heap.size, 0, none⟩ = some (.int .u64 pk) ∧ w'.cell? ⟨wr.heap.size, 1, none⟩ = some (.int .u64 px)) (first | exact ⟨g0, g1⟩ | exact ⟨hch.cell g0 (fun e => Nat.lt_irrefl _ (hX _ e)), hch.cell g1 (fun e => Nat.lt_irrefl _ (hX _ e))⟩)
            ((first | (go_at_call 6; refine HDh.out.mono ?_; rintro r W8 ⟨rfl, hls, X, hch, hX⟩)))
          have HLS := Lib.hid (⟨hls, HNX.out.2.1.trans HL.out.2.1, HNX.out.2.2, HL.out.2.2.2.take HASC.out HP.out HK.out.1⟩ : LSR w1 gm _ (104 + i + 1) W8 (.slice (some ⟨gC, 0, none⟩) m cA) l ∧ (doM s 0 oNext).2.l = l ∧ (doM s 0 oNext).2.th[0]? = some (itAt (pk + 1) hi) ∧ Sc l lo hi (i + 1) (pk + 1))
          clear hls hch hX
          go_wp2
          exact ⟨⟨i + 1, _, pk + 1, by have := HIM.out; omega, by go_num, HLS⟩, by have := HIM.out; simp [intOf]; omega⟩
        · obtain rfl : i = m := by omega
          have hlm : l.length = i := by rw [HM.out, HLL.out]
          have hno := Sc.none_left (show Sc l lo hi l.length L by rw [hlm]; exact HL.out.2.2.2)
          have HST := Lib.hid (⟨HL.out.1.ls, ⟨L, HL.out.2.2.1, by rw [HL.out.2.1]; exact hno⟩⟩ : LS w1 gm s (104 + i) wr ∧ ∃ L, s.th[0]? = some (itAt L hi) ∧ ∀ p ∈ s.l, ¬ (L ≤ p.1 ∧ p.1 ≤ hi))
          clear hno hlm
          go_wp2_with fail
          go_loopw [11] (fun a wx => ∃ (j : Nat) (s' : Md), j ≤ 3 ∧ a = .int .i64 j ∧ Hid ((LS w1 gm s' (104 + i + j) wx ∧ ∃ L, s'.th[0]? = some (itAt L hi) ∧ ∀ p ∈ s'.l, ¬ (L ≤ p.1 ∧ p.1 ≤ hi)) ∧ (0 < j → s'.th[0]? = some itF))) (fun a _ => 3 - (intOf a).toNat)
          case atStart => exact ⟨0, s, by omega, rfl, Lib.hid ⟨HST.out, fun h => by omega⟩⟩
          case round =>
            obtain ⟨j, s', hj, rfl, HJ⟩ := hrel
            by_cases hj3 : j < 3
            · have j1 : (j : Int) < 3 := by omega
              have HJ3 := Lib.hid hj3
              obtain ⟨⟨hls, L', ht', hno'⟩, -⟩ := HJ.out
              have hnx := end_do ht' hno'
              have HE := Lib.hid hnx
              have HNO := Lib.hid hno'
              have HDN := do_LS hls (by omega) 0 oNext (by constructor <;> simp)
              rw [hnx.1] at HDN
              unfold opV resV at HDN
              simp only at HDN
              have HDh := Lib.hid HDN
              clear hls ht' hno' hnx HDN hj3
              go_wp2_with fail
              refine HDh.out.mono ?_
              rintro r W9 ⟨rfl, h9⟩
              have HN9 := Lib.hid (⟨⟨h9, hi + 1, by rw [HE.out.2.2, itF_at hi], fun p _ h => by omega⟩, fun _ => HE.out.2.2⟩ : (LS w1 gm _ (104 + i + j + 1) W9 ∧ ∃ L, (doM s' 0 oNext).2.th[0]? = some (itAt L hi) ∧ ∀ p ∈ (doM s' 0 oNext).2.l, ¬ (L ≤ p.1 ∧ p.1 ≤ hi)) ∧ (0 < j + 1 → (doM s' 0 oNext).2.th[0]? = some itF))
              clear h9
              go_wp2
              exact ⟨⟨j + 1, _, by have := HJ3.out; omega, by go_num, HN9⟩, by have := HJ3.out; simp [intOf]; omega⟩
            · obtain rfl : j = 3 := by omega
              have ht := HJ.out.2 (by omega)
              have hof : ofM s' ((0 : Nat) : Int) = itF := ofM_in ht
              have HI := Lib.hid (fun W (h : LS w1 gm s' (104 + i + 3) W) => iter_LS h 0)
              have hof : ofM s' 0 = itF := hof
              rw [hof] at HI
              have HC := Lib.hid (close_do ht)
              clear ht hof
              go_wp2_with fail
              refine (HI.out _ HJ.out.1.1).mono ?_
              rintro r Wi ⟨rfl, hni⟩
              have hli := HJ.out.1.1.grow hni
              have HLI := Lib.hid hli
              clear hli hni
              haveI : In gm Wi := ⟨HLI.out.im⟩
              have HDN := fun W (h : LS w1 gm s' (104 + i + 3) W) => do_LS h (by omega) 0 oEnd (by constructor <;> simp)
              rw [HC.out] at HDN
              unfold opV resV at HDN
              simp only at HDN
              have HDh := Lib.hid HDN
              clear HDN
              go_wp2_with fail
              refine (HDh.out _ (HLI.out.grow ((by repeat (first | exact Xt.Nw.refl _ | refine Xt.Nw.drew ?_ | refine Xt.Nw.drewN ?_ _ | refine Xt.Nw.alloc ?_ _ | refine Xt.Nw.joined ?_ | refine Xt.Nw.drewd ?_ | refine Xt.Nw.drewdN ?_ | refine Xt.Nw.ext ?_ | refine Xt.Nw.ext_some ?_ (by assumption) | refine Xt.Nw.setCell ?_ (by simp [go_sem] <;> omega) _))))).mono ?_
              rintro r We ⟨rfl, hle⟩
              have HLE := Lib.hid hle
              clear hle
              go_wp2_with (go_at_call 4; refine (HKN.out _).mono ?_; rintro e w' ⟨rfl, dW, rfl⟩)
              go_ret
              exact ⟨rfl, (HN1.out.trans HLE.out.nw).trans (by repeat (first | exact Xt.Nw.refl _ | refine Xt.Nw.drew ?_ | refine Xt.Nw.drewN ?_ _ | refine Xt.Nw.alloc ?_ _ | refine Xt.Nw.joined ?_ | refine Xt.Nw.drewd ?_ | refine Xt.Nw.drewdN ?_ | refine Xt.Nw.ext ?_ | refine Xt.Nw.ext_some ?_ (by assumption) | refine Xt.Nw.setCell ?_ (by simp [go_sem] <;> omega) _))⟩
end Go.Proofs.Ytdjcndpnjoahmaa
