import Derived.Test.YtnldlkkmjabenaaDoorL2
import Derived.Deep.RegionHeld3
namespace Go.Proofs.YtnldlkkmjabenaaDoor
open Go.RowKit Go.Xt
theorem rd_tail {w : World} {b o k : Nat} {x : ByteArray} {r : List ByteArray} (h : Rd w 1 (some ⟨b, o, none⟩) (k + 1) (strs (x :: r))) : Rd w 1 (some ⟨b, o + 1, none⟩) k (strs r) :=
  ⟨by have := h.1; simp [strs] at this ⊢; omega, fun hp => by
    obtain ⟨b', o', e, hb, hc⟩ := h.2 (by omega)
    injection e with e; injection e with e1 e2 e3
    subst e1 e2
    exact ⟨b, o + 1, rfl, hb, fun j u hu => by rw [show o + 1 + j = o + (j + 1) by omega]; exact hc (j + 1) u (by simpa [strs] using hu)⟩⟩
theorem own_rd2 {W : World} {base : Nat} {e : TypeId} {v : Value} {n : Nat} {xs : List Value} (h : W.ownsRow base e 1 v n xs) : ∃ A c, v = .slice A n c ∧ Rd W 1 A n xs ∧ ∀ b o, A = some ⟨b, o, none⟩ → base ≤ b := by
  rcases h.2 with ⟨rfl, rfl⟩ | ⟨g, cap, cur, rfl, hb, hg, hn, hm, hcs, ht⟩
  · refine ⟨none, 0, rfl, ⟨h.1, fun hp => absurd hp (by omega)⟩, fun b o e => by cases e⟩
  · refine ⟨_, cap, rfl, ⟨h.1, fun _ => ⟨g, 0, rfl, (Array.getElem?_eq_some_iff.1 hg).1, fun j u hu => ?_⟩⟩, fun b o e => by cases e; exact hb⟩
    have hj : j < n := by have := (List.getElem?_eq_some_iff.1 hu).1; have := h.1; omega
    rw [Nat.zero_add, World.ownsRow.cellAt h j (by omega)]; exact hu
set_option maxRecDepth 20000 in
set_option maxHeartbeats 8000000 in
theorem parseop_any (s : ByteArray) (w : World) (H : FmtAt w) (HP : PuAt w) (HSp : SpAt w) (hs : s.size ≤ 1000) (hws : ∀ x ∈ wordsB s, x.size ≤ 1000) (hwn : (wordsB s).length ≤ 1000) :
    Calls Tryd.prog 8 #[.string s] w fun e w' => e = .returned (.tuple #[ov (parseW s (wordsB s)).1, .int .i64 (parseW s (wordsB s)).2]) ∧ Nw w w' := by
  obtain ⟨W1, hW1⟩ : ∃ W1, W1 = w.alloc (.cells #[.int .u8 0, .int .u64 0, .int .u64 0, .int .u64 0, .int .u64 0, .int .u64 0, .int .u64 0] 24) := ⟨_, rfl⟩
  have hN1 : Nw w W1 := by rw [hW1]; exact (by repeat (first | exact Xt.Nw.refl _ | refine Xt.Nw.drew ?_ | refine Xt.Nw.drewN ?_ _ | refine Xt.Nw.alloc ?_ _ | refine Xt.Nw.joined ?_ | refine Xt.Nw.drewd ?_ | refine Xt.Nw.drewdN ?_ | refine Xt.Nw.ext ?_ | refine Xt.Nw.ext_some ?_ (by assumption) | refine Xt.Nw.setCell ?_ (by simp [go_sem] <;> omega) _))
  have hG : AtO W1 w.heap.size noOp := by
    rw [hW1]; exact ⟨by simp, by simp [go_sem, noOp], sel_cases ⟨by simp [go_sem, sel, noOp], by simp [go_sem, sel, noOp], by simp [go_sem, sel, noOp], by simp [go_sem, sel, noOp], by simp [go_sem, sel, noOp], by simp [go_sem, sel, noOp]⟩⟩
  have hZ : ∀ o, W1.frozen? ⟨w.heap.size, o, none⟩ = false := fun o => by rw [hW1]; simp [go_sem]
  have HW1 := Lib.hid hW1
  have HN1 := Lib.hid hN1
  have HGA := Lib.hid hG
  have HGZ := Lib.hid hZ
  have HF := Lib.hid (H.nw hN1)
  have HPU := Lib.hid (HP.nw hN1)
  have HSP := Lib.hid (HSp.nw hN1)
  have HWS := Lib.hid hws
  obtain ⟨ws, hwsd⟩ : ∃ ws, wordsB s = ws := ⟨_, rfl⟩
  have hl0 : 0 < ws.length := by rw [← hwsd, wordsB_len]; omega
  cases ws with
  | nil => exact absurd hl0 (by simp)
  | cons w0 r =>
    obtain ⟨k, hk⟩ : ∃ k, r.length = k := ⟨_, rfl⟩
    have hk1 : (w0 :: r).length = k + 1 := by simp [hk]
    have hkn : k + 1 ≤ 1000 := by rw [← hk1, ← hwsd]; exact hwn
    have hsp := Lib.hid (fun W (h : Nw W1 W) => HSP.out W s h hs)
    rw [hwsd] at hsp
    rw [hk1] at hsp
    rw [hwsd]
    have hws2 : ∀ x ∈ r, x.size ≤ 1000 := fun x hx => hws x (by rw [hwsd]; simp [hx])
    have HW2 := Lib.hid hws2
    have HK := Lib.hid hk
    clear hW1 hN1 hG hZ H HP HSp hws hwsd hl0 hk hk1 hwn hws2 HWS
    by_cases h0 : w0 = ⟨#[111, 112]⟩
    · subst h0
      rcases Nat.eq_zero_or_pos k with hk0 | hk0
      · subst hk0
        have hr0 : r = [] := List.eq_nil_of_length_eq_zero HK.out
        subst hr0
        have hres := Lib.hid (show parseW s [⟨#[111, 112]⟩] = (noOp, 4) from rfl)
        go_enter Tryd.func8, Tryd.ntmps8
        go_wp2_with fail
        rw [← HW1.out]
        refine (hsp.out _ (Nw.refl _)).mono ?_
        rintro e W2 ⟨⟨b, rfl, hb, hr⟩, hn2⟩
        haveI : In b W2 := ⟨hb⟩
        have hc0 : W2.cell? ⟨b, 0, none⟩ = some (.string ⟨#[111, 112]⟩) := by
          obtain ⟨b', o', e1, _, hc⟩ := hr.2 (by omega)
          injection e1 with e1; injection e1 with e2 e3
          subst e2 e3
          exact hc 0 _ rfl
        have HN2 := Lib.hid hn2
        clear hr hn2
        go_wp2_with fail
        refine (numbers_any _ 0 0 [] 7 _ (HF.out.nw (HN2.out.trans ((by repeat (first | exact Xt.Nw.refl _ | refine Xt.Nw.drew ?_ | refine Xt.Nw.drewN ?_ _ | refine Xt.Nw.alloc ?_ _ | refine Xt.Nw.joined ?_ | refine Xt.Nw.drewd ?_ | refine Xt.Nw.drewdN ?_ | refine Xt.Nw.ext ?_ | refine Xt.Nw.ext_some ?_ (by assumption) | refine Xt.Nw.setCell ?_ (by simp [go_sem] <;> omega) _))))) (HPU.out.nw (HN2.out.trans ((by repeat (first | exact Xt.Nw.refl _ | refine Xt.Nw.drew ?_ | refine Xt.Nw.drewN ?_ _ | refine Xt.Nw.alloc ?_ _ | refine Xt.Nw.joined ?_ | refine Xt.Nw.drewd ?_ | refine Xt.Nw.drewdN ?_ | refine Xt.Nw.ext ?_ | refine Xt.Nw.ext_some ?_ (by assumption) | refine Xt.Nw.setCell ?_ (by simp [go_sem] <;> omega) _))))) (by omega) ⟨by simp [strs], fun h => absurd h (by omega)⟩ (by simp)).mono ?_
        rintro e W5 ⟨⟨v, b5, rfl, hP⟩, hn5⟩
        obtain rfl : b5 = false := hP
        have HN5 := Lib.hid (HN2.out.trans hn5)
        clear hn5
        have q5 := HGA.out.nw HN5.out
        have p0 : W5.cell? ⟨w.heap.size, 0, none⟩ = some (.int .u8 0) := q5.2.1
        have p1 : W5.cell? ⟨w.heap.size, 1, none⟩ = some (.int .u64 0) := q5.2.2 1 (by omega) (by omega)
        have p2 : W5.cell? ⟨w.heap.size, 2, none⟩ = some (.int .u64 0) := q5.2.2 2 (by omega) (by omega)
        have p3 : W5.cell? ⟨w.heap.size, 3, none⟩ = some (.int .u64 0) := q5.2.2 3 (by omega) (by omega)
        have p4 : W5.cell? ⟨w.heap.size, 4, none⟩ = some (.int .u64 0) := q5.2.2 4 (by omega) (by omega)
        have p5 : W5.cell? ⟨w.heap.size, 5, none⟩ = some (.int .u64 0) := q5.2.2 5 (by omega) (by omega)
        have p6 : W5.cell? ⟨w.heap.size, 6, none⟩ = some (.int .u64 0) := q5.2.2 6 (by omega) (by omega)
        have z0 : W5.frozen? ⟨w.heap.size, 0, none⟩ = false := (frozen_nw HGA.out.1 HN5.out).trans (HGZ.out 0)
        have z1 : W5.frozen? ⟨w.heap.size, 1, none⟩ = false := (frozen_nw HGA.out.1 HN5.out).trans (HGZ.out 1)
        have z2 : W5.frozen? ⟨w.heap.size, 2, none⟩ = false := (frozen_nw HGA.out.1 HN5.out).trans (HGZ.out 2)
        have z3 : W5.frozen? ⟨w.heap.size, 3, none⟩ = false := (frozen_nw HGA.out.1 HN5.out).trans (HGZ.out 3)
        have z4 : W5.frozen? ⟨w.heap.size, 4, none⟩ = false := (frozen_nw HGA.out.1 HN5.out).trans (HGZ.out 4)
        have z5 : W5.frozen? ⟨w.heap.size, 5, none⟩ = false := (frozen_nw HGA.out.1 HN5.out).trans (HGZ.out 5)
        have z6 : W5.frozen? ⟨w.heap.size, 6, none⟩ = false := (frozen_nw HGA.out.1 HN5.out).trans (HGZ.out 6)
        have HW5 := Lib.hid (HN1.out.trans HN5.out)
        clear q5
        go_wp2
        refine bodyPost_ret (v := .tuple #[ov noOp, .int .i64 4]) ?_ rfl ⟨by rw [hres.out], Nw.setCell (Nw.setCell (Nw.setCell (Nw.setCell (Nw.setCell (Nw.setCell (Nw.setCell (HW5.out) (p := ⟨w.heap.size, 0, none⟩) (Nat.le_refl _) _) (p := ⟨w.heap.size, 1, none⟩) (Nat.le_refl _) _) (p := ⟨w.heap.size, 2, none⟩) (Nat.le_refl _) _) (p := ⟨w.heap.size, 3, none⟩) (Nat.le_refl _) _) (p := ⟨w.heap.size, 4, none⟩) (Nat.le_refl _) _) (p := ⟨w.heap.size, 5, none⟩) (Nat.le_refl _) _) (p := ⟨w.heap.size, 6, none⟩) (Nat.le_refl _) _⟩
        simp [results, Tryd.results8, go_sem, noOp, *]
      · have hc0w : True := trivial
        go_enter Tryd.func8, Tryd.ntmps8
        go_wp2_with fail
        rw [← HW1.out]
        refine (hsp.out _ (Nw.refl _)).mono ?_
        rintro e W2 ⟨⟨b, rfl, hb, hr⟩, hn2⟩
        haveI : In b W2 := ⟨hb⟩
        have hc0 : W2.cell? ⟨b, 0, none⟩ = some (.string ⟨#[111, 112]⟩) := by
          obtain ⟨b', o', e1, _, hc⟩ := hr.2 (by omega)
          injection e1 with e1; injection e1 with e2 e3
          subst e2 e3
          exact hc 0 _ rfl
        have HRt := Lib.hid (rd_tail hr)
        have HN2 := Lib.hid hn2
        clear hr hn2
        go_wp2_with fail
        refine (numbers_any _ k k r 7 _ (HF.out.nw (HN2.out.trans ((by repeat (first | exact Xt.Nw.refl _ | refine Xt.Nw.drew ?_ | refine Xt.Nw.drewN ?_ _ | refine Xt.Nw.alloc ?_ _ | refine Xt.Nw.joined ?_ | refine Xt.Nw.drewd ?_ | refine Xt.Nw.drewdN ?_ | refine Xt.Nw.ext ?_ | refine Xt.Nw.ext_some ?_ (by assumption) | refine Xt.Nw.setCell ?_ (by simp [go_sem] <;> omega) _))))) (HPU.out.nw (HN2.out.trans ((by repeat (first | exact Xt.Nw.refl _ | refine Xt.Nw.drew ?_ | refine Xt.Nw.drewN ?_ _ | refine Xt.Nw.alloc ?_ _ | refine Xt.Nw.joined ?_ | refine Xt.Nw.drewd ?_ | refine Xt.Nw.drewdN ?_ | refine Xt.Nw.ext ?_ | refine Xt.Nw.ext_some ?_ (by assumption) | refine Xt.Nw.setCell ?_ (by simp [go_sem] <;> omega) _))))) (by omega) HRt.out HW2.out).mono ?_
        rintro e W5 ⟨⟨v, b5, rfl, hP⟩, hn5⟩
        have HN5 := Lib.hid (HN2.out.trans hn5)
        clear hn5
        cases hR : numsR r 7 with
        | none =>
          rw [hR] at hP
          obtain rfl : b5 = false := hP
          have hres := Lib.hid (show parseW s (⟨#[111, 112]⟩ :: r) = (noOp, 4) by simp [parseW, hR])
          clear hR
          have q5 := HGA.out.nw HN5.out
          have p0 : W5.cell? ⟨w.heap.size, 0, none⟩ = some (.int .u8 0) := q5.2.1
          have p1 : W5.cell? ⟨w.heap.size, 1, none⟩ = some (.int .u64 0) := q5.2.2 1 (by omega) (by omega)
          have p2 : W5.cell? ⟨w.heap.size, 2, none⟩ = some (.int .u64 0) := q5.2.2 2 (by omega) (by omega)
          have p3 : W5.cell? ⟨w.heap.size, 3, none⟩ = some (.int .u64 0) := q5.2.2 3 (by omega) (by omega)
          have p4 : W5.cell? ⟨w.heap.size, 4, none⟩ = some (.int .u64 0) := q5.2.2 4 (by omega) (by omega)
          have p5 : W5.cell? ⟨w.heap.size, 5, none⟩ = some (.int .u64 0) := q5.2.2 5 (by omega) (by omega)
          have p6 : W5.cell? ⟨w.heap.size, 6, none⟩ = some (.int .u64 0) := q5.2.2 6 (by omega) (by omega)
          have z0 : W5.frozen? ⟨w.heap.size, 0, none⟩ = false := (frozen_nw HGA.out.1 HN5.out).trans (HGZ.out 0)
          have z1 : W5.frozen? ⟨w.heap.size, 1, none⟩ = false := (frozen_nw HGA.out.1 HN5.out).trans (HGZ.out 1)
          have z2 : W5.frozen? ⟨w.heap.size, 2, none⟩ = false := (frozen_nw HGA.out.1 HN5.out).trans (HGZ.out 2)
          have z3 : W5.frozen? ⟨w.heap.size, 3, none⟩ = false := (frozen_nw HGA.out.1 HN5.out).trans (HGZ.out 3)
          have z4 : W5.frozen? ⟨w.heap.size, 4, none⟩ = false := (frozen_nw HGA.out.1 HN5.out).trans (HGZ.out 4)
          have z5 : W5.frozen? ⟨w.heap.size, 5, none⟩ = false := (frozen_nw HGA.out.1 HN5.out).trans (HGZ.out 5)
          have z6 : W5.frozen? ⟨w.heap.size, 6, none⟩ = false := (frozen_nw HGA.out.1 HN5.out).trans (HGZ.out 6)
          have HW5 := Lib.hid (HN1.out.trans HN5.out)
          clear q5
          go_wp2
          refine bodyPost_ret (v := .tuple #[ov noOp, .int .i64 4]) ?_ rfl ⟨by rw [hres.out], Nw.setCell (Nw.setCell (Nw.setCell (Nw.setCell (Nw.setCell (Nw.setCell (Nw.setCell (HW5.out) (p := ⟨w.heap.size, 0, none⟩) (Nat.le_refl _) _) (p := ⟨w.heap.size, 1, none⟩) (Nat.le_refl _) _) (p := ⟨w.heap.size, 2, none⟩) (Nat.le_refl _) _) (p := ⟨w.heap.size, 3, none⟩) (Nat.le_refl _) _) (p := ⟨w.heap.size, 4, none⟩) (Nat.le_refl _) _) (p := ⟨w.heap.size, 5, none⟩) (Nat.le_refl _) _) (p := ⟨w.heap.size, 6, none⟩) (Nat.le_refl _) _⟩
          simp [results, Tryd.results8, go_sem, noOp, *]
        | some ns =>
          rw [hR] at hP
          obtain ⟨rfl, hown⟩ := hP
          have hl7 : ns.length = 7 := by
            unfold numsR at hR
            split at hR
            · rename_i h7
              have := allB_len hR; omega
            · cases hR
          have hlt : ∀ u ∈ ns, u < 18446744073709551616 := by
            unfold numsR at hR
            split at hR
            · exact allB_lt hR
            · cases hR
          obtain ⟨n0, n1, n2, n3, n4, n5, n6, rfl⟩ : ∃ n0 n1 n2 n3 n4 n5 n6, ns = [n0, n1, n2, n3, n4, n5, n6] := by
            match ns, hl7 with
            | [n0, n1, n2, n3, n4, n5, n6], _ => exact ⟨n0, n1, n2, n3, n4, n5, n6, rfl⟩
          obtain ⟨A5, c5, rfl, hr5⟩ := own_rd hown
          obtain ⟨bb, oo, rfl, hbb, hcc⟩ := hr5.2 (by simp)
          haveI : In bb W5 := ⟨hbb⟩
          have y0 : W5.cell? ⟨bb, oo, none⟩ = some (.int .u64 (n0 : Int)) := hcc 0 _ rfl
          have y1 : W5.cell? ⟨bb, oo + 1, none⟩ = some (.int .u64 (n1 : Int)) := hcc 1 _ rfl
          have y2 : W5.cell? ⟨bb, oo + 2, none⟩ = some (.int .u64 (n2 : Int)) := hcc 2 _ rfl
          have y3 : W5.cell? ⟨bb, oo + 3, none⟩ = some (.int .u64 (n3 : Int)) := hcc 3 _ rfl
          have y4 : W5.cell? ⟨bb, oo + 4, none⟩ = some (.int .u64 (n4 : Int)) := hcc 4 _ rfl
          have y5 : W5.cell? ⟨bb, oo + 5, none⟩ = some (.int .u64 (n5 : Int)) := hcc 5 _ rfl
          have y6 : W5.cell? ⟨bb, oo + 6, none⟩ = some (.int .u64 (n6 : Int)) := hcc 6 _ rfl
          rw [show [n0, n1, n2, n3, n4, n5, n6].length = 7 from rfl]
          have hR2 := Lib.hid hR
          have hLT := Lib.hid hlt
          clear hown hr5 hcc hR hlt hl7
          by_cases hg : 255 < n0
          · have d1 : decide ((255 : Int) < (n0 : Int)) = true := by rw [decide_eq_true_eq]; omega
            have d2 : decide (255 < n0) = true := by simpa using hg
            have hres := Lib.hid (show parseW s (⟨#[111, 112]⟩ :: r) = (noOp, 4) by simp [parseW, hR2.out, hg])
            have q5 := HGA.out.nw HN5.out
            have p0 : W5.cell? ⟨w.heap.size, 0, none⟩ = some (.int .u8 0) := q5.2.1
            have p1 : W5.cell? ⟨w.heap.size, 1, none⟩ = some (.int .u64 0) := q5.2.2 1 (by omega) (by omega)
            have p2 : W5.cell? ⟨w.heap.size, 2, none⟩ = some (.int .u64 0) := q5.2.2 2 (by omega) (by omega)
            have p3 : W5.cell? ⟨w.heap.size, 3, none⟩ = some (.int .u64 0) := q5.2.2 3 (by omega) (by omega)
            have p4 : W5.cell? ⟨w.heap.size, 4, none⟩ = some (.int .u64 0) := q5.2.2 4 (by omega) (by omega)
            have p5 : W5.cell? ⟨w.heap.size, 5, none⟩ = some (.int .u64 0) := q5.2.2 5 (by omega) (by omega)
            have p6 : W5.cell? ⟨w.heap.size, 6, none⟩ = some (.int .u64 0) := q5.2.2 6 (by omega) (by omega)
            have z0 : W5.frozen? ⟨w.heap.size, 0, none⟩ = false := (frozen_nw HGA.out.1 HN5.out).trans (HGZ.out 0)
            have z1 : W5.frozen? ⟨w.heap.size, 1, none⟩ = false := (frozen_nw HGA.out.1 HN5.out).trans (HGZ.out 1)
            have z2 : W5.frozen? ⟨w.heap.size, 2, none⟩ = false := (frozen_nw HGA.out.1 HN5.out).trans (HGZ.out 2)
            have z3 : W5.frozen? ⟨w.heap.size, 3, none⟩ = false := (frozen_nw HGA.out.1 HN5.out).trans (HGZ.out 3)
            have z4 : W5.frozen? ⟨w.heap.size, 4, none⟩ = false := (frozen_nw HGA.out.1 HN5.out).trans (HGZ.out 4)
            have z5 : W5.frozen? ⟨w.heap.size, 5, none⟩ = false := (frozen_nw HGA.out.1 HN5.out).trans (HGZ.out 5)
            have z6 : W5.frozen? ⟨w.heap.size, 6, none⟩ = false := (frozen_nw HGA.out.1 HN5.out).trans (HGZ.out 6)
            have HW5 := Lib.hid (HN1.out.trans HN5.out)
            clear q5
            go_wp2
            refine bodyPost_ret (v := .tuple #[ov noOp, .int .i64 4]) ?_ rfl ⟨by rw [hres.out], Nw.setCell (Nw.setCell (Nw.setCell (Nw.setCell (Nw.setCell (Nw.setCell (Nw.setCell (HW5.out) (p := ⟨w.heap.size, 0, none⟩) (Nat.le_refl _) _) (p := ⟨w.heap.size, 1, none⟩) (Nat.le_refl _) _) (p := ⟨w.heap.size, 2, none⟩) (Nat.le_refl _) _) (p := ⟨w.heap.size, 3, none⟩) (Nat.le_refl _) _) (p := ⟨w.heap.size, 4, none⟩) (Nat.le_refl _) _) (p := ⟨w.heap.size, 5, none⟩) (Nat.le_refl _) _) (p := ⟨w.heap.size, 6, none⟩) (Nat.le_refl _) _⟩
            simp [results, Tryd.results8, go_sem, noOp, *]
          · have d1 : decide ((255 : Int) < (n0 : Int)) = false := by simp; omega
            have d2 : decide (255 < n0) = false := by simpa using hg
            have hn0 : (n0 : Int) < 256 := by omega
            go_upto_region 6 with (fail)
            go_region_held3 (fun w' => Nw W5 w' ∧ w'.cell? ⟨bb, oo, none⟩ = some (.int .u64 (n0 : Int)) ∧ w'.cell? ⟨bb, oo + 1, none⟩ = some (.int .u64 (n1 : Int)) ∧ w'.cell? ⟨bb, oo + 2, none⟩ = some (.int .u64 (n2 : Int)) ∧ w'.cell? ⟨bb, oo + 3, none⟩ = some (.int .u64 (n3 : Int)) ∧ w'.cell? ⟨bb, oo + 4, none⟩ = some (.int .u64 (n4 : Int)) ∧ w'.cell? ⟨bb, oo + 5, none⟩ = some (.int .u64 (n5 : Int)) ∧ w'.cell? ⟨bb, oo + 6, none⟩ = some (.int .u64 (n6 : Int))) (exact ⟨by (repeat (first | exact Xt.Nw.refl _ | assumption | (exact (‹Xt.Nw W5 _ ∧ _›).1) | refine Xt.Nw.drew ?_ | refine Xt.Nw.drewN ?_ _ | refine Xt.Nw.alloc ?_ _ | refine Xt.Nw.ext ?_)), cell_nw y0 (by (repeat (first | exact Xt.Nw.refl _ | assumption | (exact (‹Xt.Nw W5 _ ∧ _›).1) | refine Xt.Nw.drew ?_ | refine Xt.Nw.drewN ?_ _ | refine Xt.Nw.alloc ?_ _ | refine Xt.Nw.ext ?_))), cell_nw y1 (by (repeat (first | exact Xt.Nw.refl _ | assumption | (exact (‹Xt.Nw W5 _ ∧ _›).1) | refine Xt.Nw.drew ?_ | refine Xt.Nw.drewN ?_ _ | refine Xt.Nw.alloc ?_ _ | refine Xt.Nw.ext ?_))), cell_nw y2 (by (repeat (first | exact Xt.Nw.refl _ | assumption | (exact (‹Xt.Nw W5 _ ∧ _›).1) | refine Xt.Nw.drew ?_ | refine Xt.Nw.drewN ?_ _ | refine Xt.Nw.alloc ?_ _ | refine Xt.Nw.ext ?_))), cell_nw y3 (by (repeat (first | exact Xt.Nw.refl _ | assumption | (exact (‹Xt.Nw W5 _ ∧ _›).1) | refine Xt.Nw.drew ?_ | refine Xt.Nw.drewN ?_ _ | refine Xt.Nw.alloc ?_ _ | refine Xt.Nw.ext ?_))), cell_nw y4 (by (repeat (first | exact Xt.Nw.refl _ | assumption | (exact (‹Xt.Nw W5 _ ∧ _›).1) | refine Xt.Nw.drew ?_ | refine Xt.Nw.drewN ?_ _ | refine Xt.Nw.alloc ?_ _ | refine Xt.Nw.ext ?_))), cell_nw y5 (by (repeat (first | exact Xt.Nw.refl _ | assumption | (exact (‹Xt.Nw W5 _ ∧ _›).1) | refine Xt.Nw.drew ?_ | refine Xt.Nw.drewN ?_ _ | refine Xt.Nw.alloc ?_ _ | refine Xt.Nw.ext ?_))), cell_nw y6 (by (repeat (first | exact Xt.Nw.refl _ | assumption | (exact (‹Xt.Nw W5 _ ∧ _›).1) | refine Xt.Nw.drew ?_ | refine Xt.Nw.drewN ?_ _ | refine Xt.Nw.alloc ?_ _ | refine Xt.Nw.ext ?_)))⟩) (fail)
            go_wp2_with fail
            obtain ⟨g7, hg7⟩ : ∃ g, g = W5.heap.size := ⟨_, rfl⟩
            obtain ⟨Wa, hWa⟩ : ∃ Wa, Wa = (W5.alloc (.cells #[.int .u8 (n0 : Int), .int .u64 (n1 : Int), .int .u64 (n2 : Int), .int .u64 (n3 : Int), .int .u64 (n4 : Int), .int .u64 (n5 : Int), .int .u64 (n6 : Int)] 24)).drew := ⟨_, rfl⟩
            rw [← hWa, ← hg7]
            obtain ⟨X, hX⟩ : ∃ X : Opn, X = ⟨(n0 : Int), (n1 : Int), (n2 : Int), (n3 : Int), (n4 : Int), (n5 : Int), (n6 : Int)⟩ := ⟨_, rfl⟩
            have hA7 : AtO Wa g7 X := by
              rw [hWa, hg7, hX]; exact ⟨by show _ < (W5.alloc _).heap.size; simp, by simp [go_sem], sel_cases ⟨by simp [go_sem, sel], by simp [go_sem, sel], by simp [go_sem, sel], by simp [go_sem, sel], by simp [go_sem, sel], by simp [go_sem, sel]⟩⟩
            have hn7 : Nw W5 Wa := by rw [hWa]; exact (by repeat (first | exact Xt.Nw.refl _ | refine Xt.Nw.drew ?_ | refine Xt.Nw.drewN ?_ _ | refine Xt.Nw.alloc ?_ _ | refine Xt.Nw.joined ?_ | refine Xt.Nw.drewd ?_ | refine Xt.Nw.drewdN ?_ | refine Xt.Nw.ext ?_ | refine Xt.Nw.ext_some ?_ (by assumption) | refine Xt.Nw.setCell ?_ (by simp [go_sem] <;> omega) _))
            have hwf : WfO X := by
              rw [hX]
              have h1 := hLT.out n1 (by simp); have h2 := hLT.out n2 (by simp); have h3 := hLT.out n3 (by simp); have h4 := hLT.out n4 (by simp); have h5 := hLT.out n5 (by simp); have h6 := hLT.out n6 (by simp)
              exact ⟨⟨by show (0 : Int) ≤ (n0 : Int); omega, by show (n0 : Int) < _; omega⟩, ⟨by show (0 : Int) ≤ (n1 : Int); omega, by show (n1 : Int) < _; omega⟩, ⟨by show (0 : Int) ≤ (n2 : Int); omega, by show (n2 : Int) < _; omega⟩, ⟨by show (0 : Int) ≤ (n3 : Int); omega, by show (n3 : Int) < _; omega⟩, ⟨by show (0 : Int) ≤ (n4 : Int); omega, by show (n4 : Int) < _; omega⟩, ⟨by show (0 : Int) ≤ (n5 : Int); omega, by show (n5 : Int) < _; omega⟩, ⟨by show (0 : Int) ≤ (n6 : Int); omega, by show (n6 : Int) < _; omega⟩⟩
            have hop := op_any X Wa (HF.out.nw (HN5.out.trans hn7)) hwf
            have hmk : mkOp [n0, n1, n2, n3, n4, n5, n6] = X := by rw [hX]; rfl
            obtain ⟨t, ht⟩ : ∃ t : ByteArray, t = ⟨(lineO X).toArray⟩ := ⟨_, rfl⟩
            rw [← ht, hX] at hop
            refine hop.mono ?_
            rintro e W6 ⟨rfl, hn6⟩
            have hA6 := hA7.nw hn6
            rw [hX] at hA6
            have HN6 := Lib.hid (HN5.out.trans (hn7.trans hn6))
            have u0 : W6.cell? ⟨g7, 0, none⟩ = some (.int .u8 (n0 : Int)) := hA6.2.1
            have u1 : W6.cell? ⟨g7, 1, none⟩ = some (.int .u64 (n1 : Int)) := hA6.2.2 1 (by omega) (by omega)
            have u2 : W6.cell? ⟨g7, 2, none⟩ = some (.int .u64 (n2 : Int)) := hA6.2.2 2 (by omega) (by omega)
            have u3 : W6.cell? ⟨g7, 3, none⟩ = some (.int .u64 (n3 : Int)) := hA6.2.2 3 (by omega) (by omega)
            have u4 : W6.cell? ⟨g7, 4, none⟩ = some (.int .u64 (n4 : Int)) := hA6.2.2 4 (by omega) (by omega)
            have u5 : W6.cell? ⟨g7, 5, none⟩ = some (.int .u64 (n5 : Int)) := hA6.2.2 5 (by omega) (by omega)
            have u6 : W6.cell? ⟨g7, 6, none⟩ = some (.int .u64 (n6 : Int)) := hA6.2.2 6 (by omega) (by omega)
            by_cases he : t = s
            · have d3 : (t.toList == s.toList) = true := by rw [str_beq]; simpa using he
              have hres := Lib.hid (show parseW s (⟨#[111, 112]⟩ :: r) = (⟨(n0 : Int), (n1 : Int), (n2 : Int), (n3 : Int), (n4 : Int), (n5 : Int), (n6 : Int)⟩, 0) by
                have h1 : lineO X = s.data.toList := (str_iff _ _).1 (ht ▸ he)
                rw [show (⟨(n0 : Int), (n1 : Int), (n2 : Int), (n3 : Int), (n4 : Int), (n5 : Int), (n6 : Int)⟩ : Opn) = X from hX.symm]
                simp [parseW, hR2.out, hg, hmk, h1])
              clear he ht hop hmk hwf hn7 hn6 hA6 hA7 hWa hg7 hX
              have q5 := HGA.out.nw HN6.out
              have p0 : W6.cell? ⟨w.heap.size, 0, none⟩ = some (.int .u8 0) := q5.2.1
              have p1 : W6.cell? ⟨w.heap.size, 1, none⟩ = some (.int .u64 0) := q5.2.2 1 (by omega) (by omega)
              have p2 : W6.cell? ⟨w.heap.size, 2, none⟩ = some (.int .u64 0) := q5.2.2 2 (by omega) (by omega)
              have p3 : W6.cell? ⟨w.heap.size, 3, none⟩ = some (.int .u64 0) := q5.2.2 3 (by omega) (by omega)
              have p4 : W6.cell? ⟨w.heap.size, 4, none⟩ = some (.int .u64 0) := q5.2.2 4 (by omega) (by omega)
              have p5 : W6.cell? ⟨w.heap.size, 5, none⟩ = some (.int .u64 0) := q5.2.2 5 (by omega) (by omega)
              have p6 : W6.cell? ⟨w.heap.size, 6, none⟩ = some (.int .u64 0) := q5.2.2 6 (by omega) (by omega)
              have z0 : W6.frozen? ⟨w.heap.size, 0, none⟩ = false := (frozen_nw HGA.out.1 HN6.out).trans (HGZ.out 0)
              have z1 : W6.frozen? ⟨w.heap.size, 1, none⟩ = false := (frozen_nw HGA.out.1 HN6.out).trans (HGZ.out 1)
              have z2 : W6.frozen? ⟨w.heap.size, 2, none⟩ = false := (frozen_nw HGA.out.1 HN6.out).trans (HGZ.out 2)
              have z3 : W6.frozen? ⟨w.heap.size, 3, none⟩ = false := (frozen_nw HGA.out.1 HN6.out).trans (HGZ.out 3)
              have z4 : W6.frozen? ⟨w.heap.size, 4, none⟩ = false := (frozen_nw HGA.out.1 HN6.out).trans (HGZ.out 4)
              have z5 : W6.frozen? ⟨w.heap.size, 5, none⟩ = false := (frozen_nw HGA.out.1 HN6.out).trans (HGZ.out 5)
              have z6 : W6.frozen? ⟨w.heap.size, 6, none⟩ = false := (frozen_nw HGA.out.1 HN6.out).trans (HGZ.out 6)
              have HW5 := Lib.hid (HN1.out.trans HN6.out)
              clear q5
              go_wp2
              refine bodyPost_ret (v := .tuple #[ov ⟨(n0 : Int), (n1 : Int), (n2 : Int), (n3 : Int), (n4 : Int), (n5 : Int), (n6 : Int)⟩, .int .i64 0]) ?_ rfl ⟨by rw [hres.out], Nw.setCell (Nw.setCell (Nw.setCell (Nw.setCell (Nw.setCell (Nw.setCell (Nw.setCell (HW5.out) (p := ⟨w.heap.size, 0, none⟩) (Nat.le_refl _) _) (p := ⟨w.heap.size, 1, none⟩) (Nat.le_refl _) _) (p := ⟨w.heap.size, 2, none⟩) (Nat.le_refl _) _) (p := ⟨w.heap.size, 3, none⟩) (Nat.le_refl _) _) (p := ⟨w.heap.size, 4, none⟩) (Nat.le_refl _) _) (p := ⟨w.heap.size, 5, none⟩) (Nat.le_refl _) _) (p := ⟨w.heap.size, 6, none⟩) (Nat.le_refl _) _⟩
              simp [results, Tryd.results8, go_sem, *]
            · have d3 : (t.toList == s.toList) = false := by rw [str_beq]; simpa using he
              have hres := Lib.hid (show parseW s (⟨#[111, 112]⟩ :: r) = (noOp, 4) by
                have h1 : ¬ lineO X = s.data.toList := fun h => he (ht ▸ (str_iff _ _).2 h)
                simp [parseW, hR2.out, hg, hmk, h1])
              clear he ht hop hmk hwf hn7 hn6 hA6 hA7 hWa hg7 hX
              have q5 := HGA.out.nw HN6.out
              have p0 : W6.cell? ⟨w.heap.size, 0, none⟩ = some (.int .u8 0) := q5.2.1
              have p1 : W6.cell? ⟨w.heap.size, 1, none⟩ = some (.int .u64 0) := q5.2.2 1 (by omega) (by omega)
              have p2 : W6.cell? ⟨w.heap.size, 2, none⟩ = some (.int .u64 0) := q5.2.2 2 (by omega) (by omega)
              have p3 : W6.cell? ⟨w.heap.size, 3, none⟩ = some (.int .u64 0) := q5.2.2 3 (by omega) (by omega)
              have p4 : W6.cell? ⟨w.heap.size, 4, none⟩ = some (.int .u64 0) := q5.2.2 4 (by omega) (by omega)
              have p5 : W6.cell? ⟨w.heap.size, 5, none⟩ = some (.int .u64 0) := q5.2.2 5 (by omega) (by omega)
              have p6 : W6.cell? ⟨w.heap.size, 6, none⟩ = some (.int .u64 0) := q5.2.2 6 (by omega) (by omega)
              have z0 : W6.frozen? ⟨w.heap.size, 0, none⟩ = false := (frozen_nw HGA.out.1 HN6.out).trans (HGZ.out 0)
              have z1 : W6.frozen? ⟨w.heap.size, 1, none⟩ = false := (frozen_nw HGA.out.1 HN6.out).trans (HGZ.out 1)
              have z2 : W6.frozen? ⟨w.heap.size, 2, none⟩ = false := (frozen_nw HGA.out.1 HN6.out).trans (HGZ.out 2)
              have z3 : W6.frozen? ⟨w.heap.size, 3, none⟩ = false := (frozen_nw HGA.out.1 HN6.out).trans (HGZ.out 3)
              have z4 : W6.frozen? ⟨w.heap.size, 4, none⟩ = false := (frozen_nw HGA.out.1 HN6.out).trans (HGZ.out 4)
              have z5 : W6.frozen? ⟨w.heap.size, 5, none⟩ = false := (frozen_nw HGA.out.1 HN6.out).trans (HGZ.out 5)
              have z6 : W6.frozen? ⟨w.heap.size, 6, none⟩ = false := (frozen_nw HGA.out.1 HN6.out).trans (HGZ.out 6)
              have HW5 := Lib.hid (HN1.out.trans HN6.out)
              clear q5
              go_wp2
              refine bodyPost_ret (v := .tuple #[ov noOp, .int .i64 4]) ?_ rfl ⟨by rw [hres.out], Nw.setCell (Nw.setCell (Nw.setCell (Nw.setCell (Nw.setCell (Nw.setCell (Nw.setCell (HW5.out) (p := ⟨w.heap.size, 0, none⟩) (Nat.le_refl _) _) (p := ⟨w.heap.size, 1, none⟩) (Nat.le_refl _) _) (p := ⟨w.heap.size, 2, none⟩) (Nat.le_refl _) _) (p := ⟨w.heap.size, 3, none⟩) (Nat.le_refl _) _) (p := ⟨w.heap.size, 4, none⟩) (Nat.le_refl _) _) (p := ⟨w.heap.size, 5, none⟩) (Nat.le_refl _) _) (p := ⟨w.heap.size, 6, none⟩) (Nat.le_refl _) _⟩
              simp [results, Tryd.results8, go_sem, noOp, *]
    · have hne : (w0.toList == [111, 112]) = false := by
        have := str_beq w0 ⟨#[111, 112]⟩
        rw [show (⟨#[111, 112]⟩ : ByteArray).toList = [111, 112] by rw [ByteArray.toList_eq]] at this
        rw [this]; simpa using h0
      have hw0 := Lib.hid h0
      obtain ⟨v0, hv0⟩ : ∃ v, v = w0.data.toList := ⟨_, rfl⟩
      have HV := Lib.hid hv0
      clear h0 hv0
      go_enter Tryd.func8, Tryd.ntmps8
      go_wp2_with fail
      rw [← HW1.out]
      refine (hsp.out _ (Nw.refl _)).mono ?_
      rintro e W2 ⟨⟨b, rfl, hb, hr⟩, hn2⟩
      haveI : In b W2 := ⟨hb⟩
      have hc0 : W2.cell? ⟨b, 0, none⟩ = some (.string w0) := by
        obtain ⟨b', o', e1, _, hc⟩ := hr.2 (by omega)
        injection e1 with e1; injection e1 with e2 e3
        subst e2 e3
        exact hc 0 _ rfl
      have HRt := Lib.hid (rd_tail hr)
      have HN2 := Lib.hid hn2
      clear hr hn2
      go_wp2_with fail
      go_loopw [10] (fun a wr => ∃ q : Nat, 1 ≤ q ∧ q ≤ 16 ∧ a = .int .u8 q ∧ Hid (kindOf v0 = kindF v0 (16 - q) (q : Int)) ∧ Nw W2 wr) (fun a _ => 16 - (intOf a).toNat)
      case atStart => exact ⟨1, by omega, by omega, rfl, rfl, Nw.refl _⟩
      case round =>
        obtain ⟨q, hq1, hq16, rfl, hkd, d, rfl⟩ := hrel
        by_cases hlt : q ≤ 15
        · have hq15 : (q : Int) ≤ 15 := by omega
          have hwd := Lib.hid (fun W => word_any (q : Int) W (by omega) (by omega))
          obtain ⟨tw, htw⟩ : ∃ t : ByteArray, t = ⟨(wordL (q : Int)).toArray⟩ := ⟨_, rfl⟩
          rw [← htw] at hwd
          have hstep : kindF v0 (16 - q) (q : Int) = if wordL (q : Int) = v0 then some (q : Int) else kindF v0 (16 - (q + 1)) ((q + 1 : Nat) : Int) := by
            rw [show 16 - q = (16 - (q + 1)) + 1 by omega, kindF]
            rfl
          by_cases he : tw = w0
          · have hwl : wordL (q : Int) = v0 := by rw [HV.out]; exact (str_iff _ _).1 (htw ▸ he)
            have hfound := Lib.hid (show kindOf v0 = some (q : Int) by rw [hkd.out, hstep, if_pos hwl])
            have d3 : (tw.toList == w0.toList) = true := by rw [str_beq]; simpa using he
            clear he htw hwl hstep hkd
            have hY := Lib.hid hfound.out
            go_upto_region 14 with (fail)
            (refine wp_region_nw (by kernel_rfl) (by kernel_rfl) ?_; (repeat (go_big_quiet_step ((go_at_call 12; exact quiet_of (hwd.out _))))); refine wpQuiet_nil ?_; intro _ hreg; obtain ⟨dW, rfl⟩ : Nw _ _ := hreg)
            have hn4 : Nw W2 ((W2.ext none d).ext none dW) := (by repeat (first | exact Xt.Nw.refl _ | refine Xt.Nw.drew ?_ | refine Xt.Nw.drewN ?_ _ | refine Xt.Nw.alloc ?_ _ | refine Xt.Nw.joined ?_ | refine Xt.Nw.drewd ?_ | refine Xt.Nw.drewdN ?_ | refine Xt.Nw.ext ?_ | refine Xt.Nw.ext_some ?_ (by assumption) | refine Xt.Nw.setCell ?_ (by simp [go_sem] <;> omega) _))
            generalize (W2.ext none d).ext none dW = W4 at *
            have hc4 := cell_nw hc0 hn4
            haveI : In b W4 := ⟨World.block_lt_of_cell? W4 _ hc4⟩
            have HR4 := Lib.hid (HRt.out.nw hn4)
            have HN4 := Lib.hid (HN2.out.trans hn4)
            clear hn4 hc0
            go_wp2_with fail
            obtain ⟨g7, hg7⟩ : ∃ g, g = W4.heap.size := ⟨_, rfl⟩
            obtain ⟨Wa, hWa⟩ : ∃ Wa, Wa = W4.alloc (.cells #[.int .u8 (q : Int), .int .u64 0, .int .u64 0, .int .u64 0, .int .u64 0, .int .u64 0, .int .u64 0] 24) := ⟨_, rfl⟩
            rw [← hWa, ← hg7]
            have hA7 : AtO Wa g7 ⟨(q : Int), 0, 0, 0, 0, 0, 0⟩ := by
              rw [hWa, hg7]; exact ⟨by simp, by simp [go_sem], sel_cases ⟨by simp [go_sem, sel], by simp [go_sem, sel], by simp [go_sem, sel], by simp [go_sem, sel], by simp [go_sem, sel], by simp [go_sem, sel]⟩⟩
            have hZ7 : ∀ o, Wa.frozen? ⟨g7, o, none⟩ = false := fun o => by rw [hWa, hg7]; simp [go_sem]
            have hn7 : Nw W4 Wa := by rw [hWa]; exact (by repeat (first | exact Xt.Nw.refl _ | refine Xt.Nw.drew ?_ | refine Xt.Nw.drewN ?_ _ | refine Xt.Nw.alloc ?_ _ | refine Xt.Nw.joined ?_ | refine Xt.Nw.drewd ?_ | refine Xt.Nw.drewdN ?_ | refine Xt.Nw.ext ?_ | refine Xt.Nw.ext_some ?_ (by assumption) | refine Xt.Nw.setCell ?_ (by simp [go_sem] <;> omega) _))
            have hg47 : W4.heap.size ≤ g7 := by omega
            have HA7 := Lib.hid hA7
            have HZ7 := Lib.hid hZ7
            have HNa := Lib.hid (HN4.out.trans hn7)
            have HR7 := Lib.hid (HR4.out.nw hn7)
            have HG47 := Lib.hid hg47
            have hba : b < Wa.heap.size := World.block_lt_of_cell? Wa _ (cell_nw hc4 hn7)
            haveI : In b Wa := ⟨hba⟩
            haveI : In g7 Wa := ⟨hA7.1⟩
            clear hWa hg7 hA7 hZ7 hn7 hg47
            refine (fields_any (q : Int) g7 Wa HA7.out.1 HA7.out.2.1).mono ?_
            rintro e Wb ⟨A, cA, rfl, ⟨hp, hpb⟩, hnb⟩
            obtain ⟨l, hl⟩ : ∃ l, offs (q : Int) = l := ⟨_, rfl⟩
            obtain ⟨n, hn⟩ : ∃ n, l.length = n := ⟨_, rfl⟩
            have hn4 : n ≤ 4 := by rw [← hn, ← hl]; exact offs_len _
            rw [hl, hn] at hp ⊢
            have hrng : ∀ o ∈ l, 1 ≤ o ∧ o ≤ 6 := by rw [← hl]; exact offs_rng _
            have HRg := Lib.hid hrng
            have HLO := Lib.hid hl
            have HNL := Lib.hid hn
            have HPt := Lib.hid hp
            have HPB := Lib.hid hpb
            have HNb := Lib.hid hnb
            haveI : In b Wb := ⟨Nat.lt_of_lt_of_le hba hnb.grown.size⟩
            clear hl hn hp hpb hnb hrng
            rcases Nat.eq_zero_or_pos k with hk0 | hk0
            · subst hk0
              have hr0 : r = [] := List.eq_nil_of_length_eq_zero HK.out
              subst hr0
              go_wp2_with fail
              refine (numbers_any _ 0 0 [] (n : Int) _ (HF.out.nw (HNa.out.trans HNb.out)) (HPU.out.nw (HNa.out.trans HNb.out)) (by omega) ⟨by simp [strs], fun h => absurd h (by omega)⟩ (by first | simp | exact HW2.out)).mono ?_
              rintro e W5 ⟨⟨v, b5, rfl, hP⟩, hn5⟩
              have HNc := Lib.hid (HNb.out.trans hn5)
              have HN5 := Lib.hid (HNa.out.trans HNc.out)
              have HP5 := Lib.hid (HPt.out.nw hn5)
              clear hn5
              cases hR : numsR [] (n : Int) with
              | none =>
                rw [hR] at hP
                obtain rfl : b5 = false := hP
                have hres := Lib.hid (show parseW s (w0 :: []) = (noOp, 4) by
                  have h1 := hY.out
                  rw [HV.out] at h1
                  simp [parseW, hw0.out, h1, HLO.out, HNL.out, hR])
                clear hR
                have q5 := HGA.out.nw HN5.out
                have p0 : W5.cell? ⟨w.heap.size, 0, none⟩ = some (.int .u8 0) := q5.2.1
                have p1 : W5.cell? ⟨w.heap.size, 1, none⟩ = some (.int .u64 0) := q5.2.2 1 (by omega) (by omega)
                have p2 : W5.cell? ⟨w.heap.size, 2, none⟩ = some (.int .u64 0) := q5.2.2 2 (by omega) (by omega)
                have p3 : W5.cell? ⟨w.heap.size, 3, none⟩ = some (.int .u64 0) := q5.2.2 3 (by omega) (by omega)
                have p4 : W5.cell? ⟨w.heap.size, 4, none⟩ = some (.int .u64 0) := q5.2.2 4 (by omega) (by omega)
                have p5 : W5.cell? ⟨w.heap.size, 5, none⟩ = some (.int .u64 0) := q5.2.2 5 (by omega) (by omega)
                have p6 : W5.cell? ⟨w.heap.size, 6, none⟩ = some (.int .u64 0) := q5.2.2 6 (by omega) (by omega)
                have z0 : W5.frozen? ⟨w.heap.size, 0, none⟩ = false := (frozen_nw HGA.out.1 HN5.out).trans (HGZ.out 0)
                have z1 : W5.frozen? ⟨w.heap.size, 1, none⟩ = false := (frozen_nw HGA.out.1 HN5.out).trans (HGZ.out 1)
                have z2 : W5.frozen? ⟨w.heap.size, 2, none⟩ = false := (frozen_nw HGA.out.1 HN5.out).trans (HGZ.out 2)
                have z3 : W5.frozen? ⟨w.heap.size, 3, none⟩ = false := (frozen_nw HGA.out.1 HN5.out).trans (HGZ.out 3)
                have z4 : W5.frozen? ⟨w.heap.size, 4, none⟩ = false := (frozen_nw HGA.out.1 HN5.out).trans (HGZ.out 4)
                have z5 : W5.frozen? ⟨w.heap.size, 5, none⟩ = false := (frozen_nw HGA.out.1 HN5.out).trans (HGZ.out 5)
                have z6 : W5.frozen? ⟨w.heap.size, 6, none⟩ = false := (frozen_nw HGA.out.1 HN5.out).trans (HGZ.out 6)
                have HW5 := Lib.hid (HN1.out.trans HN5.out)
                clear q5
                go_wp2
                refine bodyPost_ret (v := .tuple #[ov noOp, .int .i64 4]) ?_ rfl ⟨by rw [hres.out], Nw.setCell (Nw.setCell (Nw.setCell (Nw.setCell (Nw.setCell (Nw.setCell (Nw.setCell (HW5.out) (p := ⟨w.heap.size, 0, none⟩) (Nat.le_refl _) _) (p := ⟨w.heap.size, 1, none⟩) (Nat.le_refl _) _) (p := ⟨w.heap.size, 2, none⟩) (Nat.le_refl _) _) (p := ⟨w.heap.size, 3, none⟩) (Nat.le_refl _) _) (p := ⟨w.heap.size, 4, none⟩) (Nat.le_refl _) _) (p := ⟨w.heap.size, 5, none⟩) (Nat.le_refl _) _) (p := ⟨w.heap.size, 6, none⟩) (Nat.le_refl _) _⟩
                simp [results, Tryd.results8, go_sem, noOp, *]
              | some ns =>
                rw [hR] at hP
                obtain ⟨rfl, hown⟩ := hP
                have hres := Lib.hid (show parseW s (w0 :: []) = (fillO (q : Int) ns, 0) by
                  have h1 := hY.out
                  rw [HV.out] at h1
                  simp [parseW, hw0.out, h1, HLO.out, HNL.out, hR])
                have hln : ns.length = n := by
                  unfold numsR at hR
                  split at hR
                  · rename_i h7
                    have := allB_len hR; omega
                  · cases hR
                rw [hln] at hown
                obtain ⟨A5, c5, rfl, hr5, hbf5⟩ := own_rd2 hown
                have HBF := Lib.hid (fun b o e => Nat.le_trans HNb.out.grown.size (hbf5 b o e))
                have HR5 := Lib.hid hr5
                have HLN := Lib.hid hln
                have HA5 := Lib.hid (HA7.out.nw HNc.out)
                have hz5 : ∀ o, W5.frozen? ⟨g7, o, none⟩ = false := fun o => (frozen_nw HA7.out.1 HNc.out).trans (HZ7.out o)
                have HZ5 := Lib.hid hz5
                obtain ⟨X, hX⟩ : ∃ X, X = fillO (q : Int) ns := ⟨_, rfl⟩
                have HX := Lib.hid hX
                have hne7 : w.heap.size ≠ g7 := by
                  have h1 := HGA.out.1
                  have h2 := HG47.out
                  have h3 := (HN4.out).grown.size
                  omega
                have HNE := Lib.hid hne7
                clear hbf5
                clear hR hown hr5 hln hz5 hX hne7
                go_wp2_with fail
                go_loopw [15, 95] (fun _ a wr => ∃ i : Nat, i ≤ n ∧ a = .int .i64 i ∧ Hid (AtO wr g7 (partO X (l.take i))) ∧ Hid (∀ o, wr.frozen? ⟨g7, o, none⟩ = false) ∧ Hid (W5.grownBy wr (some g7))) (fun _ a _ => n - (intOf a).toNat)
                case atStart => exact ⟨0, by omega, rfl, by rw [HX.out]; exact HA5.out, HZ5.out, gref _ _⟩
                case round =>
                  obtain ⟨i, hi, rfl, hat, hfz, hgr⟩ := hrel
                  by_cases hlt2 : i < n
                  · obtain ⟨bt, ot, p, rfl, hbt, hp, hct⟩ := Is_ptr HP5.out hlt2
                    obtain ⟨bf, of, rfl, hbf, hcf⟩ := HR5.out.2 (by omega)
                    have hni : i < ns.length := by have := HLN.out; omega
                    have hcf2 := hcf i (.int .u64 ((ns[i] : Nat) : Int)) (by rw [nums, List.getElem?_map, List.getElem?_eq_getElem hni]; rfl)
                    have hsel : sel X p = ((ns[i] : Nat) : Int) := by rw [HX.out, fill_at (by rw [HLO.out]; exact hp), List.getElem?_eq_getElem hni]; rfl
                    rw [← hsel] at hcf2
                    obtain ⟨sq, hsq⟩ : ∃ sq, sq = sel X p := ⟨_, rfl⟩
                    rw [← hsq] at hcf2
                    have hpr := HRg.out p (List.mem_of_getElem? hp)
                    have hnt : bt ≠ g7 := by have := HPB.out _ _ rfl; have := HA7.out.1; omega
                    have hnf : bf ≠ g7 := by have := HBF.out bf of rfl; have := HA7.out.1; omega
                    have f1 : wr.cell? ⟨bt, ot + i, none⟩ = some (.pointer (some ⟨g7, p, none⟩)) := (World.cell?_of_block (hgr.out.block bt hbt (by simpa using hnt))).trans hct
                    have f2 : wr.cell? ⟨bf, of + i, none⟩ = some (.int .u64 sq) := (World.cell?_of_block (hgr.out.block bf hbf (by simpa using hnf))).trans hcf2
                    have f4 := hat.out.2.2 p hpr.1 hpr.2
                    have f5 := hfz.out p
                    have hin : (i : Int) < (n : Int) := by omega
                    have HQ := Lib.hid hp
                    have HQR := Lib.hid hpr
                    have HSQ := Lib.hid hsq
                    clear hct hp hcf hcf2 hsel hsq hpr
                    generalize sel (partO X (List.take i l)) p = sp at f4
                    go_upto_region 22 with (fail)
                    go_still_tail 9, (by kernel_rfl)
                    change wpList _ _ _ _ _ wr.drew
                    go_wp2
                    refine ⟨⟨i + 1, by omega, by go_num, ?_, ?_, ?_⟩, by first | (simp [intOf]; omega) | omega⟩
                    · show AtO _ _ _
                      obtain ⟨p1, q1⟩ := List.getElem?_eq_some_iff.1 HQ.out
                      rw [List.take_succ_eq_append_getElem p1, q1, HSQ.out]
                      exact AtO.set (W := wr.drew) hat.out HQR.out.1 HQR.out.2
                    · show ∀ o, _
                      intro o
                      show (wr.setCell _ _).frozen? _ = false
                      rw [World.frozen?_setCell]; exact hfz.out o
                    · show World.grownBy _ _ _
                      have hs := set_grown (o := p) (v := .int .u64 sq) (⟨hgr.out.os, hgr.out.tape, hgr.out.output, hgr.out.size, hgr.out.block⟩ : W5.grownBy wr (some g7))
                      exact ⟨hs.os, hs.tape, hs.output, hs.size, hs.block⟩
                  · have hin : ¬ (i : Int) < (n : Int) := by omega
                    have hful : AtO wr g7 X := by
                      have h := hat.out
                      rw [List.take_of_length_le (by have := HNL.out; omega)] at h
                      have h2 := fill_used (q : Int) ns
                      rw [usedO, fill_kd, HLO.out, ← HX.out] at h2
                      rw [h2] at h; exact h
                    have hgl : W5.grownBy wr (some g7) := hgr.out
                    have hG5 := HGA.out.nw HN5.out
                    have e2 : wr.heap[w.heap.size]? = W5.heap[w.heap.size]? := hgl.block _ hG5.1 (by have := HNE.out; simpa using this)
                    have hwr : w.grownBy wr none := ⟨hgl.os.trans (HN1.out.trans HN5.out).grown.os, hgl.tape.trans (HN1.out.trans HN5.out).grown.tape, hgl.output.trans (HN1.out.trans HN5.out).grown.output, Nat.le_trans (HN1.out.trans HN5.out).grown.size hgl.size, fun k hk _ => (hgl.block k (Nat.lt_of_lt_of_le hk (HN1.out.trans HN5.out).grown.size) (by have h1 := HG47.out; have h2 := (HN1.out.trans HN4.out).grown.size; simp; omega)).trans ((HN1.out.trans HN5.out).grown.block k hk (by simp))⟩
                    have HW5 := Lib.hid (Nw.of hwr)
                    rw [← HX.out] at hres
                    have r0 : wr.cell? ⟨g7, 0, none⟩ = some (.int .u8 X.kd) := hful.2.1
                    have p0 : wr.cell? ⟨w.heap.size, 0, none⟩ = some (.int .u8 0) := (World.cell?_of_block e2).trans (hG5.2.1)
                    have z0 : wr.frozen? ⟨w.heap.size, 0, none⟩ = false := (World.frozen?_of_block e2).trans ((frozen_nw HGA.out.1 HN5.out).trans (HGZ.out 0))
                    have r1 : wr.cell? ⟨g7, 1, none⟩ = some (.int .u64 X.ky) := hful.2.2 1 (by omega) (by omega)
                    have p1 : wr.cell? ⟨w.heap.size, 1, none⟩ = some (.int .u64 0) := (World.cell?_of_block e2).trans (hG5.2.2 1 (by omega) (by omega))
                    have z1 : wr.frozen? ⟨w.heap.size, 1, none⟩ = false := (World.frozen?_of_block e2).trans ((frozen_nw HGA.out.1 HN5.out).trans (HGZ.out 1))
                    have r2 : wr.cell? ⟨g7, 2, none⟩ = some (.int .u64 X.hi) := hful.2.2 2 (by omega) (by omega)
                    have p2 : wr.cell? ⟨w.heap.size, 2, none⟩ = some (.int .u64 0) := (World.cell?_of_block e2).trans (hG5.2.2 2 (by omega) (by omega))
                    have z2 : wr.frozen? ⟨w.heap.size, 2, none⟩ = false := (World.frozen?_of_block e2).trans ((frozen_nw HGA.out.1 HN5.out).trans (HGZ.out 2))
                    have r3 : wr.cell? ⟨g7, 3, none⟩ = some (.int .u64 X.vl) := hful.2.2 3 (by omega) (by omega)
                    have p3 : wr.cell? ⟨w.heap.size, 3, none⟩ = some (.int .u64 0) := (World.cell?_of_block e2).trans (hG5.2.2 3 (by omega) (by omega))
                    have z3 : wr.frozen? ⟨w.heap.size, 3, none⟩ = false := (World.frozen?_of_block e2).trans ((frozen_nw HGA.out.1 HN5.out).trans (HGZ.out 3))
                    have r4 : wr.cell? ⟨g7, 4, none⟩ = some (.int .u64 X.od) := hful.2.2 4 (by omega) (by omega)
                    have p4 : wr.cell? ⟨w.heap.size, 4, none⟩ = some (.int .u64 0) := (World.cell?_of_block e2).trans (hG5.2.2 4 (by omega) (by omega))
                    have z4 : wr.frozen? ⟨w.heap.size, 4, none⟩ = false := (World.frozen?_of_block e2).trans ((frozen_nw HGA.out.1 HN5.out).trans (HGZ.out 4))
                    have r5 : wr.cell? ⟨g7, 5, none⟩ = some (.int .u64 X.bt) := hful.2.2 5 (by omega) (by omega)
                    have p5 : wr.cell? ⟨w.heap.size, 5, none⟩ = some (.int .u64 0) := (World.cell?_of_block e2).trans (hG5.2.2 5 (by omega) (by omega))
                    have z5 : wr.frozen? ⟨w.heap.size, 5, none⟩ = false := (World.frozen?_of_block e2).trans ((frozen_nw HGA.out.1 HN5.out).trans (HGZ.out 5))
                    have r6 : wr.cell? ⟨g7, 6, none⟩ = some (.int .u64 X.dr) := hful.2.2 6 (by omega) (by omega)
                    have p6 : wr.cell? ⟨w.heap.size, 6, none⟩ = some (.int .u64 0) := (World.cell?_of_block e2).trans (hG5.2.2 6 (by omega) (by omega))
                    have z6 : wr.frozen? ⟨w.heap.size, 6, none⟩ = false := (World.frozen?_of_block e2).trans ((frozen_nw HGA.out.1 HN5.out).trans (HGZ.out 6))
                    clear hat hfz hgr hgl hwr hful hG5 e2
                    go_wp2
                    refine bodyPost_ret (v := .tuple #[ov X, .int .i64 0]) ?_ rfl ⟨by rw [hres.out], Nw.setCell (Nw.setCell (Nw.setCell (Nw.setCell (Nw.setCell (Nw.setCell (Nw.setCell (HW5.out) (p := ⟨w.heap.size, 0, none⟩) (Nat.le_refl _) _) (p := ⟨w.heap.size, 1, none⟩) (Nat.le_refl _) _) (p := ⟨w.heap.size, 2, none⟩) (Nat.le_refl _) _) (p := ⟨w.heap.size, 3, none⟩) (Nat.le_refl _) _) (p := ⟨w.heap.size, 4, none⟩) (Nat.le_refl _) _) (p := ⟨w.heap.size, 5, none⟩) (Nat.le_refl _) _) (p := ⟨w.heap.size, 6, none⟩) (Nat.le_refl _) _⟩
                    simp [results, Tryd.results8, go_sem, *]
            · go_wp2_with fail
              refine (numbers_any _ k k r (n : Int) _ (HF.out.nw (HNa.out.trans HNb.out)) (HPU.out.nw (HNa.out.trans HNb.out)) (by omega) (HR7.out.nw HNb.out) (by first | simp | exact HW2.out)).mono ?_
              rintro e W5 ⟨⟨v, b5, rfl, hP⟩, hn5⟩
              have HNc := Lib.hid (HNb.out.trans hn5)
              have HN5 := Lib.hid (HNa.out.trans HNc.out)
              have HP5 := Lib.hid (HPt.out.nw hn5)
              clear hn5
              cases hR : numsR r (n : Int) with
              | none =>
                rw [hR] at hP
                obtain rfl : b5 = false := hP
                have hres := Lib.hid (show parseW s (w0 :: r) = (noOp, 4) by
                  have h1 := hY.out
                  rw [HV.out] at h1
                  simp [parseW, hw0.out, h1, HLO.out, HNL.out, hR])
                clear hR
                have q5 := HGA.out.nw HN5.out
                have p0 : W5.cell? ⟨w.heap.size, 0, none⟩ = some (.int .u8 0) := q5.2.1
                have p1 : W5.cell? ⟨w.heap.size, 1, none⟩ = some (.int .u64 0) := q5.2.2 1 (by omega) (by omega)
                have p2 : W5.cell? ⟨w.heap.size, 2, none⟩ = some (.int .u64 0) := q5.2.2 2 (by omega) (by omega)
                have p3 : W5.cell? ⟨w.heap.size, 3, none⟩ = some (.int .u64 0) := q5.2.2 3 (by omega) (by omega)
                have p4 : W5.cell? ⟨w.heap.size, 4, none⟩ = some (.int .u64 0) := q5.2.2 4 (by omega) (by omega)
                have p5 : W5.cell? ⟨w.heap.size, 5, none⟩ = some (.int .u64 0) := q5.2.2 5 (by omega) (by omega)
                have p6 : W5.cell? ⟨w.heap.size, 6, none⟩ = some (.int .u64 0) := q5.2.2 6 (by omega) (by omega)
                have z0 : W5.frozen? ⟨w.heap.size, 0, none⟩ = false := (frozen_nw HGA.out.1 HN5.out).trans (HGZ.out 0)
                have z1 : W5.frozen? ⟨w.heap.size, 1, none⟩ = false := (frozen_nw HGA.out.1 HN5.out).trans (HGZ.out 1)
                have z2 : W5.frozen? ⟨w.heap.size, 2, none⟩ = false := (frozen_nw HGA.out.1 HN5.out).trans (HGZ.out 2)
                have z3 : W5.frozen? ⟨w.heap.size, 3, none⟩ = false := (frozen_nw HGA.out.1 HN5.out).trans (HGZ.out 3)
                have z4 : W5.frozen? ⟨w.heap.size, 4, none⟩ = false := (frozen_nw HGA.out.1 HN5.out).trans (HGZ.out 4)
                have z5 : W5.frozen? ⟨w.heap.size, 5, none⟩ = false := (frozen_nw HGA.out.1 HN5.out).trans (HGZ.out 5)
                have z6 : W5.frozen? ⟨w.heap.size, 6, none⟩ = false := (frozen_nw HGA.out.1 HN5.out).trans (HGZ.out 6)
                have HW5 := Lib.hid (HN1.out.trans HN5.out)
                clear q5
                go_wp2
                refine bodyPost_ret (v := .tuple #[ov noOp, .int .i64 4]) ?_ rfl ⟨by rw [hres.out], Nw.setCell (Nw.setCell (Nw.setCell (Nw.setCell (Nw.setCell (Nw.setCell (Nw.setCell (HW5.out) (p := ⟨w.heap.size, 0, none⟩) (Nat.le_refl _) _) (p := ⟨w.heap.size, 1, none⟩) (Nat.le_refl _) _) (p := ⟨w.heap.size, 2, none⟩) (Nat.le_refl _) _) (p := ⟨w.heap.size, 3, none⟩) (Nat.le_refl _) _) (p := ⟨w.heap.size, 4, none⟩) (Nat.le_refl _) _) (p := ⟨w.heap.size, 5, none⟩) (Nat.le_refl _) _) (p := ⟨w.heap.size, 6, none⟩) (Nat.le_refl _) _⟩
                simp [results, Tryd.results8, go_sem, noOp, *]
              | some ns =>
                rw [hR] at hP
                obtain ⟨rfl, hown⟩ := hP
                have hres := Lib.hid (show parseW s (w0 :: r) = (fillO (q : Int) ns, 0) by
                  have h1 := hY.out
                  rw [HV.out] at h1
                  simp [parseW, hw0.out, h1, HLO.out, HNL.out, hR])
                have hln : ns.length = n := by
                  unfold numsR at hR
                  split at hR
                  · rename_i h7
                    have := allB_len hR; omega
                  · cases hR
                rw [hln] at hown
                obtain ⟨A5, c5, rfl, hr5, hbf5⟩ := own_rd2 hown
                have HBF := Lib.hid (fun b o e => Nat.le_trans HNb.out.grown.size (hbf5 b o e))
                have HR5 := Lib.hid hr5
                have HLN := Lib.hid hln
                have HA5 := Lib.hid (HA7.out.nw HNc.out)
                have hz5 : ∀ o, W5.frozen? ⟨g7, o, none⟩ = false := fun o => (frozen_nw HA7.out.1 HNc.out).trans (HZ7.out o)
                have HZ5 := Lib.hid hz5
                obtain ⟨X, hX⟩ : ∃ X, X = fillO (q : Int) ns := ⟨_, rfl⟩
                have HX := Lib.hid hX
                have hne7 : w.heap.size ≠ g7 := by
                  have h1 := HGA.out.1
                  have h2 := HG47.out
                  have h3 := (HN4.out).grown.size
                  omega
                have HNE := Lib.hid hne7
                clear hbf5
                clear hR hown hr5 hln hz5 hX hne7
                go_wp2_with fail
                go_loopw [15, 95] (fun _ a wr => ∃ i : Nat, i ≤ n ∧ a = .int .i64 i ∧ Hid (AtO wr g7 (partO X (l.take i))) ∧ Hid (∀ o, wr.frozen? ⟨g7, o, none⟩ = false) ∧ Hid (W5.grownBy wr (some g7))) (fun _ a _ => n - (intOf a).toNat)
                case atStart => exact ⟨0, by omega, rfl, by rw [HX.out]; exact HA5.out, HZ5.out, gref _ _⟩
                case round =>
                  obtain ⟨i, hi, rfl, hat, hfz, hgr⟩ := hrel
                  by_cases hlt2 : i < n
                  · obtain ⟨bt, ot, p, rfl, hbt, hp, hct⟩ := Is_ptr HP5.out hlt2
                    obtain ⟨bf, of, rfl, hbf, hcf⟩ := HR5.out.2 (by omega)
                    have hni : i < ns.length := by have := HLN.out; omega
                    have hcf2 := hcf i (.int .u64 ((ns[i] : Nat) : Int)) (by rw [nums, List.getElem?_map, List.getElem?_eq_getElem hni]; rfl)
                    have hsel : sel X p = ((ns[i] : Nat) : Int) := by rw [HX.out, fill_at (by rw [HLO.out]; exact hp), List.getElem?_eq_getElem hni]; rfl
                    rw [← hsel] at hcf2
                    obtain ⟨sq, hsq⟩ : ∃ sq, sq = sel X p := ⟨_, rfl⟩
                    rw [← hsq] at hcf2
                    have hpr := HRg.out p (List.mem_of_getElem? hp)
                    have hnt : bt ≠ g7 := by have := HPB.out _ _ rfl; have := HA7.out.1; omega
                    have hnf : bf ≠ g7 := by have := HBF.out bf of rfl; have := HA7.out.1; omega
                    have f1 : wr.cell? ⟨bt, ot + i, none⟩ = some (.pointer (some ⟨g7, p, none⟩)) := (World.cell?_of_block (hgr.out.block bt hbt (by simpa using hnt))).trans hct
                    have f2 : wr.cell? ⟨bf, of + i, none⟩ = some (.int .u64 sq) := (World.cell?_of_block (hgr.out.block bf hbf (by simpa using hnf))).trans hcf2
                    have f4 := hat.out.2.2 p hpr.1 hpr.2
                    have f5 := hfz.out p
                    have hin : (i : Int) < (n : Int) := by omega
                    have HQ := Lib.hid hp
                    have HQR := Lib.hid hpr
                    have HSQ := Lib.hid hsq
                    clear hct hp hcf hcf2 hsel hsq hpr
                    generalize sel (partO X (List.take i l)) p = sp at f4
                    go_upto_region 22 with (fail)
                    go_still_tail 9, (by kernel_rfl)
                    change wpList _ _ _ _ _ wr.drew
                    go_wp2
                    refine ⟨⟨i + 1, by omega, by go_num, ?_, ?_, ?_⟩, by first | (simp [intOf]; omega) | omega⟩
                    · show AtO _ _ _
                      obtain ⟨p1, q1⟩ := List.getElem?_eq_some_iff.1 HQ.out
                      rw [List.take_succ_eq_append_getElem p1, q1, HSQ.out]
                      exact AtO.set (W := wr.drew) hat.out HQR.out.1 HQR.out.2
                    · show ∀ o, _
                      intro o
                      show (wr.setCell _ _).frozen? _ = false
                      rw [World.frozen?_setCell]; exact hfz.out o
                    · show World.grownBy _ _ _
                      have hs := set_grown (o := p) (v := .int .u64 sq) (⟨hgr.out.os, hgr.out.tape, hgr.out.output, hgr.out.size, hgr.out.block⟩ : W5.grownBy wr (some g7))
                      exact ⟨hs.os, hs.tape, hs.output, hs.size, hs.block⟩
                  · have hin : ¬ (i : Int) < (n : Int) := by omega
                    have hful : AtO wr g7 X := by
                      have h := hat.out
                      rw [List.take_of_length_le (by have := HNL.out; omega)] at h
                      have h2 := fill_used (q : Int) ns
                      rw [usedO, fill_kd, HLO.out, ← HX.out] at h2
                      rw [h2] at h; exact h
                    have hgl : W5.grownBy wr (some g7) := hgr.out
                    have hG5 := HGA.out.nw HN5.out
                    have e2 : wr.heap[w.heap.size]? = W5.heap[w.heap.size]? := hgl.block _ hG5.1 (by have := HNE.out; simpa using this)
                    have hwr : w.grownBy wr none := ⟨hgl.os.trans (HN1.out.trans HN5.out).grown.os, hgl.tape.trans (HN1.out.trans HN5.out).grown.tape, hgl.output.trans (HN1.out.trans HN5.out).grown.output, Nat.le_trans (HN1.out.trans HN5.out).grown.size hgl.size, fun k hk _ => (hgl.block k (Nat.lt_of_lt_of_le hk (HN1.out.trans HN5.out).grown.size) (by have h1 := HG47.out; have h2 := (HN1.out.trans HN4.out).grown.size; simp; omega)).trans ((HN1.out.trans HN5.out).grown.block k hk (by simp))⟩
                    have HW5 := Lib.hid (Nw.of hwr)
                    rw [← HX.out] at hres
                    have r0 : wr.cell? ⟨g7, 0, none⟩ = some (.int .u8 X.kd) := hful.2.1
                    have p0 : wr.cell? ⟨w.heap.size, 0, none⟩ = some (.int .u8 0) := (World.cell?_of_block e2).trans (hG5.2.1)
                    have z0 : wr.frozen? ⟨w.heap.size, 0, none⟩ = false := (World.frozen?_of_block e2).trans ((frozen_nw HGA.out.1 HN5.out).trans (HGZ.out 0))
                    have r1 : wr.cell? ⟨g7, 1, none⟩ = some (.int .u64 X.ky) := hful.2.2 1 (by omega) (by omega)
                    have p1 : wr.cell? ⟨w.heap.size, 1, none⟩ = some (.int .u64 0) := (World.cell?_of_block e2).trans (hG5.2.2 1 (by omega) (by omega))
                    have z1 : wr.frozen? ⟨w.heap.size, 1, none⟩ = false := (World.frozen?_of_block e2).trans ((frozen_nw HGA.out.1 HN5.out).trans (HGZ.out 1))
                    have r2 : wr.cell? ⟨g7, 2, none⟩ = some (.int .u64 X.hi) := hful.2.2 2 (by omega) (by omega)
                    have p2 : wr.cell? ⟨w.heap.size, 2, none⟩ = some (.int .u64 0) := (World.cell?_of_block e2).trans (hG5.2.2 2 (by omega) (by omega))
                    have z2 : wr.frozen? ⟨w.heap.size, 2, none⟩ = false := (World.frozen?_of_block e2).trans ((frozen_nw HGA.out.1 HN5.out).trans (HGZ.out 2))
                    have r3 : wr.cell? ⟨g7, 3, none⟩ = some (.int .u64 X.vl) := hful.2.2 3 (by omega) (by omega)
                    have p3 : wr.cell? ⟨w.heap.size, 3, none⟩ = some (.int .u64 0) := (World.cell?_of_block e2).trans (hG5.2.2 3 (by omega) (by omega))
                    have z3 : wr.frozen? ⟨w.heap.size, 3, none⟩ = false := (World.frozen?_of_block e2).trans ((frozen_nw HGA.out.1 HN5.out).trans (HGZ.out 3))
                    have r4 : wr.cell? ⟨g7, 4, none⟩ = some (.int .u64 X.od) := hful.2.2 4 (by omega) (by omega)
                    have p4 : wr.cell? ⟨w.heap.size, 4, none⟩ = some (.int .u64 0) := (World.cell?_of_block e2).trans (hG5.2.2 4 (by omega) (by omega))
                    have z4 : wr.frozen? ⟨w.heap.size, 4, none⟩ = false := (World.frozen?_of_block e2).trans ((frozen_nw HGA.out.1 HN5.out).trans (HGZ.out 4))
                    have r5 : wr.cell? ⟨g7, 5, none⟩ = some (.int .u64 X.bt) := hful.2.2 5 (by omega) (by omega)
                    have p5 : wr.cell? ⟨w.heap.size, 5, none⟩ = some (.int .u64 0) := (World.cell?_of_block e2).trans (hG5.2.2 5 (by omega) (by omega))
                    have z5 : wr.frozen? ⟨w.heap.size, 5, none⟩ = false := (World.frozen?_of_block e2).trans ((frozen_nw HGA.out.1 HN5.out).trans (HGZ.out 5))
                    have r6 : wr.cell? ⟨g7, 6, none⟩ = some (.int .u64 X.dr) := hful.2.2 6 (by omega) (by omega)
                    have p6 : wr.cell? ⟨w.heap.size, 6, none⟩ = some (.int .u64 0) := (World.cell?_of_block e2).trans (hG5.2.2 6 (by omega) (by omega))
                    have z6 : wr.frozen? ⟨w.heap.size, 6, none⟩ = false := (World.frozen?_of_block e2).trans ((frozen_nw HGA.out.1 HN5.out).trans (HGZ.out 6))
                    clear hat hfz hgr hgl hwr hful hG5 e2
                    go_wp2
                    refine bodyPost_ret (v := .tuple #[ov X, .int .i64 0]) ?_ rfl ⟨by rw [hres.out], Nw.setCell (Nw.setCell (Nw.setCell (Nw.setCell (Nw.setCell (Nw.setCell (Nw.setCell (HW5.out) (p := ⟨w.heap.size, 0, none⟩) (Nat.le_refl _) _) (p := ⟨w.heap.size, 1, none⟩) (Nat.le_refl _) _) (p := ⟨w.heap.size, 2, none⟩) (Nat.le_refl _) _) (p := ⟨w.heap.size, 3, none⟩) (Nat.le_refl _) _) (p := ⟨w.heap.size, 4, none⟩) (Nat.le_refl _) _) (p := ⟨w.heap.size, 5, none⟩) (Nat.le_refl _) _) (p := ⟨w.heap.size, 6, none⟩) (Nat.le_refl _) _⟩
                    simp [results, Tryd.results8, go_sem, *]
          · have hwl : ¬ wordL (q : Int) = v0 := fun h => he (htw ▸ (str_iff _ _).2 (h.trans HV.out))
            have hnext := Lib.hid (show kindOf v0 = kindF v0 (16 - (q + 1)) ((q + 1 : Nat) : Int) by rw [hkd.out, hstep, if_neg hwl])
            have d3 : (tw.toList == w0.toList) = false := by rw [str_beq]; simpa using he
            clear he htw hwl hstep hkd
            go_upto_region 14 with (fail)
            (refine wp_region_nw (by kernel_rfl) (by kernel_rfl) ?_; (repeat (go_big_quiet_step ((go_at_call 12; exact quiet_of (hwd.out _))))); refine wpQuiet_nil ?_; intro _ hreg; obtain ⟨dW, rfl⟩ : Nw _ _ := hreg)
            go_wp2
            refine ⟨⟨q + 1, by omega, by omega, by go_num, hnext.out, (by repeat (first | exact Xt.Nw.refl _ | refine Xt.Nw.drew ?_ | refine Xt.Nw.drewN ?_ _ | refine Xt.Nw.alloc ?_ _ | refine Xt.Nw.joined ?_ | refine Xt.Nw.drewd ?_ | refine Xt.Nw.drewdN ?_ | refine Xt.Nw.ext ?_ | refine Xt.Nw.ext_some ?_ (by assumption) | refine Xt.Nw.setCell ?_ (by simp [go_sem] <;> omega) _))⟩, by first | (simp [intOf]; omega) | omega⟩
        · have hq15 : ¬ (q : Int) ≤ 15 := by omega
          have hq : q = 16 := by omega
          have hnone := Lib.hid (show kindOf v0 = none by rw [hkd.out, hq]; rfl)
          have hres := Lib.hid (show parseW s (w0 :: r) = (noOp, 4) by
            have h1 := hnone.out
            rw [HV.out] at h1
            simp [parseW, hw0.out, h1])
          have HN5 := Lib.hid (HN2.out.trans (show Nw W2 (W2.ext none d) from ⟨_, rfl⟩))
          clear hkd hq
          generalize W2.ext none d = W5 at *
          have q5 := HGA.out.nw HN5.out
          have p0 : W5.cell? ⟨w.heap.size, 0, none⟩ = some (.int .u8 0) := q5.2.1
          have p1 : W5.cell? ⟨w.heap.size, 1, none⟩ = some (.int .u64 0) := q5.2.2 1 (by omega) (by omega)
          have p2 : W5.cell? ⟨w.heap.size, 2, none⟩ = some (.int .u64 0) := q5.2.2 2 (by omega) (by omega)
          have p3 : W5.cell? ⟨w.heap.size, 3, none⟩ = some (.int .u64 0) := q5.2.2 3 (by omega) (by omega)
          have p4 : W5.cell? ⟨w.heap.size, 4, none⟩ = some (.int .u64 0) := q5.2.2 4 (by omega) (by omega)
          have p5 : W5.cell? ⟨w.heap.size, 5, none⟩ = some (.int .u64 0) := q5.2.2 5 (by omega) (by omega)
          have p6 : W5.cell? ⟨w.heap.size, 6, none⟩ = some (.int .u64 0) := q5.2.2 6 (by omega) (by omega)
          have z0 : W5.frozen? ⟨w.heap.size, 0, none⟩ = false := (frozen_nw HGA.out.1 HN5.out).trans (HGZ.out 0)
          have z1 : W5.frozen? ⟨w.heap.size, 1, none⟩ = false := (frozen_nw HGA.out.1 HN5.out).trans (HGZ.out 1)
          have z2 : W5.frozen? ⟨w.heap.size, 2, none⟩ = false := (frozen_nw HGA.out.1 HN5.out).trans (HGZ.out 2)
          have z3 : W5.frozen? ⟨w.heap.size, 3, none⟩ = false := (frozen_nw HGA.out.1 HN5.out).trans (HGZ.out 3)
          have z4 : W5.frozen? ⟨w.heap.size, 4, none⟩ = false := (frozen_nw HGA.out.1 HN5.out).trans (HGZ.out 4)
          have z5 : W5.frozen? ⟨w.heap.size, 5, none⟩ = false := (frozen_nw HGA.out.1 HN5.out).trans (HGZ.out 5)
          have z6 : W5.frozen? ⟨w.heap.size, 6, none⟩ = false := (frozen_nw HGA.out.1 HN5.out).trans (HGZ.out 6)
          have HW5 := Lib.hid (HN1.out.trans HN5.out)
          clear q5
          go_wp2
          refine bodyPost_ret (v := .tuple #[ov noOp, .int .i64 4]) ?_ rfl ⟨by rw [hres.out], Nw.setCell (Nw.setCell (Nw.setCell (Nw.setCell (Nw.setCell (Nw.setCell (Nw.setCell (HW5.out) (p := ⟨w.heap.size, 0, none⟩) (Nat.le_refl _) _) (p := ⟨w.heap.size, 1, none⟩) (Nat.le_refl _) _) (p := ⟨w.heap.size, 2, none⟩) (Nat.le_refl _) _) (p := ⟨w.heap.size, 3, none⟩) (Nat.le_refl _) _) (p := ⟨w.heap.size, 4, none⟩) (Nat.le_refl _) _) (p := ⟨w.heap.size, 5, none⟩) (Nat.le_refl _) _) (p := ⟨w.heap.size, 6, none⟩) (Nat.le_refl _) _⟩
          simp [results, Tryd.results8, go_sem, noOp, *]
end Go.Proofs.YtnldlkkmjabenaaDoor
