import Derived.Test.YtnfpicnigfmbdaaGreatDoorGSb
set_option linter.unusedVariables false
set_option linter.unusedSimpArgs false
set_option linter.unnecessarySimpa false
namespace Go.Proofs.YtnfpicnigfmbdaaGreatDoor
open Go.RowKit Go.Xt
/-! Key. -/
theorem own_ok5 {b base : Nat} {w w' : World} {e : TypeId} {size n : Nat} {v : Value} {xs : List Value} (h : w.ownsRow base e size v n xs) (ho : Ok5 b w w') (hb : b < base) (he : e ≠ 5) : w'.ownsRow base e size v n xs := by
  refine ⟨h.1, ?_⟩
  rcases h.2 with h1 | ⟨g, cap, cur, h1, h2, h3, h4⟩
  · exact .inl h1
  · exact .inr ⟨g, cap, cur, h1, h2, ho.cells h3 (by omega) he, h4⟩
theorem Bd.lt {B b : Nat} {bs : List UInt8} {w : World} (h : Bd B b bs w) : b < w.heap.size := h.elim (fun x => x.lt) (fun x => x.lt)
theorem cell3 {w : World} {q : Nat} {a b c : Bool} {T : TypeId} {fz : Nat × Nat} (h : w.heap[q]? = some (.cells #[.bool a, .bool b, .bool c] T fz)) {j : Nat} {v : Bool} (hj : [a, b, c][j]? = some v) : w.cell? ⟨q, j, none⟩ = some (.bool v) := by
  rw [Lib.cell_of_heap h]
  match j, hj with
  | 0, hj => simp at hj; subst hj; rfl
  | 1, hj => simp at hj; subst hj; rfl
  | 2, hj => simp at hj; subst hj; rfl
set_option maxRecDepth 20000 in
set_option maxHeartbeats 8000000 in
theorem key_M (w : World) (p : Pl) (s : Md) (h : MAt w p s) {N : Nat} (hok : s.Ok N) (hN : N ≤ 500000) (hnu : s.Nums) (H : FmtAt w) :
    Calls Tryz.prog 35 #[.pointer (some ⟨p.gm, 0, none⟩)] w fun e w' => e = .returned (.string ⟨(keyB s).toArray⟩) ∧ Nw w w' := by
  obtain ⟨gm, gt, gp, v⟩ := p
  obtain ⟨sl, l, th⟩ := s
  have m0 : w.cell? ⟨gm, 0, none⟩ = some (.int .i64 sl) := h.m0
  have m1 : w.cell? ⟨gm, 1, none⟩ = some (.pointer (some ⟨gp, 0, none⟩)) := h.m1
  obtain ⟨ct, m2⟩ : ∃ ct, w.cell? ⟨gm, 2, none⟩ = some (.slice (some ⟨gt, 0, none⟩) th.length ct) := h.m2
  have hll : l.length ≤ 500000 := Nat.le_trans hok.len hN
  have hlt : th.length ≤ 1000 := hok.thn
  have HP := Lib.hid (fun W (hw : Nw w W) => opairs_M (h.om.nw hw : OM W gp v l) (by show l.length ≤ 1000000; omega))
  have HT := Lib.hid (h.th : ThR w gt th)
  have HNU := Lib.hid hnu
  have HU6 := Lib.hid (hok.u64 : U64s l)
  have HF := Lib.hid H
  obtain ⟨sl, rfl⟩ : ∃ z : Nat, sl = (z : Int) := ⟨sl.toNat, by have h0 : 0 ≤ sl := hnu.1.1; omega⟩
  have hsl : sl < 9223372036854775808 := by have : (sl : Int) < _ := hnu.1.2; omega
  haveI : In gm w := ⟨h.im⟩
  haveI : In gt w := ⟨h.it⟩
  obtain ⟨n, hn⟩ : ∃ n, n = th.length := ⟨_, rfl⟩
  have HN := Lib.hid hn
  have hn9 : n ≤ 1000 := by omega
  rw [← hn] at m2
  have HLL := Lib.hid hll
  have HSL := Lib.hid hsl
  have isl : (sl : Int) < 9223372036854775808 := by omega
  have isl0 : (0 : Int) ≤ (sl : Int) := by omega
  have in9 : (n : Int) ≤ 1000 := by omega
  have in0 : (0 : Int) ≤ (n : Int) := by omega
  simp only
  clear h hok hnu H hn hlt hll hsl
  go_enter Tryz.func35, Tryz.ntmps35
  go_wp2_with fail
  refine (number_any w.heap.size w.heap.size [] sl _ (Bd.zero w) (by omega) (by simp) (HF.out.nw ((by repeat (first | exact Xt.Nw.refl _ | refine Xt.Nw.drew ?_ | refine Xt.Nw.drewN ?_ _ | refine Xt.Nw.alloc ?_ _ | refine Xt.Nw.joined ?_ | refine Xt.Nw.drewd ?_ | refine Xt.Nw.drewdN ?_ | refine Xt.Nw.ext ?_ | refine Xt.Nw.ext_some ?_ (by assumption) | refine Xt.Nw.setCell ?_ (by simp [go_sem] <;> omega) _)))) (by simp)).mono ?_
  rintro e w1 ⟨rfl, b1, l1, o1⟩
  obtain ⟨d1, rfl⟩ : Nw w w1 := nw_bel (by exact (by repeat (first | exact Xt.Nw.refl _ | refine Xt.Nw.drew ?_ | refine Xt.Nw.drewN ?_ _ | refine Xt.Nw.alloc ?_ _ | refine Xt.Nw.joined ?_ | refine Xt.Nw.drewd ?_ | refine Xt.Nw.drewdN ?_ | refine Xt.Nw.ext ?_ | refine Xt.Nw.ext_some ?_ (by assumption) | refine Xt.Nw.setCell ?_ (by simp [go_sem] <;> omega) _))) l1
  have B1 := Lib.hid b1
  have hk1 := numK_len (z := (sl : Int)) (by omega)
  have hk2 := numK_len (z := (n : Int)) (by omega)
  clear b1 l1 o1
  go_wp2_with fail
  refine (number_any w.heap.size w.heap.size _ n _ B1.out (by omega) (by simp; omega) (HF.out.nw ((by repeat (first | exact Xt.Nw.refl _ | refine Xt.Nw.drew ?_ | refine Xt.Nw.drewN ?_ _ | refine Xt.Nw.alloc ?_ _ | refine Xt.Nw.joined ?_ | refine Xt.Nw.drewd ?_ | refine Xt.Nw.drewdN ?_ | refine Xt.Nw.ext ?_ | refine Xt.Nw.ext_some ?_ (by assumption) | refine Xt.Nw.setCell ?_ (by simp [go_sem] <;> omega) _)))) (by exact (gext w none d1).size)).mono ?_
  rintro e w2 ⟨rfl, b2, l2, o2⟩
  obtain ⟨d2, rfl⟩ : Nw w w2 := nw_bel ⟨_, rfl⟩ l2
  have B2 := Lib.hid b2
  clear b2 l2 o2 B1
  go_wp2_with fail
  go_loopw [34] (fun a wr => ∃ m : Nat, m ≤ n ∧ a = .int .i64 m ∧ Nw w wr ∧ Hid (Bd w.heap.size w.heap.size (numK sl ++ numK n ++ (th.take m).flatMap thK) wr)) (fun a _ => n - (intOf a).toNat)
  case atStart => exact ⟨0, by omega, rfl, ⟨_, rfl⟩, by simpa using B2⟩
  case round =>
    obtain ⟨m, hm, rfl, ⟨d, rfl⟩, HB⟩ := hrel
    clear B2
    by_cases hmn : m < n
    · obtain ⟨x, hx⟩ : ∃ x, th[m]? = some x := ⟨_, List.getElem?_eq_getElem (by have := HN.out; omega)⟩
      have hU := HNU.out.2 x (List.mem_of_getElem? hx)
      obtain ⟨xo, xm, xl, xh, xs⟩ := x
      obtain ⟨xl, rfl⟩ : ∃ z : Nat, xl = (z : Int) := ⟨xl.toNat, by have h0 : 0 ≤ xl := hU.1.1; omega⟩
      obtain ⟨xh, rfl⟩ : ∃ z : Nat, xh = (z : Int) := ⟨xh.toNat, by have h0 : 0 ≤ xh := hU.2.1; omega⟩
      have hxl : xl < 18446744073709551616 := by have h0 : (xl : Int) < _ := hU.1.2; omega
      have hxh : xh < 18446744073709551616 := by have h0 : (xh : Int) < _ := hU.2.2; omega
      obtain ⟨c0, c1, c2, c3, c4⟩ := HT.out.cells hx
      simp only at c0 c1 c2 c3 c4
      have HX := Lib.hid hx
      have i1 : (m : Int) < (n : Int) := by omega
      have i0 : (0 : Int) ≤ (m : Int) := by omega
      have HMN := Lib.hid hmn
      have HXL := Lib.hid hxl
      have HXH := Lib.hid hxh
      have hpre : (numK sl ++ numK n ++ (th.take m).flatMap thK).length ≤ 100000 := by
        have h1 := flat_len thK 60 (th.take m) (fun x hx => thK_len (HNU.out.2 x (List.mem_of_mem_take hx)))
        have h2 := List.length_take_le m th
        rw [List.length_append, List.length_append]; omega
      have HPRE := Lib.hid hpre
      clear hx hmn hm hU hxl hxh hpre
      go_wp2_with fail
      clear c0 c1 c2 c3 c4
      obtain ⟨q, hq⟩ : ∃ q, q = (w.ext none d).heap.size := ⟨_, rfl⟩
      have hqB : w.heap.size < q := by rw [hq]; exact HB.out.lt
      obtain ⟨W3, hW3⟩ : ∃ W3, W3 = ((w.ext none d).alloc (.cells #[.bool xo, .bool xm, .int .u64 xl, .int .u64 xh, .bool xs] 130)).alloc (.cells #[.bool xs, .bool xo, .bool xm] 4) := ⟨_, rfl⟩
      have hn3 : Nw (w.ext none d) W3 := by rw [hW3]; exact ((Nw.refl _).alloc _).alloc _
      have b3 := HB.out.nw hn3
      have k6 : W3.heap[q]? = some (.cells #[.bool xo, .bool xm, .int .u64 xl, .int .u64 xh, .bool xs] 130) := by rw [hW3, hq, Lib.alloc_old _ _ _ (by simp)]; exact heap_alloc_new _ _
      have k8 : W3.heap[q + 1]? = some (.cells #[.bool xs, .bool xo, .bool xm] 4) := by
        rw [hW3, hq, show (w.ext none d).heap.size + 1 = ((w.ext none d).alloc (.cells #[.bool xo, .bool xm, .int .u64 xl, .int .u64 xh, .bool xs] 130)).heap.size by simp]
        exact heap_alloc_new _ _
      have HS := Lib.hid (⟨Nw.trans ⟨d, rfl⟩ hn3, b3, k6, k8⟩ : Nw w W3 ∧ Bd w.heap.size w.heap.size (numK sl ++ numK n ++ (th.take m).flatMap thK) W3 ∧ W3.heap[q]? = some (.cells #[.bool xo, .bool xm, .int .u64 xl, .int .u64 xh, .bool xs] 130) ∧ W3.heap[q + 1]? = some (.cells #[.bool xs, .bool xo, .bool xm] 4))
      rw [← hq, ← hW3]
      clear hW3 hq hn3 b3 k6 k8
      go_loopw [8, 48] (fun _ a wr => ∃ j : Nat, j ≤ 3 ∧ a = .int .i64 j ∧ Nw w wr ∧ Hid (Bd w.heap.size w.heap.size (numK sl ++ numK n ++ (th.take m).flatMap thK ++ ([xs, xo, xm].take j).flatMap boolK) wr ∧ wr.heap[q]? = some (.cells #[.bool xo, .bool xm, .int .u64 xl, .int .u64 xh, .bool xs] 130) ∧ wr.heap[q + 1]? = some (.cells #[.bool xs, .bool xo, .bool xm] 4))) (fun _ a _ => 3 - (intOf a).toNat)
      case atStart => exact ⟨0, by omega, rfl, HS.out.1, Lib.hid ⟨by simpa using HS.out.2.1, HS.out.2.2.1, HS.out.2.2.2⟩⟩
      case round =>
        obtain ⟨j, hj, rfl, ⟨dd, rfl⟩, HJ⟩ := hrel
        by_cases hj3 : j < 3
        · obtain ⟨bv, hbv⟩ : ∃ bv, [xs, xo, xm][j]? = some bv := ⟨_, List.getElem?_eq_getElem (by simpa using hj3)⟩
          have cj := cell3 HJ.out.2.2 hbv
          have HBV := Lib.hid hbv
          have j0 : (0 : Int) ≤ (j : Int) := by omega
          have j1 : (j : Int) < 3 := by omega
          have HJ3 := Lib.hid hj3
          clear hbv hj3
          go_wp2_with fail
          refine (fbool_any bv _).mono ?_
          rintro e w4 ⟨rfl, rfl⟩
          go_wp2_with fail
          have hlen : (numK sl ++ numK n ++ (th.take m).flatMap thK ++ ([xs, xo, xm].take j).flatMap boolK).length ≤ 200000 := by
            have h1 := HPRE.out
            have h2 := flat_len boolK 6 ([xs, xo, xm].take j) (fun b _ => boolK_len b)
            have h3 := List.length_take_le j [xs, xo, xm]
            have h4 := HJ3.out
            rw [List.length_append]; omega
          have hsb : (strB bv).length ≤ 5 := by cases bv <;> decide
          have hw0 : w.heap.size ≤ (w.ext none dd).heap.size := (gext w none dd).size
          refine (bstr w.heap.size w.heap.size _ (strB bv) _ HJ.out.1 (by omega) hw0).mono ?_
          rintro e w5 ⟨rfl, b5, l5, o5⟩
          have s5 := l5.size
          have H5 := Lib.hid (⟨b5, l5, o5⟩ : Bd w.heap.size w.heap.size _ w5 ∧ Below w.heap.size (w.ext none dd) w5 ∧ Ok5 w.heap.size (w.ext none dd) w5)
          have hlen2 : ((numK sl ++ numK n ++ (th.take m).flatMap thK ++ ([xs, xo, xm].take j).flatMap boolK) ++ strB bv).length + 1 ≤ 140737488355328 := by rw [List.length_append]; omega
          have hw5 : w.heap.size ≤ w5.heap.size := by omega
          clear b5 l5 o5
          go_wp2_with fail
          have c6 := bbyte w.heap.size w.heap.size _ 32 w5 H5.out.1 hlen2 hw5
          refine Calls.mono (by exact c6) ?_
          rintro e w6 ⟨rfl, b6, l6, o6⟩
          have hn6 : Nw w w6 := nw_bel ⟨_, rfl⟩ (H5.out.2.1.trans l6)
          have oo : Ok5 w.heap.size (w.ext none dd) w6 := H5.out.2.2.trans o6
          have b6' : Bd w.heap.size w.heap.size (numK sl ++ numK n ++ (th.take m).flatMap thK ++ ([xs, xo, xm].take (j + 1)).flatMap boolK) w6 := by
            rw [take_flat boolK HBV.out, boolK]
            simpa only [List.append_assoc] using b6
          have HZ := Lib.hid (⟨b6', oo.cells HJ.out.2.1 (by omega) (by decide), oo.cells HJ.out.2.2 (by omega) (by decide)⟩ : Bd w.heap.size w.heap.size (numK sl ++ numK n ++ (th.take m).flatMap thK ++ ([xs, xo, xm].take (j + 1)).flatMap boolK) w6 ∧ w6.heap[q]? = some (.cells #[.bool xo, .bool xm, .int .u64 xl, .int .u64 xh, .bool xs] 130) ∧ w6.heap[q + 1]? = some (.cells #[.bool xs, .bool xo, .bool xm] 4))
          clear b6 l6 o6 oo b6'
          go_wp2
          exact ⟨⟨j + 1, by have := HJ3.out; omega, by go_num, hn6, HZ⟩, by have := HJ3.out; simp [intOf]; omega⟩
        · have e3 : j = 3 := by omega
          subst e3
          clear hj hj3
          have d2 : (w.ext none dd).cell? ⟨q, 2, none⟩ = some (.int .u64 xl) := by rw [Lib.cell_of_heap HJ.out.2.1]; rfl
          have hw0 : w.heap.size ≤ (w.ext none dd).heap.size := (gext w none dd).size
          have hlen : (numK sl ++ numK n ++ (th.take m).flatMap thK ++ ([xs, xo, xm].take 3).flatMap boolK).length ≤ 200000 := by
            have h1 := HPRE.out
            have h2 := flat_len boolK 6 ([xs, xo, xm].take 3) (fun b _ => boolK_len b)
            have h3 := List.length_take_le 3 [xs, xo, xm]
            rw [List.length_append]; omega
          go_wp2_with fail
          refine (number_any w.heap.size w.heap.size _ xl _ HJ.out.1 HXL.out (by omega) (HF.out.nw ⟨_, rfl⟩) hw0).mono ?_
          rintro e w7 ⟨rfl, b7, l7, o7⟩
          have d3 : w7.cell? ⟨q, 3, none⟩ = some (.int .u64 xh) := by rw [Lib.cell_of_heap (o7.cells HJ.out.2.1 (by omega) (by decide))]; rfl
          have hk7 := numK_len (z := (xl : Int)) (by have := HXL.out; omega)
          have hlen7 : (numK sl ++ numK n ++ (th.take m).flatMap thK ++ ([xs, xo, xm].take 3).flatMap boolK ++ numK xl).length ≤ 1000000000000 := by rw [List.length_append]; omega
          have hn7 : Nw w w7 := nw_bel ⟨_, rfl⟩ l7
          have hw7 : w.heap.size ≤ w7.heap.size := hn7.grown.size
          have H7 := Lib.hid b7
          have HN7 := Lib.hid hn7
          clear b7 l7 o7 hn7 d2 hlen
          go_wp2_with fail
          refine (number_any w.heap.size w.heap.size _ xh _ H7.out HXH.out hlen7 (HF.out.nw HN7.out) hw7).mono ?_
          rintro e w8 ⟨rfl, b8, l8, o8⟩
          have hn8 : Nw w w8 := nw_bel HN7.out l8
          have b8' : Bd w.heap.size w.heap.size (numK sl ++ numK n ++ (th.take (m + 1)).flatMap thK) w8 := by
            rw [take_flat thK HX.out, thK]
            simpa [List.append_assoc] using b8
          have H8 := Lib.hid b8'
          clear b8 b8' l8 o8 d3
          go_wp2
          exact ⟨⟨m + 1, by have := HMN.out; omega, by go_num, hn8, H8⟩, by have := HMN.out; simp [intOf]; omega⟩
    · have em : m = n := by omega
      subst em
      have hb9 : Bd w.heap.size w.heap.size (numK sl ++ numK m ++ th.flatMap thK) (w.ext none d) := by
        have h := HB.out
        rw [List.take_of_length_le (by have := HN.out; omega)] at h; exact h
      have hlen9 : (numK sl ++ numK m ++ th.flatMap thK).length ≤ 100000 := by
        have h1 := flat_len thK 60 th (fun x hx => thK_len (HNU.out.2 x hx))
        have h2 := HN.out
        rw [List.length_append, List.length_append]; omega
      have H9 := Lib.hid hb9
      have HL9 := Lib.hid hlen9
      clear HB hb9 hlen9 hmn hm
      go_wp2_with fail
      refine (HP.out _ ⟨_, rfl⟩).mono ?_
      rintro e w10 ⟨v', rfl, hown, hn10⟩
      have hBn : w.heap.size < (w.ext none d).heap.size := H9.out.lt
      have b10 := H9.out.nw hn10
      obtain ⟨B2, hB2⟩ : ∃ z, z = (w.ext none d).heap.size := ⟨_, rfl⟩
      rw [← hB2] at hown hBn
      obtain ⟨A, c, rfl⟩ : ∃ A c, v' = .slice A l.length c := by
        rcases own_forms hown with ⟨h1, h2⟩ | ⟨g, cap, h1, _⟩
        · exact ⟨none, 0, by rw [h1, h2]⟩
        · exact ⟨_, _, h1⟩
      obtain ⟨k9, hk9⟩ : ∃ z, z = l.length := ⟨_, rfl⟩
      rw [← hk9] at hown
      have HK9 := Lib.hid hk9
      have hn11 : Nw w w10 := Nw.trans ⟨d, rfl⟩ hn10
      have H10 := Lib.hid (⟨b10, hown⟩ : Bd w.heap.size w.heap.size (numK sl ++ numK m ++ th.flatMap thK) w10 ∧ w10.ownsRow B2 99 2 (.slice A k9 c) k9 (pcells l))
      rw [← hk9]
      have hk10 : (k9 : Int) ≤ 500000 := by have := HLL.out; omega
      have hk11 : (0 : Int) ≤ (k9 : Int) := by omega
      clear hown hn10 b10 hk9 hB2
      go_wp2_with fail
      go_loopw [76] (fun a wr => ∃ k : Nat, k ≤ k9 ∧ a = .int .i64 k ∧ Nw w wr ∧ Hid (Bd w.heap.size w.heap.size (numK sl ++ numK m ++ th.flatMap thK ++ (l.take k).flatMap prK) wr ∧ wr.ownsRow B2 99 2 (.slice A k9 c) k9 (pcells l))) (fun a _ => k9 - (intOf a).toNat)
      case atStart => exact ⟨0, by omega, rfl, hn11, Lib.hid ⟨by simpa using H10.out.1, H10.out.2⟩⟩
      case round =>
        clear hn11
        obtain ⟨k, hk, rfl, ⟨dk, rfl⟩, HK⟩ := hrel
        clear H10
        have hw0 : w.heap.size ≤ (w.ext none dk).heap.size := (gext w none dk).size
        have hlk : (numK sl ++ numK m ++ th.flatMap thK ++ (l.take k).flatMap prK).length ≤ 100000 + 42 * 500000 := by
          have h1 := HL9.out
          have h2 := flat_len prK 42 (l.take k) (fun q hq => by
            have hu := HU6.out q (List.mem_of_mem_take hq)
            have a1 := numK_len hu.1
            have a2 := numK_len hu.2
            rw [prK, List.length_append]; omega)
          have h3 := List.length_take_le k l
          have h4 := HLL.out
          have h5 := HK9.out
          have h6 := List.length_take_le' k l
          rw [List.length_append]; omega
        by_cases hkk : k < k9
        · obtain ⟨⟨qk, qv⟩, hq⟩ : ∃ q, l[k]? = some q := ⟨_, List.getElem?_eq_getElem (by have := HK9.out; omega)⟩
          have hu := HU6.out _ (List.mem_of_getElem? hq)
          obtain ⟨g, rfl, hg⟩ : ∃ g, A = some ⟨g, 0, none⟩ ∧ g < (w.ext none dk).heap.size := by
            rcases own_forms HK.out.2 with ⟨h1, h2⟩ | ⟨g, cap, h1, _, h3, _⟩
            · omega
            · injection h1 with h1 _ _; exact ⟨g, h1, h3.lt⟩
          have hc := pcells_get l k _ hq
          obtain ⟨qk, rfl⟩ : ∃ z : Nat, qk = (z : Int) := ⟨qk.toNat, by have h0 : 0 ≤ qk := hu.1.1; omega⟩
          obtain ⟨qv, rfl⟩ : ∃ z : Nat, qv = (z : Int) := ⟨qv.toNat, by have h0 : 0 ≤ qv := hu.2.1; omega⟩
          have hqk : qk < 18446744073709551616 := by have h0 : (qk : Int) < _ := hu.1.2; omega
          have hqv : qv < 18446744073709551616 := by have h0 : (qv : Int) < _ := hu.2.2; omega
          have c0 : (w.ext none dk).cell? ⟨g, k * 2, none⟩ = some (.int .u64 qk) := (World.ownsRow.cellAt HK.out.2 _ (by omega)).trans hc.1
          have c1 : (w.ext none dk).cell? ⟨g, k * 2 + 1, none⟩ = some (.int .u64 qv) := (World.ownsRow.cellAt HK.out.2 _ (by omega)).trans hc.2
          have HQ := Lib.hid hq
          have HKK := Lib.hid hkk
          have HQV := Lib.hid hqv
          have j0 : (0 : Int) ≤ (k : Int) := by omega
          have j1 : (k : Int) < (k9 : Int) := by omega
          clear hq hc hu hkk hqv hk
          go_wp2_with fail
          clear c0 c1
          obtain ⟨W3, hW3⟩ : ∃ W3, W3 = (w.ext none dk).alloc (.cells #[.int .u64 qk, .int .u64 qv] 99) := ⟨_, rfl⟩
          obtain ⟨q, hq⟩ : ∃ q, q = (w.ext none dk).heap.size := ⟨_, rfl⟩
          have hn3 : Nw (w.ext none dk) W3 := by rw [hW3]; exact (Nw.refl _).alloc _
          have b3 := HK.out.1.nw hn3
          have r3 := own_nw HK.out.2 hn3
          have hqB : q ≠ w.heap.size := by have := HK.out.1.lt; omega
          have k3 : W3.heap[q]? = some (.cells #[.int .u64 qk, .int .u64 qv] 99) := by rw [hW3, hq]; exact heap_alloc_new _ _
          have hw3 : w.heap.size ≤ W3.heap.size := Nat.le_trans hw0 hn3.grown.size
          have hnw3 : Nw w W3 := Nw.trans ⟨dk, rfl⟩ hn3
          rw [← hq, ← hW3]
          clear hW3 hq hn3
          refine (number_any w.heap.size w.heap.size _ qk W3 b3 hqk (by omega) (HF.out.nw hnw3) hw3).mono ?_
          rintro e w7 ⟨rfl, b7, l7, o7⟩
          have d3 : w7.cell? ⟨q, 1, none⟩ = some (.int .u64 qv) := by rw [Lib.cell_of_heap (o7.cells k3 hqB (by decide))]; rfl
          have hk7 := numK_len (z := (qk : Int)) (by omega)
          have hlen7 : (numK sl ++ numK m ++ th.flatMap thK ++ (l.take k).flatMap prK ++ numK qk).length ≤ 1000000000000 := by rw [List.length_append]; omega
          have hn7 : Nw w w7 := nw_bel hnw3 l7
          have hw7 : w.heap.size ≤ w7.heap.size := hn7.grown.size
          have H7 := Lib.hid b7
          have HN7 := Lib.hid hn7
          have HR7 := Lib.hid (own_ok5 r3 o7 hBn (by decide))
          clear b7 l7 o7 hn7 b3 r3 k3 hnw3
          go_wp2_with fail
          refine (number_any w.heap.size w.heap.size _ qv _ H7.out HQV.out hlen7 (HF.out.nw HN7.out) hw7).mono ?_
          rintro e w8 ⟨rfl, b8, l8, o8⟩
          have hn8 : Nw w w8 := nw_bel HN7.out l8
          have b8' : Bd w.heap.size w.heap.size (numK sl ++ numK m ++ th.flatMap thK ++ (l.take (k + 1)).flatMap prK) w8 := by
            rw [take_flat prK HQ.out, prK]
            simpa [List.append_assoc] using b8
          have H8 := Lib.hid (⟨b8', own_ok5 HR7.out o8 hBn (by decide)⟩ : Bd w.heap.size w.heap.size (numK sl ++ numK m ++ th.flatMap thK ++ (l.take (k + 1)).flatMap prK) w8 ∧ w8.ownsRow B2 99 2 (.slice (some ⟨g, 0, none⟩) k9 c) k9 (pcells l))
          clear b8 b8' l8 o8 d3
          go_wp2
          exact ⟨⟨k + 1, by have := HKK.out; omega, by go_num, hn8, H8⟩, by have := HKK.out; simp [intOf]; omega⟩
        · have ek : k = k9 := by omega
          subst ek
          have hbz : Bd w.heap.size w.heap.size (keyB ⟨sl, l, th⟩) (w.ext none dk) := by
            have h := HK.out.1
            rw [List.take_of_length_le (by have := HK9.out; omega)] at h
            have e : numK (th.length : Int) = numK (m : Int) := by rw [← HN.out]
            unfold keyB
            simp only
            rw [e]; exact h
          have hne : keyB ⟨sl, l, th⟩ ≠ [] := by
            intro h
            have : (keyB ⟨sl, l, th⟩).length = 0 := by rw [h]; rfl
            unfold keyB numK at this
            simp at this
          go_wp2_with fail
          refine (bget w.heap.size w.heap.size _ _ hbz hne).mono ?_
          rintro e w12 ⟨rfl, l12⟩
          have hn12 : Nw w w12 := nw_bel ⟨_, rfl⟩ l12
          go_wp2
          exact bodyPost_ret (results_tmp rfl _ _ _) rfl ⟨rfl, hn12⟩
end Go.Proofs.YtnfpicnigfmbdaaGreatDoor
namespace Go.Proofs.YtnfpicnigfmbdaaGreatDoor
open Go.RowKit Go.Xt
/-! What Do and Accept keep of the numbers; several models of a law's own. -/
theorem Th.U.fin {x : Th} : x.fin.U := ⟨⟨by show (0 : Int) ≤ 0; omega, by show (0 : Int) < _; omega⟩, by show (0 : Int) ≤ 0; omega, by show (0 : Int) < _; omega⟩
theorem Th.U.from_ {x : Th} (h : x.U) (k : Int) (hk : 0 ≤ k ∧ k < 18446744073709551616) : (x.from_ k).U := by
  unfold Th.from_
  split
  · have := h.1
    exact ⟨⟨by show 0 ≤ max x.lo k; omega, by show max x.lo k < _; omega⟩, h.2⟩
  · exact Th.U.fin
theorem Th.U.after {x : Th} (h : x.U) (k : Int) (hk : 0 ≤ k ∧ k < 18446744073709551616) : (x.after k).U := by
  unfold Th.after
  split
  · exact Th.U.fin
  · exact h.from_ _ (by omega)
theorem Md.Nums.setT {s : Md} (h : s.Nums) (t : Nat) {y : Th} (hy : y.U) : Md.Nums { s with th := s.th.set t y } := ⟨h.1, set_all h.2 hy⟩
theorem Md.Nums.setL {s : Md} (h : s.Nums) (l : List (Int × Int)) : Md.Nums { s with l := l } := h
theorem perfM_nums {s : Md} {N : Nat} (hok : s.Ok N) (h : s.Nums) {t : Nat} {x : Th} (ht : s.th[t]? = some x) {o : Ox} (hw : o.Wf) : (perfM s t x o).2.Nums := by
  have hx := h.2 x (List.mem_of_getElem? ht)
  unfold perfM
  by_cases k1 : o.k = 1
  · rw [if_pos k1]
    show (openM s t x).Nums
    unfold openM
    split
    · exact h
    · exact h.setT t (y := { x with se := true }) hx
  rw [if_neg k1]
  by_cases k2 : o.k = 2
  · rw [if_pos k2]; exact h.setT t (y := { x with se := false }) hx
  rw [if_neg k2]
  by_cases k3 : o.k = 3
  · rw [if_pos k3]; exact h
  rw [if_neg k3]
  by_cases k4 : o.k = 4
  · rw [if_pos k4]; exact h
  rw [if_neg k4]
  by_cases k5 : o.k = 5
  · rw [if_pos k5]; exact h
  rw [if_neg k5]
  by_cases k6 : o.k = 6
  · rw [if_pos k6]; exact h
  rw [if_neg k6]
  by_cases k7 : o.k = 7
  · rw [if_pos k7]; exact h
  rw [if_neg k7]
  by_cases k8 : o.k = 8
  · rw [if_pos k8]; exact h
  rw [if_neg k8]
  by_cases k9 : o.k = 9
  · rw [if_pos k9]; exact h
  rw [if_neg k9]
  by_cases k10 : o.k = 10
  · rw [if_pos k10]; exact h
  rw [if_neg k10]
  by_cases k11 : o.k = 11
  · rw [if_pos k11]; exact h.setT t (y := ⟨true, true, o.key, o.hi, x.se⟩) ⟨hw.key, hw.hi⟩
  rw [if_neg k11]
  by_cases k12 : o.k = 12
  · rw [if_pos k12]
    cases hq : nextL x.lo x.hi s.l with
    | none => exact h.setT t Th.U.fin
    | some q => exact h.setT t (hx.after _ (hok.u64 q (nextL_mem hq).1).1)
  rw [if_neg k12]
  by_cases k13 : o.k = 13
  · rw [if_pos k13]; exact h.setT t (hx.from_ _ hw.key)
  rw [if_neg k13]
  by_cases k14 : o.k = 14
  · rw [if_pos k14]; exact h.setT t (y := ⟨false, false, 0, 0, x.se⟩) (Th.U.fin (x := x))
  rw [if_neg k14]
  exact h
theorem doM_nums {s : Md} {N : Nat} (hok : s.Ok N) (h : s.Nums) (t : Int) {o : Ox} (hw : o.Wf) : (doM s t o).2.Nums := by
  by_cases hr : refM s t o = 0
  · obtain ⟨t, x, rfl, hx, hc, hre, hd⟩ := refM_zero hr
    rw [hd]; exact perfM_nums hok h hx hw
  · have e : doM s t o = (⟨refM s t o, false, 0, 0, 0⟩, s) := by unfold doM; rw [if_pos hr]
    rw [e]; exact h
theorem acceptM_nums {s : Md} {N : Nat} (hok : s.Ok N) (h : s.Nums) (t : Int) {o : Ox} (hw : o.Wf) {r : Rs} (hk : 0 ≤ r.key ∧ r.key < 18446744073709551616) : (acceptM s t o r).2.Nums := by
  unfold acceptM
  by_cases hr : refM s t o = 0
  · obtain ⟨t, x, rfl, hx, hc, hre, -⟩ := refM_zero hr
    have hxo := h.2 x (List.mem_of_getElem? hx)
    rw [if_neg (by simpa using hr), Int.toNat_natCast, hx]
    simp only
    split
    · exact h
    · split
      · split
        · exact h.setT t Th.U.fin
        · split
          · exact h.setT t (hxo.after _ hk)
          · exact h
      · split
        · exact h
        · split
          · exact perfM_nums hok h hx hw
          · exact h
  · rw [if_pos hr]; exact h
theorem acceptM_len (s : Md) (t : Int) (o : Ox) (r : Rs) : (acceptM s t o r).2.th.length = s.th.length := by
  by_cases hr : refM s t o = 0
  · obtain ⟨t, x, rfl, hx, hc, hre, hd⟩ := refM_zero hr
    have hl := (doM_len s (t : Int) o).1
    rw [hd] at hl
    unfold acceptM
    rw [if_neg (by simpa using hr), Int.toNat_natCast, hx]
    simp only
    split
    · rfl
    · split
      · split
        · simp
        · split
          · simp
          · rfl
      · split
        · rfl
        · split
          · exact hl
          · rfl
  · unfold acceptM; rw [if_pos hr]
/-- Models in new memory, none touching another, beside blocks of the law's own. -/
def Lw (w : World) (N : Nat) (ms : List (Nat × Md)) (K : List (Nat × Obj)) (W : World) : Prop :=
  Nw w W ∧ ∃ ps : List Pl, ps.length = ms.length ∧
    (∀ (i : Nat) (p : Pl) (m : Nat × Md), ps[i]? = some p → ms[i]? = some m → p.gm = m.1 ∧ MAt W p m.2 ∧ m.2.Ok N ∧ m.2.Nums ∧ (0 < m.2.th.length) ∧ ∀ g ∈ p.foot, w.heap.size ≤ g) ∧
    (∀ (i j : Nat) (p q : Pl), ps[i]? = some p → ps[j]? = some q → i ≠ j → ∀ g ∈ p.foot, g ∉ q.foot) ∧
    (∀ x ∈ K, W.heap[x.1]? = some x.2 ∧ ∀ p ∈ ps, x.1 ∉ p.foot)
section
variable {w W W' : World} {N : Nat} {ms : List (Nat × Md)} {K : List (Nat × Obj)}
theorem Lw.nw (h : Lw w N ms K W) : Nw w W := h.1
theorem Lw.block (h : Lw w N ms K W) {b : Nat} {o : Obj} (hb : (b, o) ∈ K) : W.heap[b]? = some o := by
  obtain ⟨_, ps, _, _, _, hK⟩ := h; exact (hK _ hb).1
theorem Lw.cell (h : Lw w N ms K W) {b : Nat} {c : Array Value} {T : TypeId} {fz : Nat × Nat} (hb : (b, .cells c T fz) ∈ K) (i : Nat) : W.cell? ⟨b, i, none⟩ = c[i]? := Lib.cell_of_heap (h.block hb) i
theorem Lw.at (h : Lw w N ms K W) {i gm : Nat} {s : Md} (hi : ms[i]? = some (gm, s)) : ∃ p : Pl, p.gm = gm ∧ MAt W p s ∧ s.Ok N ∧ s.Nums ∧ 0 < s.th.length ∧ ∀ g ∈ p.foot, w.heap.size ≤ g := by
  obtain ⟨_, ps, hl, hA, _, _⟩ := h
  have hlt := (List.getElem?_eq_some_iff.1 hi).1
  obtain ⟨p, hp⟩ : ∃ p, ps[i]? = some p := ⟨_, List.getElem?_eq_getElem (by omega)⟩
  exact ⟨p, hA i p _ hp hi⟩
theorem Lw.im (h : Lw w N ms K W) {i gm : Nat} {s : Md} (hi : ms[i]? = some (gm, s)) : gm < W.heap.size := by
  obtain ⟨p, rfl, h1, _⟩ := h.at hi; exact h1.im
theorem Lw.low {ps : List Pl} (hl : ps.length = ms.length) (hA : ∀ (i : Nat) (p : Pl) (m : Nat × Md), ps[i]? = some p → ms[i]? = some m → p.gm = m.1 ∧ MAt W p m.2 ∧ m.2.Ok N ∧ m.2.Nums ∧ (0 < m.2.th.length) ∧ ∀ g ∈ p.foot, w.heap.size ≤ g) {p : Pl} (hp : p ∈ ps) {g : Nat} (hg : g ∈ p.foot) : g < W.heap.size := by
  obtain ⟨i, hi⟩ := List.mem_iff_getElem?.1 hp
  have hlt2 := (List.getElem?_eq_some_iff.1 hi).1
  obtain ⟨m, hm⟩ : ∃ m, ms[i]? = some m := ⟨_, List.getElem?_eq_getElem (by omega)⟩
  exact (hA i p m hi hm).2.1.lt hg
theorem Lw.grow (h : Lw w N ms K W) (hn : Nw W W') : Lw w N ms K W' := by
  obtain ⟨h0, ps, hl, hA, hD, hK⟩ := h
  exact ⟨h0.trans hn, ps, hl, fun i p m hp hm => by
    obtain ⟨a, b, c, d, e, f⟩ := hA i p m hp hm
    exact ⟨a, b.nw hn, c, d, e, f⟩, hD, fun x hx => ⟨nw_cells hn (hK x hx).1, (hK x hx).2⟩⟩
/-- One block more that is kept. -/
theorem Lw.keep (h : Lw w N ms K W) (hn : Nw W W') {b : Nat} {o : Obj} (hb : W'.heap[b]? = some o) (hlt : W.heap.size ≤ b) : Lw w N ms ((b, o) :: K) W' := by
  obtain ⟨h0, ps, hl, hA, hD, hK⟩ := h
  refine ⟨h0.trans hn, ps, hl, fun i p m hp hm => by
    obtain ⟨a, b, c, d, e, f⟩ := hA i p m hp hm
    exact ⟨a, b.nw hn, c, d, e, f⟩, hD, fun x hx => ?_⟩
  rcases List.mem_cons.1 hx with rfl | hx
  · exact ⟨hb, fun p hp hg => by have := Lw.low hl hA hp hg; simp only at this; omega⟩
  · exact ⟨nw_cells hn (hK x hx).1, (hK x hx).2⟩
/-- A block that was there all along is kept, too. -/
theorem Lw.old (h : Lw w N ms K W) {b : Nat} {o : Obj} (hb : w.heap[b]? = some o) : Lw w N ms ((b, o) :: K) W := by
  obtain ⟨h0, ps, hl, hA, hD, hK⟩ := h
  refine ⟨h0, ps, hl, hA, hD, fun x hx => ?_⟩
  rcases List.mem_cons.1 hx with rfl | hx
  · refine ⟨nw_cells h0 hb, fun p hp hg => ?_⟩
    obtain ⟨i, hi⟩ := List.mem_iff_getElem?.1 hp
    have hlt2 := (List.getElem?_eq_some_iff.1 hi).1
    obtain ⟨m, hm⟩ : ∃ m, ms[i]? = some m := ⟨_, List.getElem?_eq_getElem (by omega)⟩
    have h1 := (hA i p m hi hm).2.2.2.2.2 _ hg
    have h2 := (Array.getElem?_eq_some_iff.1 hb).1
    simp only at h1 h2
    omega
  · exact hK x hx
/-- One of the models is worked on. -/
theorem Lw.run (h : Lw w N ms K W) {i gm : Nat} {s : Md} (hi : ms[i]? = some (gm, s)) :
    ∃ p : Pl, p.gm = gm ∧ MAt W p s ∧ s.Ok N ∧ s.Nums ∧ 0 < s.th.length ∧ ∀ (s' : Md) (p' : Pl) (W' : World) (N' : Nat), MUp W p s' p' W' → N ≤ N' → s'.Ok N' → s'.Nums → 0 < s'.th.length → Lw w N' (ms.set i (gm, s')) K W' := by
  obtain ⟨h0, ps, hl, hA, hD, hK⟩ := h
  have hlt := (List.getElem?_eq_some_iff.1 hi).1
  obtain ⟨p, hp⟩ : ∃ p, ps[i]? = some p := ⟨_, List.getElem?_eq_getElem (by omega)⟩
  obtain ⟨a, b, c, d, e, f⟩ := hA i p _ hp hi
  refine ⟨p, a, b, c, d, e, fun s' p' W' N' hu hN hok hnu hth => ⟨nw_chg2 h0 hu.chg f, ps.set i p', by simp [hl], fun j q m hq hm => ?_, fun j k q r hq hr hjk g hg => ?_, fun x hx => ?_⟩⟩
  · by_cases hij : i = j
    · subst hij
      rw [List.getElem?_set_self (by omega)] at hq hm
      cases hq; cases hm
      refine ⟨hu.gm.trans a, hu.at', hok, hnu, hth, fun g hg => ?_⟩
      rcases hu.mv g hg with h1 | h1
      · exact f g h1
      · exact Nat.le_trans h0.grown.size h1
    · rw [List.getElem?_set_ne hij] at hq hm
      obtain ⟨a2, b2, c2, d2, e2, f2⟩ := hA j q m hq hm
      exact ⟨a2, b2.chg hu.chg (fun g hg => hD j i q p hq hp (Ne.symm hij) g hg), c2.mono hN, d2, e2, f2⟩
  · by_cases hij : i = j
    · subst hij
      rw [List.getElem?_set_self (by omega)] at hq
      rw [List.getElem?_set_ne hjk] at hr
      cases hq
      rcases hu.mv g hg with h1 | h1
      · exact hD i k p r hp hr hjk g h1
      · intro h2
        have := Lw.low hl hA (List.mem_of_getElem? hr) h2
        omega
    · rw [List.getElem?_set_ne hij] at hq
      by_cases hik : i = k
      · subst hik
        rw [List.getElem?_set_self (by omega)] at hr
        cases hr
        intro h2
        rcases hu.mv g h2 with h1 | h1
        · exact hD j i q p hq hp hjk g hg h1
        · have := Lw.low hl hA (List.mem_of_getElem? hq) hg
          omega
      · rw [List.getElem?_set_ne hik] at hr
        exact hD j k q r hq hr hjk g hg
  · have hxl := (Array.getElem?_eq_some_iff.1 (hK x hx).1).1
    refine ⟨(hu.chg.block x.1 hxl ((hK x hx).2 p (List.mem_of_getElem? hp))).trans (hK x hx).1, fun q hq hg => ?_⟩
    rcases List.mem_or_eq_of_mem_set hq with h1 | rfl
    · exact (hK x hx).2 q h1 hg
    · rcases hu.mv _ hg with h1 | h1
      · exact (hK x hx).2 p (List.mem_of_getElem? hp) h1
      · omega
/-- One model more. -/
theorem Lw.add (h : Lw w N ms K W) (hn : Nw W W') {p : Pl} {s : Md} (hp : MAt W' p s) (hf : ∀ g ∈ p.foot, W.heap.size ≤ g) (hok : s.Ok N) (hnu : s.Nums) (hth : 0 < s.th.length) : Lw w N (ms ++ [(p.gm, s)]) K W' := by
  obtain ⟨h0, ps, hl, hA, hD, hK⟩ := h
  refine ⟨h0.trans hn, ps ++ [p], by simp [hl], fun j q m hq hm => ?_, fun j k q r hq hr hjk g hg => ?_, fun x hx => ?_⟩
  · by_cases hj : j < ps.length
    · rw [List.getElem?_append_left hj] at hq
      rw [List.getElem?_append_left (by omega)] at hm
      obtain ⟨a, b, c, d, e, f⟩ := hA j q m hq hm
      exact ⟨a, b.nw hn, c, d, e, f⟩
    · rw [List.getElem?_append_right (by omega)] at hq
      rw [List.getElem?_append_right (by omega)] at hm
      have e1 : j - ps.length = 0 := by have := (List.getElem?_eq_some_iff.1 hq).1; simp at this; omega
      rw [e1] at hq
      rw [← hl, e1] at hm
      simp at hq hm
      subst hq hm
      exact ⟨rfl, hp, hok, hnu, hth, fun g hg => Nat.le_trans h0.grown.size (hf g hg)⟩
  · have hend : ∀ (z : Nat) (y : Pl), (ps ++ [p])[z]? = some y → (z < ps.length ∧ ps[z]? = some y) ∨ (z = ps.length ∧ y = p) := fun z y hz => by
      by_cases hj : z < ps.length
      · rw [List.getElem?_append_left hj] at hz; exact .inl ⟨hj, hz⟩
      · rw [List.getElem?_append_right (by omega)] at hz
        have e1 : z - ps.length = 0 := by have := (List.getElem?_eq_some_iff.1 hz).1; simp at this; omega
        rw [e1] at hz
        simp at hz
        exact .inr ⟨by omega, hz.symm⟩
    rcases hend j q hq with ⟨hj, hq'⟩ | ⟨hj, hqp⟩
    · rcases hend k r hr with ⟨hk, hr'⟩ | ⟨hk, hrp⟩
      · exact hD j k q r hq' hr' hjk g hg
      · intro h2
        have h3 := Lw.low hl hA (List.mem_of_getElem? hq') hg
        have h4 := hf g (hrp ▸ h2)
        omega
    · rcases hend k r hr with ⟨hk, hr'⟩ | ⟨hk, hrp⟩
      · intro h2
        have h3 := Lw.low hl hA (List.mem_of_getElem? hr') h2
        have h4 := hf g (hqp ▸ hg)
        omega
      · omega
  · refine ⟨nw_cells hn (hK x hx).1, fun q hq hg => ?_⟩
    have hxl := (Array.getElem?_eq_some_iff.1 (hK x hx).1).1
    rcases List.mem_append.1 hq with h1 | h1
    · exact (hK x hx).2 q h1 hg
    · simp at h1; subst h1
      have := hf _ hg; omega
/-- A slice of pairs that is kept. -/
def PV (K : List (Nat × Obj)) (A : Option Addr) (n : Nat) (l : List (Int × Int)) : Prop := n = l.length ∧ (n = 0 ∨ ∃ g cap cur, A = some ⟨g, 0, none⟩ ∧ (g, Obj.cells cur 99) ∈ K ∧ n ≤ cap ∧ cur.size = cap * 2 ∧ cur.toList.take (n * 2) = pcells l)
theorem PV.more {K K' : List (Nat × Obj)} {A : Option Addr} {n : Nat} {l : List (Int × Int)} (h : PV K A n l) (hs : ∀ x ∈ K, x ∈ K') : PV K' A n l := by
  refine ⟨h.1, h.2.imp id ?_⟩
  rintro ⟨g, cap, cur, h1, h2, h3⟩
  exact ⟨g, cap, cur, h1, hs _ h2, h3⟩
theorem PV.rd {A : Option Addr} {n : Nat} {l : List (Int × Int)} (hp : PV K A n l) (h : Lw w N ms K W) : Rd W 2 A n (pcells l) := by
  obtain ⟨rfl, hp⟩ := hp
  refine ⟨pcells_len l, fun h0 => ?_⟩
  rcases hp with h1 | ⟨g, cap, cur, rfl, h2, h3, h4, h5⟩
  · omega
  · refine ⟨g, 0, rfl, (Array.getElem?_eq_some_iff.1 (h.block h2)).1, fun j u hu => ?_⟩
    rw [Nat.zero_add, h.cell h2 j]
    have hj := (List.getElem?_eq_some_iff.1 hu).1
    rw [← h5, List.getElem?_take] at hu
    split at hu
    · simpa using hu
    · cases hu
end
end Go.Proofs.YtnfpicnigfmbdaaGreatDoor
