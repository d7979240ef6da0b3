import Derived.Test.YtkikdpdainmlcaaGreatGZw
set_option linter.unusedVariables false
set_option linter.unusedSimpArgs false
set_option linter.unnecessarySimpa false
namespace Go.Proofs.YtkikdpdainmlcaaGreat
open Go.RowKit Go.Xt
/-! Rows of numbers as they are read; within. -/
structure RowsI (w : World) (A : Option Addr) (n : Nat) (za : List Value) (l : List (List Nat)) : Prop where
  rd : Rd w 1 A n za
  len : l.length = n
  el : ∀ (i : Nat) (z : Value) (r : List Nat), za[i]? = some z → l[i]? = some r → ∃ A c, z = .slice A r.length c ∧ Is w A r.length (natI r)
theorem RowsI.nw {w w' : World} {A : Option Addr} {n : Nat} {za : List Value} {l : List (List Nat)} (h : RowsI w A n za l) (hn : Nw w w') : RowsI w' A n za l :=
  ⟨Rd.nw h.rd hn, h.len, fun i z r hz hr => by
    obtain ⟨A, c, h1, h2⟩ := h.el i z r hz hr
    exact ⟨A, c, h1, h2.nw hn⟩⟩
theorem RowsI.get {w : World} {A : Option Addr} {n : Nat} {za : List Value} {l : List (List Nat)} (h : RowsI w A n za l) {i : Nat} (hi : i < n) : ∃ (b o : Nat) (Ar : Option Addr) (c : Nat) (r : List Nat), A = some ⟨b, o, none⟩ ∧ b < w.heap.size ∧ l[i]? = some r ∧ w.cell? ⟨b, o + i, none⟩ = some (.slice Ar r.length c) ∧ Is w Ar r.length (natI r) := by
  obtain ⟨b, o, hA, hb, hc⟩ := h.rd.2 (by omega)
  obtain ⟨r, hr⟩ : ∃ r, l[i]? = some r := ⟨_, List.getElem?_eq_getElem (by rw [h.len]; exact hi)⟩
  obtain ⟨z, hz⟩ : ∃ z, za[i]? = some z := ⟨_, List.getElem?_eq_getElem (by have := h.rd.1; omega)⟩
  obtain ⟨Ar, c, rfl, his⟩ := h.el i z r hz hr
  exact ⟨b, o, Ar, c, r, hA, hb, hr, hc i _ hz, his⟩
theorem RR.rowsI {w : World} {base : Nat} {v : Value} {zs : List Value} {l : List (List Nat)} (h : RR w base 46 3 1 lnJ cfJ v zs l) : ∃ A c, v = .slice A l.length c ∧ RowsI w A l.length zs l := by
  have hrow := h.row
  rw [h.len] at hrow
  obtain ⟨A, c, rfl⟩ := own_slice hrow
  refine ⟨A, c, rfl, own_rd hrow, rfl, fun i z r hz hr => ?_⟩
  have h3 : OwnI w base z (natI r) := h.el i z r hz hr
  obtain ⟨Az, cz, rfl, his⟩ := own_is h3
  rw [natI_len] at his ⊢
  exact ⟨Az, cz, rfl, his⟩
set_option maxRecDepth 20000 in
set_option maxHeartbeats 4000000 in
theorem within_yes {w : World} {A : Option Addr} {m cm : Nat} {za : List Value} {l : List (List Nat)} (n : Nat) (h : RowsI w A m za l) (hm : m ≤ 1000) (hl : ∀ r ∈ l, r ≠ [] ∧ r.length ≤ 2000 ∧ ∀ q ∈ r, q < n) :
    Calls Tryz.prog 12 #[.slice A m cm, .int .i64 (n : Int)] w fun e w' => e = .returned (.bool true) ∧ Nw w w' := by
  have HR := Lib.hid h
  have HM := Lib.hid hm
  have HLL := Lib.hid hl
  clear h hm hl
  go_enter Tryz.func12, Tryz.ntmps12
  go_wp2_with fail
  go_loopw [5, 6] (fun a _ wr => ∃ i : Nat, i ≤ m ∧ a = .int .i64 i ∧ Nw w wr) (fun a _ _ => m - (intOf a).toNat)
  case atStart => exact ⟨0, Nat.zero_le _, rfl, nwa⟩
  case round =>
    obtain ⟨i, hi, rfl, ⟨d, rfl⟩⟩ := hrel
    by_cases hin : i < m
    · obtain ⟨b, o, Ar, c, r, rfl, hb, hr, hcl, his⟩ := HR.out.get hin
      haveI : In b w := ⟨hb⟩
      have hq := HLL.out r (List.mem_of_getElem? hr)
      obtain ⟨nr, hnr⟩ : ∃ q, q = r.length := ⟨_, rfl⟩
      rw [← hnr] at hcl his
      have hne : ((nr : Int) == 0) = false := by
        have h1 := hq.1
        have h2 : nr ≠ 0 := fun e => h1 (List.length_eq_zero_iff.1 (by omega))
        simpa using h2
      have hne2 : ¬ nr = 0 := by simpa using hne
      have HQ := Lib.hid hq
      have HIS := Lib.hid his
      have HNR := Lib.hid hnr
      have HIN := Lib.hid hin
      have i1 : (i : Int) < (m : Int) := by omega
      have i2 : i < 1000000 := by have := HM.out; omega
      clear hr his hq hnr hin hi hb
      go_wp2_with fail
      go_loopw [6] (fun a wr => ∃ j : Nat, j ≤ nr ∧ a = .int .i64 j ∧ Nw w wr) (fun a _ => nr - (intOf a).toNat)
      case atStart => exact ⟨0, Nat.zero_le _, rfl, nwa⟩
      case round =>
        obtain ⟨j, hj, rfl, ⟨d', rfl⟩⟩ := hrel
        by_cases hjn : j < nr
        · obtain ⟨b2, o2, x, rfl, hb2, hx, hc2⟩ := HIS.out.get hjn
          obtain ⟨q, rfl, hq2⟩ := natI_get hx
          haveI : In b2 w := ⟨hb2⟩
          have hqn := HQ.out.2.2 q (List.mem_of_getElem? hq2)
          have i3 : (j : Int) < (nr : Int) := by omega
          have i4 : j < 1000000 := by have h1 := HQ.out.2.1; have h2 := HNR.out; omega
          have d1 : decide (n ≤ q) = false := decide_eq_false (by omega)
          have d2 : ¬ (q : Int) < 0 := by omega
          have HJN := Lib.hid hjn
          clear hx hq2 hqn hjn hj hb2
          go_wp2_with fail
          exact ⟨⟨j + 1, by have := HJN.out; omega, by go_num, nwa⟩, by have := HJN.out; simp [intOf]; omega⟩
        · have ej : j = nr := by omega
          have i3 : ¬ (j : Int) < (nr : Int) := by omega
          clear ej
          go_wp2_with fail
          exact ⟨⟨i + 1, by have := HIN.out; omega, by go_num, nwa⟩, by have := HIN.out; simp [intOf]; omega⟩
    · have ei : i = m := by omega
      subst ei
      go_wp2_with fail
      go_ret
      exact ⟨rfl, nwa⟩
end Go.Proofs.YtkikdpdainmlcaaGreat
namespace Go.Proofs.YtkikdpdainmlcaaGreat
open Go.RowKit Go.Xt
/-! was. -/
set_option maxRecDepth 20000 in
set_option maxHeartbeats 8000000 in
theorem was_yes {w : World} {c : Cf} {cuts : List Nat} {A : Option Addr} {n cap : Nat} {l : List Cl} (hi : In3 w c cuts A n cap l) {o2 : List Sta} (hX : wX c cuts l = .ok o2) (y1 y2 fr : Int) (hfr : -1 ≤ fr) (j0 : Nat) (t : Int) (hj0 : (j0 = 0 ∧ t = fr) ∨ (∃ y, l[j0 - 1]? = some y ∧ 1 ≤ j0 ∧ y.took = t)) (ht : fr ≤ t) (hin : (y1, y2) ∈ mapsA c cuts l t) :
    Calls Tryz.prog 14 #[confV c, .agg #[.int .u64 y1, .int .u64 y2], .int .i64 fr, .slice A n cap] w fun e w' => e = .returned (.bool true) ∧ Nw w w' := by
  have hAT : ∀ W, Nw w W → ∀ t : Int, -1 ≤ t → Calls Tryz.prog 16 #[confV c, .int .i64 t, .slice A n cap] W (PairsP W (0, mapsA c cuts l t)) := fun W hq t ht => by
    have h := wat_any (hi.nw hq) t
    rw [wAt_ok hX ht] at h
    exact h
  have hjn : j0 ≤ n := by
    rcases hj0 with ⟨h, -⟩ | ⟨y, h, h1, -⟩
    · omega
    · have h2 := (List.getElem?_eq_some_iff.1 h).1; have h3 := hi.hl.1; omega
  obtain ⟨Am, hAm⟩ : ∃ Am, Am = mapsA c cuts l := ⟨_, rfl⟩
  rw [← hAm] at hAT hin
  obtain ⟨k0, hk0⟩ := List.mem_iff_getElem?.1 hin
  have HI := Lib.hid hi
  have HJ0 := Lib.hid hj0
  have HT := Lib.hid (And.intro ht hk0)
  have HFR := Lib.hid hfr
  have HAT := Lib.hid hAT
  unfold confV at HAT ⊢
  obtain ⟨W2, hW2⟩ : ∃ W, W = (w.alloc (cellsOf c 27)).alloc (.cells #[.int .u64 y1, .int .u64 y2] 51) := ⟨_, rfl⟩
  haveI hca : ConfAt W2 w.heap.size c := by
    have h0 : ConfAt (w.alloc (cellsOf c 27)) w.heap.size c := ⟨fun i v hv => by unfold cellsOf; unfold ccells at hv; rw [World.cell?_alloc_new]; simpa using hv, by simp⟩
    exact h0.nw (by rw [hW2]; exact nwa)
  have hn2 : Nw w W2 := by rw [hW2]; exact nwa
  have p0 : W2.cell? ⟨w.heap.size + 1, 0, none⟩ = some (.int .u64 y1) := by rw [hW2]; simp [go_sem]
  have p1 : W2.cell? ⟨w.heap.size + 1, 1, none⟩ = some (.int .u64 y2) := by rw [hW2]; simp [go_sem]
  unfold cellsOf at hW2
  have HW2 := Lib.hid hW2
  have HN2 := Lib.hid hn2
  haveI : In w.heap.size W2 := ⟨hca.lt⟩
  haveI : In (w.heap.size + 1) W2 := ⟨World.block_lt_of_cell? W2 _ p0⟩
  have hn1000 := hi.n1
  clear hW2 hn2 hi hX hfr hAT hAm hj0 ht hin hk0
  go_enter Tryz.func14, Tryz.ntmps14
  go_upto_region 1 with (fail)
  rw [← HW2.out]
  go_wp2_with fail
  go_loopw [9, 10, 11, 12, 13] (fun a _ _ _ _ wr => ∃ k : Nat, k ≤ j0 ∧ a = .int .i64 ((k : Int) - 1) ∧ Nw W2 wr) (fun a _ _ _ _ _ => n + 1 - (intOf a + 1).toNat)
  case atStart => exact ⟨0, Nat.zero_le _, rfl, nwa⟩
  case round =>
    obtain ⟨k, hk, rfl, hnr⟩ := hrel
    obtain ⟨ws, hws⟩ : ∃ q, q = wr := ⟨_, rfl⟩
    subst hws
    have HNR := Lib.hid hnr
    haveI hca3 : ConfAt ws w.heap.size c := hca.nw hnr
    haveI : In w.heap.size ws := ⟨hca3.lt⟩
    have i1 : (k : Int) - 1 < (n : Int) := by omega
    obtain ⟨st, hst⟩ : ∃ st : Int, (k = 0 ∧ st = fr) ∨ (∃ y, l[k - 1]? = some y ∧ 1 ≤ k ∧ y.took = st) := by
      by_cases h0 : k = 0
      · exact ⟨fr, .inl ⟨h0, rfl⟩⟩
      · have h1 : k - 1 < l.length := by rw [HI.out.hl.1]; omega
        exact ⟨_, .inr ⟨_, List.getElem?_eq_getElem h1, by omega, rfl⟩⟩
    have hsame : k = j0 → st = t := fun e => by
      subst e
      rcases hst with ⟨h1, h2⟩ | ⟨y, h1, h2, h3⟩ <;> rcases HJ0.out with ⟨h4, h5⟩ | ⟨y', h4, h5, h6⟩
      · rw [h2, h5]
      · omega
      · omega
      · rw [h1] at h4; injection h4 with h4; subst h4; rw [← h3, h6]
    have HSAME := Lib.hid hsame
    rcases hst with ⟨h0, h1⟩ | ⟨y, hy, hk1, rfl⟩
    · subst h0
      obtain rfl : fr = st := h1.symm
      rw [show (((0 : Nat) : Int) - 1) = -1 from rfl]
      have hst : True := trivial
      have q9 : decide ((0 : Int) ≤ (-1)) = false := rfl
      have d1 : decide (fr < fr) = false := by simp
      have hst1 : -1 ≤ fr := by have := HFR.out; omega
      have HAT2 := Lib.hid (HAT.out ws (HN2.out.trans HNR.out) fr hst1)
      clear hst hsame hst1
      go_wp2_with fail
      refine HAT2.out.mono ?_
      rintro e W5 ⟨v, rfl, hown, hn5, hlen⟩
      dsimp only at hown hlen ⊢
      obtain ⟨Ap, cp, rfl⟩ := own_slice hown
      obtain ⟨np, hnp⟩ : ∃ q, q = (Am fr).length := ⟨_, rfl⟩
      rw [← hnp] at hown hlen ⊢
      have HROW := Lib.hid (own_rd hown)
      have HNP := Lib.hid hnp
      have q0 := cell_nw p0 (HNR.out.trans hn5)
      have q1 := cell_nw p1 (HNR.out.trans hn5)
      haveI : In (w.heap.size + 1) W5 := ⟨World.block_lt_of_cell? W5 _ q0⟩
      have HN5 := Lib.hid (HNR.out.trans hn5)
      clear hown hnp hn5
      go_wp2_with fail
      go_loopw [13] (fun a wr => ∃ kk : Nat, kk ≤ np ∧ a = .int .i64 kk ∧ Nw W5 wr ∧ Hid (0 = j0 → kk ≤ k0)) (fun a _ => np - (intOf a).toNat)
      case atStart => exact ⟨0, Nat.zero_le _, rfl, nwa, Lib.hid fun _ => Nat.zero_le _⟩
      case round =>
        obtain ⟨kk, hkk, rfl, ⟨d, rfl⟩, HKK⟩ := hrel
        by_cases hkn : kk < np
        · obtain ⟨b5, o5, rfl, hb5, hc5⟩ := HROW.out.2 (by omega)
          haveI : In b5 W5 := ⟨hb5⟩
          obtain ⟨⟨x1, x2⟩, hx⟩ : ∃ x, (Am fr)[kk]? = some x := ⟨_, List.getElem?_eq_getElem (by rw [← HNP.out]; exact hkn)⟩
          obtain ⟨g0, g1⟩ := pcells_get (Am fr) kk _ hx
          have a0 : W5.cell? ⟨b5, o5 + kk * 2, none⟩ = some (.int .u64 x1) := hc5 _ _ g0
          have a1 : W5.cell? ⟨b5, o5 + kk * 2 + 1, none⟩ = some (.int .u64 x2) := by have := hc5 _ _ g1; rw [← Nat.add_assoc] at this; exact this
          have HX := Lib.hid hx
          have HKN := Lib.hid hkn
          have i3 : (kk : Int) < (np : Int) := by omega
          have i4 : kk < 1000000 := by omega
          clear hx g0 g1 hc5 hkn hkk hb5
          by_cases heq : x1 = y1 ∧ x2 = y2
          · obtain ⟨rfl, rfl⟩ := heq
            go_upto_region 12 with (fail)
            go_region
            go_wp2
            go_ret
            exact ⟨by simp, HN2.out.trans (HN5.out.trans (nwa))⟩
          · have e0 : (decide (x1 = y1) && decide (x2 = y2)) = false := by
              cases h1 : (decide (x1 = y1) && decide (x2 = y2)) with
              | false => rfl
              | true => exfalso; simp at h1; exact heq h1
            have HK2 := Lib.hid (show 0 = j0 → kk + 1 ≤ k0 from fun e => by
              have h1 := HKK.out e
              rcases Nat.lt_or_ge kk k0 with h2 | h2
              · exact h2
              · exfalso
                have h3 : kk = k0 := by omega
                have h4 := HX.out
                rw [HSAME.out e, h3, HT.out.2] at h4
                injection h4 with h4; injection h4 with h5 h6
                exact heq ⟨h5.symm, h6.symm⟩)
            clear heq
            go_upto_region 12 with (fail)
            go_region
            go_wp2
            exact ⟨⟨kk + 1, by have := HKN.out; omega, by go_num, nwa, HK2⟩, by have := HKN.out; simp [intOf]; omega⟩
        · have ek : kk = np := by omega
          have hne : 0 ≠ j0 := fun e => by
            have h1 := HKK.out e
            have h2 := (List.getElem?_eq_some_iff.1 HT.out.2).1
            have h3 := HNP.out
            rw [HSAME.out e] at h3
            omega
          have i3 : ¬ (kk : Int) < (np : Int) := by omega
          clear ek
          go_wp2_with fail
          exact ⟨⟨0 + 1, by omega, by simp, HN5.out.trans (nwa)⟩, by simp [intOf]⟩
    · obtain ⟨k', rfl⟩ : ∃ k', k = k' + 1 := ⟨k - 1, by omega⟩
      rw [show (((k' + 1 : Nat) : Int) - 1) = (k' : Int) by omega]
      rw [show k' + 1 - 1 = k' by omega] at hy
      have hkn' : k' < n := by rw [← HI.out.hl.1]; exact (List.getElem?_eq_some_iff.1 hy).1
      obtain ⟨b, o, y', rfl, hb, hy', hcy⟩ := (HI.out.hl.nw (HN2.out.trans HNR.out)).get hkn'
      obtain rfl : y = y' := by rw [hy] at hy'; injection hy'
      have e10 : ws.cell? ⟨b, o + k' * 18 + 10, none⟩ = some (.int .i64 y.took) := (AtC.range hcy) 10 _ rfl
      haveI : In b ws := ⟨hb⟩
      have i2 : (k' : Int) < (n : Int) := by omega
      have i5 : (0 : Int) ≤ (k' : Int) := by omega
      have i6 : k' < 1000000 := by omega
      have hst : True := trivial
      clear hy hy' hcy hb
      by_cases hlt : y.took < fr
      · have hne : (k' + 1) ≠ j0 := fun e => by have h1 := HSAME.out e; have h2 := HT.out.1; omega
        have d1 : decide (y.took < fr) = true := by simpa using hlt
        clear hlt hst hsame
        go_wp2_with fail
        exact ⟨⟨k' + 1 + 1, by omega, by go_num, HNR.out.trans (Nw.refl _)⟩, by simp [intOf]; omega⟩
      · have d1 : decide (y.took < fr) = false := by simpa using hlt
        have hst1 : -1 ≤ y.took := by have := HFR.out; omega
        have HAT2 := Lib.hid (HAT.out ws (HN2.out.trans HNR.out) y.took hst1)
        clear hlt hst hsame hst1
        go_wp2_with fail
        refine HAT2.out.mono ?_
        rintro e W5 ⟨v, rfl, hown, hn5, hlen⟩
        dsimp only at hown hlen ⊢
        obtain ⟨Ap, cp, rfl⟩ := own_slice hown
        obtain ⟨np, hnp⟩ : ∃ q, q = (Am y.took).length := ⟨_, rfl⟩
        rw [← hnp] at hown hlen ⊢
        have HROW := Lib.hid (own_rd hown)
        have HNP := Lib.hid hnp
        have q0 := cell_nw p0 (HNR.out.trans hn5)
        have q1 := cell_nw p1 (HNR.out.trans hn5)
        haveI : In (w.heap.size + 1) W5 := ⟨World.block_lt_of_cell? W5 _ q0⟩
        have HN5 := Lib.hid (HNR.out.trans hn5)
        clear hown hnp hn5
        go_wp2_with fail
        go_loopw [13] (fun a wr => ∃ kk : Nat, kk ≤ np ∧ a = .int .i64 kk ∧ Nw W5 wr ∧ Hid ((k' + 1) = j0 → kk ≤ k0)) (fun a _ => np - (intOf a).toNat)
        case atStart => exact ⟨0, Nat.zero_le _, rfl, nwa, Lib.hid fun _ => Nat.zero_le _⟩
        case round =>
          obtain ⟨kk, hkk, rfl, ⟨d, rfl⟩, HKK⟩ := hrel
          by_cases hkn : kk < np
          · obtain ⟨b5, o5, rfl, hb5, hc5⟩ := HROW.out.2 (by omega)
            haveI : In b5 W5 := ⟨hb5⟩
            obtain ⟨⟨x1, x2⟩, hx⟩ : ∃ x, (Am y.took)[kk]? = some x := ⟨_, List.getElem?_eq_getElem (by rw [← HNP.out]; exact hkn)⟩
            obtain ⟨g0, g1⟩ := pcells_get (Am y.took) kk _ hx
            have a0 : W5.cell? ⟨b5, o5 + kk * 2, none⟩ = some (.int .u64 x1) := hc5 _ _ g0
            have a1 : W5.cell? ⟨b5, o5 + kk * 2 + 1, none⟩ = some (.int .u64 x2) := by have := hc5 _ _ g1; rw [← Nat.add_assoc] at this; exact this
            have HX := Lib.hid hx
            have HKN := Lib.hid hkn
            have i3 : (kk : Int) < (np : Int) := by omega
            have i4 : kk < 1000000 := by omega
            clear hx g0 g1 hc5 hkn hkk hb5
            by_cases heq : x1 = y1 ∧ x2 = y2
            · obtain ⟨rfl, rfl⟩ := heq
              go_upto_region 12 with (fail)
              go_region
              go_wp2
              go_ret
              exact ⟨by simp, HN2.out.trans (HN5.out.trans (nwa))⟩
            · have e0 : (decide (x1 = y1) && decide (x2 = y2)) = false := by
                cases h1 : (decide (x1 = y1) && decide (x2 = y2)) with
                | false => rfl
                | true => exfalso; simp at h1; exact heq h1
              have HK2 := Lib.hid (show (k' + 1) = j0 → kk + 1 ≤ k0 from fun e => by
                have h1 := HKK.out e
                rcases Nat.lt_or_ge kk k0 with h2 | h2
                · exact h2
                · exfalso
                  have h3 : kk = k0 := by omega
                  have h4 := HX.out
                  rw [HSAME.out e, h3, HT.out.2] at h4
                  injection h4 with h4; injection h4 with h5 h6
                  exact heq ⟨h5.symm, h6.symm⟩)
              clear heq
              go_upto_region 12 with (fail)
              go_region
              go_wp2
              exact ⟨⟨kk + 1, by have := HKN.out; omega, by go_num, nwa, HK2⟩, by have := HKN.out; simp [intOf]; omega⟩
          · have ek : kk = np := by omega
            have hne : (k' + 1) ≠ j0 := fun e => by
              have h1 := HKK.out e
              have h2 := (List.getElem?_eq_some_iff.1 HT.out.2).1
              have h3 := HNP.out
              rw [HSAME.out e] at h3
              omega
            have i3 : ¬ (kk : Int) < (np : Int) := by omega
            clear ek
            go_wp2_with fail
            exact ⟨⟨k' + 1 + 1, by omega, by go_num, HN5.out.trans (nwa)⟩, by simp [intOf]; omega⟩
end Go.Proofs.YtkikdpdainmlcaaGreat
namespace Go.Proofs.YtkikdpdainmlcaaGreat
open Go.RowKit Go.Xt
/-! What the law PassageKeeps wants of the passages, plain; a still walk by the quiet walk's cheap step. -/
theorem still_of_quiet {P : Program} {ops : Array Oper} {w : World} {Q : Act → Prop} : ∀ (l : List Oper) (a : Act), wpQuiet P ops (fun W => W = w) Q l a → wpStill P ops w Q l a
  | [], a, h => h
  | o :: r, a, h => by
    unfold wpQuiet at h
    unfold wpStill
    split
    · rename_i hw
      rw [if_pos hw] at h
      obtain ⟨v, h1, h2⟩ := h
      have h3 := h1 w rfl
      unfold Oper.quietAt at h3
      unfold Oper.still
      generalize (execOp a.eval o).run P w = q at h3
      cases q with
      | halt x w' => exact h3.elim
      | ok nx w' =>
        cases nx with
        | value u => obtain ⟨h4, rfl⟩ := h3; exact ⟨h4, still_of_quiet r _ h2⟩
        | skip => obtain ⟨h4, rfl⟩ := h3; exact ⟨h4, still_of_quiet r _ h2⟩
        | enter f args => obtain ⟨h4, h5⟩ := h3; exact ⟨h4, v, h5, still_of_quiet r _ h2⟩
        | _ => exact h3.elim
    · rename_i hw
      rw [if_neg hw] at h
      exact still_of_quiet r _ h
theorem len_sub : ∀ (a b : List Int), a.Pairwise (· < ·) → (∀ k ∈ a, k ∈ b) → a.length ≤ b.length
  | [], _, _, _ => Nat.zero_le _
  | x :: t, b, hp, hs => by
    have h1 : x ∈ b := hs x (by simp)
    have h2 := len_sub t (b.erase x) (List.pairwise_cons.1 hp).2 (fun k hk => by
      have h3 := (List.pairwise_cons.1 hp).1 k hk
      exact (List.mem_erase_of_ne (by omega)).2 (hs k (by simp [hk])))
    have h4 := List.length_erase_of_mem h1
    have h5 : 0 < b.length := List.length_pos_of_mem h1
    rw [List.length_cons]
    omega
theorem tldL_len (l : List Cl) : ∀ L : List Nat, (tldL l L).length ≤ L.length
  | [] => by simp [tldL]
  | q :: r => by
    have ih := tldL_len l r
    rw [tldL]
    (repeat' split) <;> simp only [List.length_cons] <;> omega
theorem passL_of {l : List Cl} {r : List Nat} (h : r ∈ passL l) : ∃ op x, r = ofP l op ∧ r = op :: ofG x.th (op + 1) (l.drop (op + 1)) ∧ l[op]? = some x ∧ begB x = true := by
  unfold passL at h
  obtain ⟨op, hop, rfl⟩ := List.mem_map.1 h
  obtain ⟨x, hx, hb⟩ := opens_iff.1 hop
  exact ⟨op, x, rfl, ofP_tail hx, hx, hb⟩
theorem passL_within {l : List Cl} (hl : l.length ≤ 1000) : ∀ r ∈ passL l, r ≠ [] ∧ r.length ≤ 2000 ∧ ∀ q ∈ r, q < l.length := fun r hr => by
  obtain ⟨op, x, h1, h2, hx, -⟩ := passL_of hr
  refine ⟨by rw [h2]; simp, by rw [h1]; have := ofP_len l op; omega, fun q hq => ?_⟩
  rw [h1] at hq
  have h3 := (List.getElem?_eq_some_iff.1 hx).1
  rcases ofP_mem hx hq with rfl | ⟨-, d, h4, -⟩
  · exact h3
  · exact (List.getElem?_eq_some_iff.1 h4).1
theorem passL_len {l : List Cl} : (passL l).length ≤ l.length := by
  rw [passL, List.length_map, opens_len]; exact List.length_filter_le _ _
theorem pTld_open {l : List Cl} (hb : bad l = none) {op : Nat} {x : Cl} (hx : l[op]? = some x) (hbb : begB x = true) : pTld (op : Int) l = (0, tldL l (ofP l op)) := by
  unfold pTld
  rw [if_neg (by rw [hb]; simp), if_neg (by omega), Int.toNat_natCast, hx]
  simp only
  rw [if_pos hbb]
structure KeepsF (c : Cf) (cuts : List Nat) (l : List Cl) (op : Nat) (x : Cl) (T : Mp) (O : List Int) (e : Int) : Prop where
  hx : l[op]? = some x
  told : pTld (op : Int) l = (0, T)
  owed : pOwd c cuts (op : Int) l = (e, O)
  e08 : e = 0 ∨ e = 8
  tlen : T.length ≤ l.length + 1
  olen : O.length ≤ T.length
  tasc : T.Pairwise fun a b => a.1 < b.1
  tin : ∀ q ∈ T, x.ka ≤ q.1 ∧ q.1 ≤ x.kb ∧ ∃ (j0 : Nat) (t : Int), ((j0 = 0 ∧ t = x.took) ∨ ∃ y, l[j0 - 1]? = some y ∧ 1 ≤ j0 ∧ y.took = t) ∧ x.took ≤ t ∧ q ∈ mapsA c cuts l t
  oasc : O.Pairwise (· < ·)
  oin : ∀ k ∈ O, ∃ (j : Nat) (q : Int × Int), T[j]? = some q ∧ q.1 = k
  took : -1 ≤ x.took
theorem keeps_fact {c : Cf} {cuts : List Nat} {l : List Cl} (hw : ∀ y ∈ l, WfX y) (h : (pChk c cuts l).2 = 0) {r : List Nat} (hr : r ∈ passL l) : ∃ op x T O e, r[0]? = some op ∧ KeepsF c cuts l op x T O e := by
  obtain ⟨op, x, h1, h2, hx, hb⟩ := passL_of hr
  have hbad := wChk_bad (pChk_ok.1 h).1
  obtain ⟨k1, k2⟩ := keeps_told h hx hb
  obtain ⟨k3, k4, k5⟩ := keeps_owed hw h hx hb
  refine ⟨op, x, tldL l (ofP l op), (pOwd c cuts (op : Int) l).2, (pOwd c cuts (op : Int) l).1, by rw [h2]; rfl, hx, pTld_open hbad hx hb, rfl, k3, Nat.le_trans (tldL_len _ _) (ofP_len _ _), ?_, k1, fun q hq => ?_, k4, fun k hk => ?_, (good_took (good_atP hbad hx)).1⟩
  · have := len_sub _ _ k4 k5
    rwa [List.length_map] at this
  · obtain ⟨a1, a2, a3⟩ := k2 q hq
    refine ⟨a1, a2, ?_⟩
    rcases a3 with a3 | ⟨y, hy, hty, a3⟩
    · exact ⟨0, x.took, .inl ⟨rfl, rfl⟩, Int.le_refl _, a3⟩
    · obtain ⟨j, hj⟩ := List.mem_iff_getElem?.1 hy
      exact ⟨j + 1, y.took, .inr ⟨y, by simpa using hj, by omega, rfl⟩, hty, a3⟩
  · obtain ⟨q, hq, h3⟩ := List.mem_map.1 (k5 k hk)
    obtain ⟨j, hj⟩ := List.mem_iff_getElem?.1 hq
    exact ⟨j, q, hj, h3⟩
end Go.Proofs.YtkikdpdainmlcaaGreat
