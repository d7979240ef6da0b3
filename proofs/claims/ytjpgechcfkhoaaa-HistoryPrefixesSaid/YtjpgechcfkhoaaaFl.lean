import Derived.Test.YtjpgechcfkhoaaaFi
import Derived.Test.YtjpgechcfkhoaaaFl0
namespace Go.Proofs.Ytjpgechcfkhoaaa
open Go.RowKit Go.Xt
set_option maxRecDepth 20000 in
set_option maxHeartbeats 8000000 in
theorem hprefixes_any (A : Option Addr) (n c : Nat) (l : List Cl) (s t : Int) (w : World) (hnc : n ≤ c) (hc : c ≤ 9223372036854775807) (hl : Cs w A n l) (hw : ∀ y ∈ l, WfC y) :
    Calls Try.prog 7 #[.slice A n c, .int .i64 s, .int .i64 t] w fun e w' => e = .returned (.bool true) ∧ Nw w w' := by
  obtain ⟨L, hL⟩ : ∃ L, l.take 40 = L := ⟨_, rfl⟩
  obtain ⟨n1, hn1⟩ : ∃ n1, L.length = n1 := ⟨_, rfl⟩
  have hn40 : n1 ≤ 40 := by rw [← hn1, ← hL]; exact few_len l
  have hwL : ∀ y ∈ L, WfC y := by rw [← hL]; exact few_wf hw
  have HL := Lib.hid hl
  have HWL := Lib.hid hwL
  have HN1 := Lib.hid hn1
  have HL1 := Lib.hid hL
  clear hl hw hwL hn1 hL
  rcases chk_cases L with ⟨hb, hv⟩ | ⟨i, hb, hv⟩
  · have HB := Lib.hid hb
    have HV := Lib.hid hv
    by_cases hs : s < -1
    · have hds : decide (s < -1) = true := by simpa using hs
      have hE := Lib.hid (show preE s L = 3 by simp [preE, hb, hs])
      clear hb hv hs
      go_enter Try.func7, Try.ntmps7
      go_wp2_with fail
      refine (few_cs _ hnc hc HL1.out HN1.out HL.out).mono ?_
      rintro e w' ⟨A1, c1, rfl, h1, dW, rfl⟩
      have H1 := Lib.hid h1
      clear h1
      go_wp2_with fail
      refine (prefix_any s A1 n1 c1 L _ (by omega) H1.out.2.1 H1.out.2.2.1 (H1.out.1.nw ((by repeat (first | exact Xt.Nw.refl _ | refine Xt.Nw.drew ?_ | refine Xt.Nw.drewN ?_ _ | refine Xt.Nw.alloc ?_ _ | refine Xt.Nw.joined ?_ | refine Xt.Nw.drewd ?_ | refine Xt.Nw.drewdN ?_ | refine Xt.Nw.ext ?_ | refine Xt.Nw.ext_some ?_ (by assumption) | refine Xt.Nw.setCell ?_ (by simp [go_sem] <;> omega) _)))) HWL.out).mono ?_
      rw [hE.out]
      rintro e w' ⟨v, rfl, _, dW, rfl⟩
      go_wp2_with fail
      refine (check_any A1 n1 c1 L _ (by omega) H1.out.2.1 H1.out.2.2.1 (H1.out.1.nw ((by repeat (first | exact Xt.Nw.refl _ | refine Xt.Nw.drew ?_ | refine Xt.Nw.drewN ?_ _ | refine Xt.Nw.alloc ?_ _ | refine Xt.Nw.joined ?_ | refine Xt.Nw.drewd ?_ | refine Xt.Nw.drewdN ?_ | refine Xt.Nw.ext ?_ | refine Xt.Nw.ext_some ?_ (by assumption) | refine Xt.Nw.setCell ?_ (by simp [go_sem] <;> omega) _)))) HWL.out).mono ?_
      rw [HV.out]
      rintro e w' ⟨rfl, dW, rfl⟩
      go_wp2_with fail
      refine (awake_any _).mono ?_
      rintro e w' ⟨rfl, dW, rfl⟩
      go_wp2
      go_ret
      exact ⟨rfl, (by repeat (first | exact Xt.Nw.refl _ | refine Xt.Nw.drew ?_ | refine Xt.Nw.drewN ?_ _ | refine Xt.Nw.alloc ?_ _ | refine Xt.Nw.joined ?_ | refine Xt.Nw.drewd ?_ | refine Xt.Nw.drewdN ?_ | refine Xt.Nw.ext ?_ | refine Xt.Nw.ext_some ?_ (by assumption) | refine Xt.Nw.setCell ?_ (by simp [go_sem] <;> omega) _))⟩
    · have hs1 : -1 ≤ s := by omega
      have HS := Lib.hid hs1
      have hE := Lib.hid (show preE s L = 0 by simp [preE, hb, hs])
      obtain ⟨P, hP⟩ : ∃ P, preW s L = P := ⟨_, rfl⟩
      have hPs : P = pres s L := by rw [← hP, preW, if_pos hE.out]
      obtain ⟨np, hnp⟩ : ∃ np, P.length = np := ⟨_, rfl⟩
      have hnp40 : np ≤ 40 := by
        have h1 : (L.takeWhile fun x => decide (x.inv ≤ s)).length ≤ L.length := (List.takeWhile_sublist _).length_le
        have h2 := HN1.out
        rw [← hnp, hPs, pres, List.length_map]; omega
      have hbP : bad P = none := by rw [hPs]; exact bad_pres hs1 hb
      have hvP : chkV P = .tuple #[.int .i64 0, .int .i64 0] := by rw [chkV, hbP]
      have hwP : ∀ y ∈ P, WfC y := by
        rw [hPs]; intro y hy
        obtain ⟨j, hj⟩ := List.mem_iff_getElem?.1 hy
        obtain ⟨x, hx, _, rfl, _⟩ := pres_get hj
        exact pfx_wf (HWL.out x (List.mem_of_getElem? hx))
      have HP := Lib.hid hP
      have HPs := Lib.hid hPs
      have HNP := Lib.hid hnp
      have HBP := Lib.hid hbP
      have HVP := Lib.hid hvP
      have HWP := Lib.hid hwP
      obtain ⟨Q, hQd⟩ : ∃ Q, pres t P = Q := ⟨_, rfl⟩
      have hQ : ¬ t < -1 → preE t P = 0 ∧ preW t P = Q ∧ preE (min s t) L = 0 ∧ preW (min s t) L = Q := fun ht => by
        have g1 : preE t P = 0 := by simp [preE, hbP, ht]
        have g2 : preE (min s t) L = 0 := by rw [preE, if_pos hb, if_neg (by omega)]
        refine ⟨g1, by rw [preW, if_pos g1, hQd], g2, ?_⟩
        rw [preW, if_pos g2, ← hQd, hPs, pres_pres hs1 (by omega)]
      have hQL : Q.length ≤ 40 := by
        have h1 : (P.takeWhile fun x => decide (x.inv ≤ t)).length ≤ P.length := (List.takeWhile_sublist _).length_le
        rw [← hQd, pres, List.length_map]; omega
      have HQ := Lib.hid hQ
      have HQL := Lib.hid hQL
      clear hb hv hs hs1 hP hPs hnp hbP hvP hwP hQd hQ hQL
      go_enter Try.func7, Try.ntmps7
      go_wp2_with fail
      refine (few_cs _ hnc hc HL1.out HN1.out HL.out).mono ?_
      rintro e w' ⟨A1, c1, rfl, h1, dW, rfl⟩
      have H1 := Lib.hid h1
      clear h1
      go_wp2_with fail
      refine (prefix_any s A1 n1 c1 L _ (by omega) H1.out.2.1 H1.out.2.2.1 (H1.out.1.nw ((by repeat (first | exact Xt.Nw.refl _ | refine Xt.Nw.drew ?_ | refine Xt.Nw.drewN ?_ _ | refine Xt.Nw.alloc ?_ _ | refine Xt.Nw.joined ?_ | refine Xt.Nw.drewd ?_ | refine Xt.Nw.drewdN ?_ | refine Xt.Nw.ext ?_ | refine Xt.Nw.ext_some ?_ (by assumption) | refine Xt.Nw.setCell ?_ (by simp [go_sem] <;> omega) _)))) HWL.out).mono ?_
      rw [hE.out, HP.out]
      rintro e w' ⟨v, rfl, hown, dW, rfl⟩
      obtain ⟨A2, c2, rfl, h2⟩ := hown.new HNP.out
      have H2 := Lib.hid h2
      clear h2 hown
      go_wp2_with fail
      refine (check_any A2 np c2 P _ (by omega) H2.out.2.1 H2.out.2.2.1 (H2.out.1.nw ((by repeat (first | exact Xt.Nw.refl _ | refine Xt.Nw.drew ?_ | refine Xt.Nw.drewN ?_ _ | refine Xt.Nw.alloc ?_ _ | refine Xt.Nw.joined ?_ | refine Xt.Nw.drewd ?_ | refine Xt.Nw.drewdN ?_ | refine Xt.Nw.ext ?_ | refine Xt.Nw.ext_some ?_ (by assumption) | refine Xt.Nw.setCell ?_ (by simp [go_sem] <;> omega) _)))) HWP.out).mono ?_
      rw [HVP.out]
      rintro e w' ⟨rfl, dW, rfl⟩
      go_wp2_with fail
      refine (effects_any A1 n1 c1 L _ (by omega) H1.out.2.1 H1.out.2.2.1 (H1.out.1.nw ((by repeat (first | exact Xt.Nw.refl _ | refine Xt.Nw.drew ?_ | refine Xt.Nw.drewN ?_ _ | refine Xt.Nw.alloc ?_ _ | refine Xt.Nw.joined ?_ | refine Xt.Nw.drewd ?_ | refine Xt.Nw.drewdN ?_ | refine Xt.Nw.ext ?_ | refine Xt.Nw.ext_some ?_ (by assumption) | refine Xt.Nw.setCell ?_ (by simp [go_sem] <;> omega) _)))) HWL.out).mono ?_
      rw [show chkE L = 0 by rw [chkE, if_pos HB.out]]
      rintro e w' ⟨v, ya, rfl, hya, hown, dW, rfl⟩
      obtain ⟨na, hna⟩ : ∃ na, ya.length = na := ⟨_, rfl⟩
      obtain ⟨A3, c3, rfl, h3, hc3, hm3, -⟩ := hown.newc (n := na) (by rw [natI_len, hna])
      have H3 := Lib.hid h3
      clear h3 hown
      go_wp2_with fail
      refine (effects_any A2 np c2 P _ (by omega) H2.out.2.1 H2.out.2.2.1 (H2.out.1.nw ((by repeat (first | exact Xt.Nw.refl _ | refine Xt.Nw.drew ?_ | refine Xt.Nw.drewN ?_ _ | refine Xt.Nw.alloc ?_ _ | refine Xt.Nw.joined ?_ | refine Xt.Nw.drewd ?_ | refine Xt.Nw.drewdN ?_ | refine Xt.Nw.ext ?_ | refine Xt.Nw.ext_some ?_ (by assumption) | refine Xt.Nw.setCell ?_ (by simp [go_sem] <;> omega) _)))) HWP.out).mono ?_
      rw [show chkE P = 0 by rw [chkE, if_pos HBP.out]]
      rintro e w' ⟨v, yb, rfl, hyb, hown, dW, rfl⟩
      obtain ⟨nb, hnb⟩ : ∃ nb, yb.length = nb := ⟨_, rfl⟩
      obtain ⟨A4, c4, rfl, h4, -, -, -⟩ := hown.newc (n := nb) (by rw [natI_len, hnb])
      have H4 := Lib.hid h4
      have hEff := eff_pres HS.out HB.out (hya.1 HB.out) (b := yb) (by rw [← HPs.out]; exact hyb.1 HBP.out)
      rw [hnb, hna] at hEff
      obtain ⟨e1, hle, e3⟩ := hEff
      have hna40 : na ≤ 40 := by
        have := (hya.1 HB.out).len
        rw [HN1.out] at this
        omega
      have E1 := Lib.hid e1
      have E3 := Lib.hid e3
      have hgt : decide ((na : Int) < (nb : Int)) = false := by simp; omega
      have hgt2 : decide (na < nb) = false := by simp; omega
      have hlec : (nb : Int) ≤ (c3 : Int) := by omega
      clear h4 hown hya hyb e1 e3 hna hnb
      go_wp2_with fail
      refine (equalInts_any A4 A3 nb nb c4 c3 (natI yb) (natI yb) _ (by omega) (by omega) (H4.out.nw ((by repeat (first | exact Xt.Nw.refl _ | refine Xt.Nw.drew ?_ | refine Xt.Nw.drewN ?_ _ | refine Xt.Nw.alloc ?_ _ | refine Xt.Nw.joined ?_ | refine Xt.Nw.drewd ?_ | refine Xt.Nw.drewdN ?_ | refine Xt.Nw.ext ?_ | refine Xt.Nw.ext_some ?_ (by assumption) | refine Xt.Nw.setCell ?_ (by simp [go_sem] <;> omega) _)))) (by rw [E1.out, ← natI_take]; exact (H3.out.nw ((by repeat (first | exact Xt.Nw.refl _ | refine Xt.Nw.drew ?_ | refine Xt.Nw.drewN ?_ _ | refine Xt.Nw.alloc ?_ _ | refine Xt.Nw.joined ?_ | refine Xt.Nw.drewd ?_ | refine Xt.Nw.drewdN ?_ | refine Xt.Nw.ext ?_ | refine Xt.Nw.ext_some ?_ (by assumption) | refine Xt.Nw.setCell ?_ (by simp [go_sem] <;> omega) _)))).take hle)).mono ?_
      rintro e w' ⟨rfl, dW, rfl⟩
      by_cases hlt : nb < na
      · have hltI : (nb : Int) < (na : Int) := by omega
        have dlt : decide ((nb : Int) < (na : Int)) = true := by simpa using hltI
        have dlt2 : decide (nb < na) = true := by simpa using hlt
        obtain ⟨b3, o3, z, rfl, hb3, hz, hcz⟩ := H3.out.get hlt
        haveI : In b3 _ := ⟨hb3⟩
        obtain ⟨q, rfl, hq⟩ := natI_get hz
        obtain ⟨x, hx, hsx⟩ := E3.out q hq
        have hqn : q < n1 := by rw [← HN1.out]; exact (List.getElem?_eq_some_iff.1 hx).1
        obtain ⟨b1, o1, x', rfl, hb1, hx', hcx⟩ := H1.out.1.get hqn
        obtain rfl : x = x' := by rw [hx] at hx'; injection hx'
        haveI : In b1 _ := ⟨hb1⟩
        obtain ⟨_, _, _, _, _, _, _, _, _, _, h10, _⟩ := id hcx
        have d1 : decide ((q : Int) < 0) = false := by simp
        have d2 : decide ((n1 : Int) ≤ (q : Int)) = false := by simp; omega
        have d3 : decide (n1 ≤ q) = false := by simp; omega
        have d4 : decide (x.took ≤ s) = false := by simp; omega
        clear hz hq hx hx' hsx hcx
        by_cases ht : t < -1
        · have dt : decide (t < -1) = true := by simpa using ht
          clear ht
          go_wp2_with fail
          refine (awake_any _).mono ?_
          rintro e w' ⟨rfl, dW, rfl⟩
          go_wp2
          go_ret
          exact ⟨rfl, (by repeat (first | exact Xt.Nw.refl _ | refine Xt.Nw.drew ?_ | refine Xt.Nw.drewN ?_ _ | refine Xt.Nw.alloc ?_ _ | refine Xt.Nw.joined ?_ | refine Xt.Nw.drewd ?_ | refine Xt.Nw.drewdN ?_ | refine Xt.Nw.ext ?_ | refine Xt.Nw.ext_some ?_ (by assumption) | refine Xt.Nw.setCell ?_ (by simp [go_sem] <;> omega) _))⟩
        · have dt : decide (t < -1) = false := by simpa using ht
          have hQ := HQ.out (by omega)
          obtain ⟨q1, q2, q3, q4⟩ := hQ
          have Q1 := Lib.hid q1
          have Q2 := Lib.hid q2
          have Q3 := Lib.hid q3
          have Q4 := Lib.hid q4
          clear q1 q2 q3 q4 ht
          obtain ⟨nq, hnq⟩ : ∃ nq, Q.length = nq := ⟨_, rfl⟩
          have hnq40 : nq ≤ 1000 := by have := HQL.out; omega
          have HNQ := Lib.hid hnq
          clear hnq
          go_wp2_with fail
          refine (prefix_any t A2 np c2 P _ (by omega) H2.out.2.1 H2.out.2.2.1 (H2.out.1.nw ((by repeat (first | exact Xt.Nw.refl _ | refine Xt.Nw.drew ?_ | refine Xt.Nw.drewN ?_ _ | refine Xt.Nw.alloc ?_ _ | refine Xt.Nw.joined ?_ | refine Xt.Nw.drewd ?_ | refine Xt.Nw.drewdN ?_ | refine Xt.Nw.ext ?_ | refine Xt.Nw.ext_some ?_ (by assumption) | refine Xt.Nw.setCell ?_ (by simp [go_sem] <;> omega) _)))) HWP.out).mono ?_
          rw [Q1.out, Q2.out]
          rintro e w' ⟨v, rfl, hown, dW, rfl⟩
          obtain ⟨A5, c5, rfl, h5⟩ := hown.new HNQ.out
          have H5 := Lib.hid h5
          clear h5 hown
          go_wp2_with fail
          refine (prefix_any (min s t) _ n1 c1 L _ (by omega) H1.out.2.1 H1.out.2.2.1 (H1.out.1.nw ((by repeat (first | exact Xt.Nw.refl _ | refine Xt.Nw.drew ?_ | refine Xt.Nw.drewN ?_ _ | refine Xt.Nw.alloc ?_ _ | refine Xt.Nw.joined ?_ | refine Xt.Nw.drewd ?_ | refine Xt.Nw.drewdN ?_ | refine Xt.Nw.ext ?_ | refine Xt.Nw.ext_some ?_ (by assumption) | refine Xt.Nw.setCell ?_ (by simp [go_sem] <;> omega) _)))) HWL.out).mono ?_
          rw [Q3.out, Q4.out]
          rintro e w' ⟨v, rfl, hown, dW, rfl⟩
          obtain ⟨A6, c6, rfl, h6⟩ := hown.new HNQ.out
          have H6 := Lib.hid h6
          clear h6 hown
          go_wp2_with fail
          refine (equalCalls_any A5 A6 nq nq _ _ Q Q _ (by omega) (by omega) (H5.out.1.nw ((by repeat (first | exact Xt.Nw.refl _ | refine Xt.Nw.drew ?_ | refine Xt.Nw.drewN ?_ _ | refine Xt.Nw.alloc ?_ _ | refine Xt.Nw.joined ?_ | refine Xt.Nw.drewd ?_ | refine Xt.Nw.drewdN ?_ | refine Xt.Nw.ext ?_ | refine Xt.Nw.ext_some ?_ (by assumption) | refine Xt.Nw.setCell ?_ (by simp [go_sem] <;> omega) _)))) (H6.out.1.nw ((by repeat (first | exact Xt.Nw.refl _ | refine Xt.Nw.drew ?_ | refine Xt.Nw.drewN ?_ _ | refine Xt.Nw.alloc ?_ _ | refine Xt.Nw.joined ?_ | refine Xt.Nw.drewd ?_ | refine Xt.Nw.drewdN ?_ | refine Xt.Nw.ext ?_ | refine Xt.Nw.ext_some ?_ (by assumption) | refine Xt.Nw.setCell ?_ (by simp [go_sem] <;> omega) _))))).mono ?_
          rintro e w' ⟨rfl, dW, rfl⟩
          go_wp2_with fail
          refine (awake_any _).mono ?_
          rintro e w' ⟨rfl, dW, rfl⟩
          go_wp2
          go_ret
          exact ⟨rfl, (by repeat (first | exact Xt.Nw.refl _ | refine Xt.Nw.drew ?_ | refine Xt.Nw.drewN ?_ _ | refine Xt.Nw.alloc ?_ _ | refine Xt.Nw.joined ?_ | refine Xt.Nw.drewd ?_ | refine Xt.Nw.drewdN ?_ | refine Xt.Nw.ext ?_ | refine Xt.Nw.ext_some ?_ (by assumption) | refine Xt.Nw.setCell ?_ (by simp [go_sem] <;> omega) _))⟩
      · have hltI : ¬ (nb : Int) < (na : Int) := by omega
        have dlt : decide ((nb : Int) < (na : Int)) = false := by simpa using hltI
        have dlt2 : decide (nb < na) = false := by simpa using hlt
        by_cases ht : t < -1
        · have dt : decide (t < -1) = true := by simpa using ht
          clear ht
          go_wp2_with fail
          refine (awake_any _).mono ?_
          rintro e w' ⟨rfl, dW, rfl⟩
          go_wp2
          go_ret
          exact ⟨rfl, (by repeat (first | exact Xt.Nw.refl _ | refine Xt.Nw.drew ?_ | refine Xt.Nw.drewN ?_ _ | refine Xt.Nw.alloc ?_ _ | refine Xt.Nw.joined ?_ | refine Xt.Nw.drewd ?_ | refine Xt.Nw.drewdN ?_ | refine Xt.Nw.ext ?_ | refine Xt.Nw.ext_some ?_ (by assumption) | refine Xt.Nw.setCell ?_ (by simp [go_sem] <;> omega) _))⟩
        · have dt : decide (t < -1) = false := by simpa using ht
          have hQ := HQ.out (by omega)
          obtain ⟨q1, q2, q3, q4⟩ := hQ
          have Q1 := Lib.hid q1
          have Q2 := Lib.hid q2
          have Q3 := Lib.hid q3
          have Q4 := Lib.hid q4
          clear q1 q2 q3 q4 ht
          obtain ⟨nq, hnq⟩ : ∃ nq, Q.length = nq := ⟨_, rfl⟩
          have hnq40 : nq ≤ 1000 := by have := HQL.out; omega
          have HNQ := Lib.hid hnq
          clear hnq
          go_wp2_with fail
          refine (prefix_any t A2 np c2 P _ (by omega) H2.out.2.1 H2.out.2.2.1 (H2.out.1.nw ((by repeat (first | exact Xt.Nw.refl _ | refine Xt.Nw.drew ?_ | refine Xt.Nw.drewN ?_ _ | refine Xt.Nw.alloc ?_ _ | refine Xt.Nw.joined ?_ | refine Xt.Nw.drewd ?_ | refine Xt.Nw.drewdN ?_ | refine Xt.Nw.ext ?_ | refine Xt.Nw.ext_some ?_ (by assumption) | refine Xt.Nw.setCell ?_ (by simp [go_sem] <;> omega) _)))) HWP.out).mono ?_
          rw [Q1.out, Q2.out]
          rintro e w' ⟨v, rfl, hown, dW, rfl⟩
          obtain ⟨A5, c5, rfl, h5⟩ := hown.new HNQ.out
          have H5 := Lib.hid h5
          clear h5 hown
          go_wp2_with fail
          refine (prefix_any (min s t) _ n1 c1 L _ (by omega) H1.out.2.1 H1.out.2.2.1 (H1.out.1.nw ((by repeat (first | exact Xt.Nw.refl _ | refine Xt.Nw.drew ?_ | refine Xt.Nw.drewN ?_ _ | refine Xt.Nw.alloc ?_ _ | refine Xt.Nw.joined ?_ | refine Xt.Nw.drewd ?_ | refine Xt.Nw.drewdN ?_ | refine Xt.Nw.ext ?_ | refine Xt.Nw.ext_some ?_ (by assumption) | refine Xt.Nw.setCell ?_ (by simp [go_sem] <;> omega) _)))) HWL.out).mono ?_
          rw [Q3.out, Q4.out]
          rintro e w' ⟨v, rfl, hown, dW, rfl⟩
          obtain ⟨A6, c6, rfl, h6⟩ := hown.new HNQ.out
          have H6 := Lib.hid h6
          clear h6 hown
          go_wp2_with fail
          refine (equalCalls_any A5 A6 nq nq _ _ Q Q _ (by omega) (by omega) (H5.out.1.nw ((by repeat (first | exact Xt.Nw.refl _ | refine Xt.Nw.drew ?_ | refine Xt.Nw.drewN ?_ _ | refine Xt.Nw.alloc ?_ _ | refine Xt.Nw.joined ?_ | refine Xt.Nw.drewd ?_ | refine Xt.Nw.drewdN ?_ | refine Xt.Nw.ext ?_ | refine Xt.Nw.ext_some ?_ (by assumption) | refine Xt.Nw.setCell ?_ (by simp [go_sem] <;> omega) _)))) (H6.out.1.nw ((by repeat (first | exact Xt.Nw.refl _ | refine Xt.Nw.drew ?_ | refine Xt.Nw.drewN ?_ _ | refine Xt.Nw.alloc ?_ _ | refine Xt.Nw.joined ?_ | refine Xt.Nw.drewd ?_ | refine Xt.Nw.drewdN ?_ | refine Xt.Nw.ext ?_ | refine Xt.Nw.ext_some ?_ (by assumption) | refine Xt.Nw.setCell ?_ (by simp [go_sem] <;> omega) _))))).mono ?_
          rintro e w' ⟨rfl, dW, rfl⟩
          go_wp2_with fail
          refine (awake_any _).mono ?_
          rintro e w' ⟨rfl, dW, rfl⟩
          go_wp2
          go_ret
          exact ⟨rfl, (by repeat (first | exact Xt.Nw.refl _ | refine Xt.Nw.drew ?_ | refine Xt.Nw.drewN ?_ _ | refine Xt.Nw.alloc ?_ _ | refine Xt.Nw.joined ?_ | refine Xt.Nw.drewd ?_ | refine Xt.Nw.drewdN ?_ | refine Xt.Nw.ext ?_ | refine Xt.Nw.ext_some ?_ (by assumption) | refine Xt.Nw.setCell ?_ (by simp [go_sem] <;> omega) _))⟩
  · have hE := Lib.hid (show preE s L = 15 by simp [preE, hb])
    have HV := Lib.hid hv
    clear hb hv
    go_enter Try.func7, Try.ntmps7
    go_wp2_with fail
    refine (few_cs _ hnc hc HL1.out HN1.out HL.out).mono ?_
    rintro e w' ⟨A1, c1, rfl, h1, dW, rfl⟩
    have H1 := Lib.hid h1
    clear h1
    go_wp2_with fail
    refine (prefix_any s A1 n1 c1 L _ (by omega) H1.out.2.1 H1.out.2.2.1 (H1.out.1.nw ((by repeat (first | exact Xt.Nw.refl _ | refine Xt.Nw.drew ?_ | refine Xt.Nw.drewN ?_ _ | refine Xt.Nw.alloc ?_ _ | refine Xt.Nw.joined ?_ | refine Xt.Nw.drewd ?_ | refine Xt.Nw.drewdN ?_ | refine Xt.Nw.ext ?_ | refine Xt.Nw.ext_some ?_ (by assumption) | refine Xt.Nw.setCell ?_ (by simp [go_sem] <;> omega) _)))) HWL.out).mono ?_
    rw [hE.out]
    rintro e w' ⟨v, rfl, _, dW, rfl⟩
    go_wp2_with fail
    refine (check_any A1 n1 c1 L _ (by omega) H1.out.2.1 H1.out.2.2.1 (H1.out.1.nw ((by repeat (first | exact Xt.Nw.refl _ | refine Xt.Nw.drew ?_ | refine Xt.Nw.drewN ?_ _ | refine Xt.Nw.alloc ?_ _ | refine Xt.Nw.joined ?_ | refine Xt.Nw.drewd ?_ | refine Xt.Nw.drewdN ?_ | refine Xt.Nw.ext ?_ | refine Xt.Nw.ext_some ?_ (by assumption) | refine Xt.Nw.setCell ?_ (by simp [go_sem] <;> omega) _)))) HWL.out).mono ?_
    rw [HV.out]
    rintro e w' ⟨rfl, dW, rfl⟩
    go_wp2_with fail
    refine (awake_any _).mono ?_
    rintro e w' ⟨rfl, dW, rfl⟩
    go_wp2
    go_ret
    exact ⟨rfl, (by repeat (first | exact Xt.Nw.refl _ | refine Xt.Nw.drew ?_ | refine Xt.Nw.drewN ?_ _ | refine Xt.Nw.alloc ?_ _ | refine Xt.Nw.joined ?_ | refine Xt.Nw.drewd ?_ | refine Xt.Nw.drewdN ?_ | refine Xt.Nw.ext ?_ | refine Xt.Nw.ext_some ?_ (by assumption) | refine Xt.Nw.setCell ?_ (by simp [go_sem] <;> omega) _))⟩
end Go.Proofs.Ytjpgechcfkhoaaa
