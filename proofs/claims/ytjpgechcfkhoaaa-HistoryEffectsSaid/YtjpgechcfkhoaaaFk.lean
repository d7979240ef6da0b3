import Derived.Test.YtjpgechcfkhoaaaFk0
namespace Go.Proofs.Ytjpgechcfkhoaaa
open Go.RowKit Go.Xt
theorem chkE_one {l : List Cl} {p q : Int} (h : chkV l = .tuple #[.int .i64 p, .int .i64 q]) : chkE l = q := by
  rcases chk_cases l with ⟨hb, hv⟩ | ⟨i, hb, hv⟩
  · rw [hv] at h; injection h with h; simp at h; rw [chkE, if_pos hb]; exact h.2
  · rw [hv] at h; injection h with h; simp at h; rw [chkE, if_neg (by rw [hb]; simp)]; exact h.2
set_option maxRecDepth 20000 in
set_option maxHeartbeats 8000000 in
theorem heffects_any (A : Option Addr) (n c : Nat) (l : List Cl) (w : World) (hnc : n ≤ c) (hc : c ≤ 9223372036854775807) (hl : Cs w A n l) (hw : ∀ y ∈ l, WfC y) :
    Calls Try.prog 6 #[.slice A n c] w fun e w' => e = .returned (.bool true) ∧ Nw w w' := by
  obtain ⟨L, hL⟩ : ∃ L, l.take 40 = L := ⟨_, rfl⟩
  obtain ⟨n1, hn1⟩ : ∃ n1, L.length = n1 := ⟨_, rfl⟩
  have hn40 : n1 ≤ 40 := by rw [← hn1, ← hL]; exact few_len l
  have hwL : ∀ y ∈ L, WfC y := by rw [← hL]; exact few_wf hw
  have HL := Lib.hid hl
  have HWL := Lib.hid hwL
  have HN1 := Lib.hid hn1
  have HL1 := Lib.hid hL
  clear hl hw hwL hn1 hL
  rcases chk_cases L with ⟨hb, hv⟩ | ⟨i, hb, hv⟩
  · have HB := Lib.hid hb
    have HV := Lib.hid hv
    have hE := Lib.hid (show chkE L = 0 by rw [chkE, if_pos hb])
    clear hb hv
    go_enter Try.func6, Try.ntmps6
    go_wp2_with fail
    refine (few_cs _ hnc hc HL1.out HN1.out HL.out).mono ?_
    rintro e w' ⟨A1, c1, rfl, h1, dW, rfl⟩
    have H1 := Lib.hid h1
    clear h1
    go_wp2_with fail
    refine (effects_any A1 n1 c1 L _ (by omega) H1.out.2.1 H1.out.2.2.1 (H1.out.1.nw ((by repeat (first | exact Xt.Nw.refl _ | refine Xt.Nw.drew ?_ | refine Xt.Nw.drewN ?_ _ | refine Xt.Nw.alloc ?_ _ | refine Xt.Nw.joined ?_ | refine Xt.Nw.drewd ?_ | refine Xt.Nw.drewdN ?_ | refine Xt.Nw.ext ?_ | refine Xt.Nw.ext_some ?_ (by assumption) | refine Xt.Nw.setCell ?_ (by simp [go_sem] <;> omega) _)))) HWL.out).mono ?_
    rw [hE.out]
    rintro e w' ⟨v, ys, rfl, hys, hown, dW, rfl⟩
    obtain ⟨ny, hny⟩ : ∃ ny, ys.length = ny := ⟨_, rfl⟩
    obtain ⟨Ax, cx, rfl, hx⟩ := hown.new (n := ny) (by rw [natI_len, hny])
    have HX := Lib.hid hx
    have hEff := hys.1 HB.out
    have hny40 : ny ≤ 40 := by have h := hEff.len; have h2 := HN1.out; omega
    have HE := Lib.hid hEff
    have HNY := Lib.hid hny
    clear hx hown hys hEff hny
    go_wp2_with fail
    refine (check_any A1 n1 c1 L _ (by omega) H1.out.2.1 H1.out.2.2.1 (H1.out.1.nw ((by repeat (first | exact Xt.Nw.refl _ | refine Xt.Nw.drew ?_ | refine Xt.Nw.drewN ?_ _ | refine Xt.Nw.alloc ?_ _ | refine Xt.Nw.joined ?_ | refine Xt.Nw.drewd ?_ | refine Xt.Nw.drewdN ?_ | refine Xt.Nw.ext ?_ | refine Xt.Nw.ext_some ?_ (by assumption) | refine Xt.Nw.setCell ?_ (by simp [go_sem] <;> omega) _)))) HWL.out).mono ?_
    rw [HV.out]
    rintro e W2 ⟨rfl, hn2⟩
    have HN2 := Lib.hid (show Nw w W2 from Nw.trans ((by repeat (first | exact Xt.Nw.refl _ | refine Xt.Nw.drew ?_ | refine Xt.Nw.drewN ?_ _ | refine Xt.Nw.alloc ?_ _ | refine Xt.Nw.joined ?_ | refine Xt.Nw.drewd ?_ | refine Xt.Nw.drewdN ?_ | refine Xt.Nw.ext ?_ | refine Xt.Nw.ext_some ?_ (by assumption) | refine Xt.Nw.setCell ?_ (by simp [go_sem] <;> omega) _))) hn2)
    have HC2 := Lib.hid (H1.out.1.nw (show Nw _ W2 from Nw.trans ((by repeat (first | exact Xt.Nw.refl _ | refine Xt.Nw.drew ?_ | refine Xt.Nw.drewN ?_ _ | refine Xt.Nw.alloc ?_ _ | refine Xt.Nw.joined ?_ | refine Xt.Nw.drewd ?_ | refine Xt.Nw.drewdN ?_ | refine Xt.Nw.ext ?_ | refine Xt.Nw.ext_some ?_ (by assumption) | refine Xt.Nw.setCell ?_ (by simp [go_sem] <;> omega) _))) hn2))
    have HX2 := Lib.hid (HX.out.nw hn2)
    have hc1 := H1.out.2.1
    have hm1 := H1.out.2.2.1
    obtain ⟨W3, hmk, hs3, hn3⟩ := make_bools W2 n1 (by omega)
    have HS3 := Lib.hid hs3
    have HN3 := Lib.hid hn3
    have hge : W2.heap.size ≤ W2.heap.size := Nat.le_refl _
    generalize hbs : W2.heap.size = bs at hmk HS3 hge
    have HBS := Lib.hid hbs
    clear hn2 H1 HX hs3 hn3 hbs hge
    go_wp2_with fail
    go_loopw [9] (fun a wr => ∃ k : Nat, k ≤ ny ∧ a = .int .i64 k ∧ Hid (Seen wr bs n1 (fun i => decide (i ∈ ys.take k))) ∧ Hid (Nw W2 wr)) (fun a _ => ny - (intOf a).toNat)
    case atStart => exact ⟨0, by omega, rfl, HS3.out.congr (fun i _ => by simp), HN3.out⟩
    case round =>
      obtain ⟨k, hk, rfl, hsn, hnw⟩ := hrel
      by_cases hlt : k < ny
      · have HXr := Lib.hid (HX2.out.nw hnw.out)
        have HCr := Lib.hid (HC2.out.nw hnw.out)
        obtain ⟨bx, ox, z, rfl, hbx, hz, hcz⟩ := HXr.out.get hlt
        obtain ⟨q, rfl, hq⟩ := natI_get hz
        obtain ⟨x, hx, hx0⟩ := (HE.out.2 q).1 (List.mem_of_getElem? hq)
        have hqn : q < n1 := by rw [← HN1.out]; exact (List.getElem?_eq_some_iff.1 hx).1
        obtain ⟨b1, o1, x', rfl, hb1, hx', hcx⟩ := HCr.out.get hqn
        obtain rfl : x = x' := by rw [hx] at hx'; injection hx'
        haveI : In bx wr := ⟨hbx⟩
        haveI : In b1 wr := ⟨hb1⟩
        haveI : In bs wr := ⟨hsn.out.lt⟩
        obtain ⟨-, -, -, -, -, -, -, -, -, -, h10, -⟩ := id hcx
        have hkn : (k : Int) < (ny : Int) := by omega
        have hqn2 : (q : Int) < (n1 : Int) := by omega
        have d1 : decide ((q : Int) < 0) = false := by rw [decide_eq_false_iff_not]; omega
        have d2 : decide ((n1 : Int) ≤ (q : Int)) = false := by simp; omega
        have d3 : decide (n1 ≤ q) = false := by simp; omega
        have hnot : q ∉ ys.take k := fun hm => by
          obtain ⟨j, hj⟩ := List.mem_iff_getElem?.1 hm
          rw [List.getElem?_take] at hj
          split at hj
          · rename_i hjk
            obtain ⟨p1, e1⟩ := List.getElem?_eq_some_iff.1 hj
            obtain ⟨p2, e2⟩ := List.getElem?_eq_some_iff.1 hq
            have := List.pairwise_iff_getElem.1 HE.out.1 j k p1 p2 hjk
            rw [e1, e2] at this; omega
          · cases hj
        have hsq : wr.cell? ⟨bs, q, none⟩ = some (.bool false) := by rw [hsn.out.cell q hqn]; simp [hnot]
        have HQ := Lib.hid hq
        have HNW := Lib.hid hnw.out
        rcases Nat.eq_zero_or_pos k with hk0 | hk0
        · have dg : decide (0 < k) = false := by simp [hk0]
          clear hk0 hz hq hx hx' hcx hnot hnw
          go_upto_region 12 with (fail)
          (refine wp_region_nw (by kernel_rfl) (by kernel_rfl) ?_; (repeat (go_big_quiet_step (fail))); refine wpQuiet_nil ?_; intro _ hreg; obtain ⟨dW, rfl⟩ : Nw _ _ := hreg)
          have hn6 : Nw wr (wr.ext none dW) := ⟨_, rfl⟩
          have hcz6 : (wr.ext none dW).cell? ⟨bx, ox + k, none⟩ = some (.int .i64 q) := by rw [cell_ext]; exact hcz
          have hsn6 := hsn.out.nw hn6
          have hc6 := hsn6.cell q hqn
          have hf6 := hsn6.fz q hqn
          have HS6 := Lib.hid hsn6
          have HW6 := Lib.hid (HNW.out.trans hn6)
          clear hn6 hsn6
          generalize wr.ext none dW = W6 at *
          go_wp2
          refine ⟨⟨k + 1, by omega, by go_num, (HS6.out.set hqn).congr (fun i _ => take_seen HQ.out i), Nw.setCell HW6.out (p := ⟨bs, q, none⟩) (by show W2.heap.size ≤ bs; have := HBS.out; omega) _⟩, by first | (simp [intOf]; omega) | omega⟩
        · have dg : decide (0 < k) = true := by simpa using hk0
          obtain ⟨j, hj⟩ : ∃ j, j + 1 = k := ⟨k - 1, by omega⟩
          have hki : (k : Int) - 1 = (j : Int) := by omega
          have hkw : IntKind.i64.wrap (j : Int) = (j : Int) := by rw [IntKind.wrap_i64] <;> omega
          have hjn : j < ny := by omega
          have hjn' : (j : Int) < (ny : Int) := by omega
          obtain ⟨b', o', z, e1, _, hz', hcz'⟩ := HXr.out.get hjn
          obtain ⟨rfl, rfl⟩ : bx = b' ∧ ox = o' := by simpa using e1
          obtain ⟨r, rfl, hr⟩ := natI_get hz'
          obtain ⟨y, hy, hy0⟩ := (HE.out.2 r).1 (List.mem_of_getElem? hr)
          have hrn : r < n1 := by rw [← HN1.out]; exact (List.getElem?_eq_some_iff.1 hy).1
          have hrn2 : (r : Int) < (n1 : Int) := by omega
          obtain ⟨b'', o'', y', e2, _, hy', hcy⟩ := HCr.out.get hrn
          obtain ⟨rfl, rfl⟩ : b1 = b'' ∧ o1 = o'' := by simpa using e2
          obtain rfl : y = y' := by rw [hy] at hy'; injection hy'
          obtain ⟨-, -, -, -, -, -, -, -, -, -, h10y, -⟩ := id hcy
          have hlt2 : y.took < x.took := by
            obtain ⟨p1, e1⟩ := List.getElem?_eq_some_iff.1 hr
            obtain ⟨p2, e2⟩ := List.getElem?_eq_some_iff.1 hq
            have := List.pairwise_iff_getElem.1 HE.out.1 j k p1 p2 (by omega)
            rw [e1, e2] at this
            simpa [tk, hx, hy] using this
          have d5 : decide (x.took ≤ y.took) = false := by simp; omega
          clear hk0 hz hq hx hx' hcx hnot hnw e1 e2 hz' hr hy hy' hcy hlt2 hj
          go_upto_region 12 with (fail)
          (refine wp_region_nw (by kernel_rfl) (by kernel_rfl) ?_; (repeat (go_big_quiet_step (fail))); refine wpQuiet_nil ?_; intro _ hreg; obtain ⟨dW, rfl⟩ : Nw _ _ := hreg)
          have hn6 : Nw wr (wr.ext none dW) := ⟨_, rfl⟩
          have hcz6 : (wr.ext none dW).cell? ⟨bx, ox + k, none⟩ = some (.int .i64 q) := by rw [cell_ext]; exact hcz
          have hsn6 := hsn.out.nw hn6
          have hc6 := hsn6.cell q hqn
          have hf6 := hsn6.fz q hqn
          have HS6 := Lib.hid hsn6
          have HW6 := Lib.hid (HNW.out.trans hn6)
          clear hn6 hsn6
          generalize wr.ext none dW = W6 at *
          go_wp2
          refine ⟨⟨k + 1, by omega, by go_num, (HS6.out.set hqn).congr (fun i _ => take_seen HQ.out i), Nw.setCell HW6.out (p := ⟨bs, q, none⟩) (by show W2.heap.size ≤ bs; have := HBS.out; omega) _⟩, by first | (simp [intOf]; omega) | omega⟩
      · have hkn : ¬ (k : Int) < (ny : Int) := by omega
        have hs4 : Seen wr bs n1 (fun i => decide (i ∈ ys)) := hsn.out.congr fun i _ => by
          rw [List.take_of_length_le (by have := HNY.out; omega)]
        have hx4 := HX2.out.nw hnw.out
        have hc4 := HC2.out.nw hnw.out
        have HS4 := Lib.hid hs4
        have HX4 := Lib.hid hx4
        have HC4 := Lib.hid hc4
        have HN4 := Lib.hid (HN2.out.trans hnw.out)
        clear hsn hnw hs4 hx4 hc4
        go_wp2_with fail
        go_loopw [10] (fun a wq => ∃ i : Nat, i ≤ n1 ∧ a = .int .i64 i ∧ Nw wr wq) (fun a _ => n1 - (intOf a).toNat)
        case atStart => exact ⟨0, by omega, rfl, Nw.refl _⟩
        case round =>
          obtain ⟨i, hi, rfl, d, rfl⟩ := hrel
          by_cases hlti : i < n1
          · obtain ⟨b1, o1, x, rfl, hb1, hx, hcx⟩ := HC4.out.get hlti
            haveI : In b1 wr := ⟨hb1⟩
            haveI : In bs wr := ⟨HS4.out.lt⟩
            obtain ⟨-, -, -, -, -, -, -, -, -, -, h10, h11, -⟩ := id hcx
            have hin : (i : Int) < (n1 : Int) := by omega
            have hdec : decide (i ∈ ys) = decide (0 ≤ x.took) := by
              have h1 := HE.out.2 i
              by_cases h0 : 0 ≤ x.took
              · simp [h0, h1.2 ⟨x, hx, h0⟩]
              · have : i ∉ ys := fun hm => by
                  obtain ⟨x', hx', h2⟩ := h1.1 hm
                  rw [hx] at hx'; injection hx' with hx'; subst hx'; exact h0 h2
                simp [h0, this]
            have hsq : wr.cell? ⟨bs, i, none⟩ = some (.bool (decide (0 ≤ x.took))) := by rw [HS4.out.cell i hlti, hdec]
            by_cases ha : 0 ≤ x.ans
            · have da : decide (0 ≤ x.ans) = true := by simpa using ha
              have h0 : 0 ≤ x.took := (ans_ge HB.out hx ha).1
              have dt : decide (0 ≤ x.took) = true := by simpa using h0
              rw [dt] at hsq
              clear hdec hx hcx ha h0
              go_upto_region 18 with (fail)
              (refine wp_region_nw (by kernel_rfl) (by kernel_rfl) ?_; (repeat (go_big_quiet_step (fail))); refine wpQuiet_nil ?_; intro _ hreg; obtain ⟨dW, rfl⟩ : Nw _ _ := hreg)
              go_wp2
              refine ⟨⟨i + 1, by omega, by go_num, (by repeat (first | exact Xt.Nw.refl _ | refine Xt.Nw.drew ?_ | refine Xt.Nw.drewN ?_ _ | refine Xt.Nw.alloc ?_ _ | refine Xt.Nw.joined ?_ | refine Xt.Nw.drewd ?_ | refine Xt.Nw.drewdN ?_ | refine Xt.Nw.ext ?_ | refine Xt.Nw.ext_some ?_ (by assumption) | refine Xt.Nw.setCell ?_ (by simp [go_sem] <;> omega) _))⟩, by first | (simp [intOf]; omega) | omega⟩
            · have da : decide (0 ≤ x.ans) = false := by simpa using ha
              by_cases h0 : 0 ≤ x.took
              · have dt : decide (0 ≤ x.took) = true := by simpa using h0
                rw [dt] at hsq
                clear hdec hx hcx ha h0
                go_upto_region 18 with (fail)
                (refine wp_region_nw (by kernel_rfl) (by kernel_rfl) ?_; (repeat (go_big_quiet_step (fail))); refine wpQuiet_nil ?_; intro _ hreg; obtain ⟨dW, rfl⟩ : Nw _ _ := hreg)
                go_wp2
                refine ⟨⟨i + 1, by omega, by go_num, (by repeat (first | exact Xt.Nw.refl _ | refine Xt.Nw.drew ?_ | refine Xt.Nw.drewN ?_ _ | refine Xt.Nw.alloc ?_ _ | refine Xt.Nw.joined ?_ | refine Xt.Nw.drewd ?_ | refine Xt.Nw.drewdN ?_ | refine Xt.Nw.ext ?_ | refine Xt.Nw.ext_some ?_ (by assumption) | refine Xt.Nw.setCell ?_ (by simp [go_sem] <;> omega) _))⟩, by first | (simp [intOf]; omega) | omega⟩
              · have dt : decide (0 ≤ x.took) = false := by simpa using h0
                rw [dt] at hsq
                clear hdec hx hcx ha h0
                go_upto_region 18 with (fail)
                (refine wp_region_nw (by kernel_rfl) (by kernel_rfl) ?_; (repeat (go_big_quiet_step (fail))); refine wpQuiet_nil ?_; intro _ hreg; obtain ⟨dW, rfl⟩ : Nw _ _ := hreg)
                go_wp2
                refine ⟨⟨i + 1, by omega, by go_num, (by repeat (first | exact Xt.Nw.refl _ | refine Xt.Nw.drew ?_ | refine Xt.Nw.drewN ?_ _ | refine Xt.Nw.alloc ?_ _ | refine Xt.Nw.joined ?_ | refine Xt.Nw.drewd ?_ | refine Xt.Nw.drewdN ?_ | refine Xt.Nw.ext ?_ | refine Xt.Nw.ext_some ?_ (by assumption) | refine Xt.Nw.setCell ?_ (by simp [go_sem] <;> omega) _))⟩, by first | (simp [intOf]; omega) | omega⟩
          · have hli : ¬ (i : Int) < (n1 : Int) := by omega
            have hord := HE.out.ord
            have hwo := natI_wf hord.2 (by have := HN1.out; omega)
            have hE0 := hord.agrE HB.out
            have hB0 := (hord.agrB HB.out).2 (HE.out.ok HB.out)
            have HWO := Lib.hid hwo
            have HE0 := Lib.hid hE0
            have HB0 := Lib.hid hB0
            clear hord hwo hE0 hB0
            go_wp2_with fail
            refine (agrees_any Ax ny cx (natI ys) A1 n1 c1 L _ (by omega) (HX4.out.nw ((by repeat (first | exact Xt.Nw.refl _ | refine Xt.Nw.drew ?_ | refine Xt.Nw.drewN ?_ _ | refine Xt.Nw.alloc ?_ _ | refine Xt.Nw.joined ?_ | refine Xt.Nw.drewd ?_ | refine Xt.Nw.drewdN ?_ | refine Xt.Nw.ext ?_ | refine Xt.Nw.ext_some ?_ (by assumption) | refine Xt.Nw.setCell ?_ (by simp [go_sem] <;> omega) _)))) HWO.out (by omega) hc1 hm1 (HC4.out.nw ((by repeat (first | exact Xt.Nw.refl _ | refine Xt.Nw.drew ?_ | refine Xt.Nw.drewN ?_ _ | refine Xt.Nw.alloc ?_ _ | refine Xt.Nw.joined ?_ | refine Xt.Nw.drewd ?_ | refine Xt.Nw.drewdN ?_ | refine Xt.Nw.ext ?_ | refine Xt.Nw.ext_some ?_ (by assumption) | refine Xt.Nw.setCell ?_ (by simp [go_sem] <;> omega) _)))) HWL.out).mono ?_
            rw [HE0.out, HB0.out]
            rintro e w' ⟨rfl, dW, rfl⟩
            go_wp2_with fail
            refine (yes_any _ _ _).mono ?_
            rintro e w' ⟨rfl, dW, rfl⟩
            go_wp2_with fail
            refine (awake_any _).mono ?_
            rintro e w' ⟨rfl, dW, rfl⟩
            go_wp2
            go_ret
            exact ⟨rfl, HN4.out.trans ((by repeat (first | exact Xt.Nw.refl _ | refine Xt.Nw.drew ?_ | refine Xt.Nw.drewN ?_ _ | refine Xt.Nw.alloc ?_ _ | refine Xt.Nw.joined ?_ | refine Xt.Nw.drewd ?_ | refine Xt.Nw.drewdN ?_ | refine Xt.Nw.ext ?_ | refine Xt.Nw.ext_some ?_ (by assumption) | refine Xt.Nw.setCell ?_ (by simp [go_sem] <;> omega) _)))⟩
  · have HV := Lib.hid hv
    have hE := Lib.hid (show chkE L = 15 by rw [chkE, if_neg (by rw [hb]; simp)])
    have HB := Lib.hid (show bad L ≠ none by rw [hb]; simp)
    clear hb hv
    go_enter Try.func6, Try.ntmps6
    go_wp2_with fail
    refine (few_cs _ hnc hc HL1.out HN1.out HL.out).mono ?_
    rintro e w' ⟨A1, c1, rfl, h1, dW, rfl⟩
    have H1 := Lib.hid h1
    clear h1
    go_wp2_with fail
    refine (effects_any A1 n1 c1 L _ (by omega) H1.out.2.1 H1.out.2.2.1 (H1.out.1.nw ((by repeat (first | exact Xt.Nw.refl _ | refine Xt.Nw.drew ?_ | refine Xt.Nw.drewN ?_ _ | refine Xt.Nw.alloc ?_ _ | refine Xt.Nw.joined ?_ | refine Xt.Nw.drewd ?_ | refine Xt.Nw.drewdN ?_ | refine Xt.Nw.ext ?_ | refine Xt.Nw.ext_some ?_ (by assumption) | refine Xt.Nw.setCell ?_ (by simp [go_sem] <;> omega) _)))) HWL.out).mono ?_
    rw [hE.out]
    rintro e w' ⟨v, ys, rfl, hys, hown, dW, rfl⟩
    obtain rfl := hys.2 HB.out
    obtain ⟨Ax, cx, rfl, hx⟩ := hown.new (n := 0) rfl
    clear hown hx hys
    go_wp2_with fail
    refine (check_any A1 n1 c1 L _ (by omega) H1.out.2.1 H1.out.2.2.1 (H1.out.1.nw ((by repeat (first | exact Xt.Nw.refl _ | refine Xt.Nw.drew ?_ | refine Xt.Nw.drewN ?_ _ | refine Xt.Nw.alloc ?_ _ | refine Xt.Nw.joined ?_ | refine Xt.Nw.drewd ?_ | refine Xt.Nw.drewdN ?_ | refine Xt.Nw.ext ?_ | refine Xt.Nw.ext_some ?_ (by assumption) | refine Xt.Nw.setCell ?_ (by simp [go_sem] <;> omega) _)))) HWL.out).mono ?_
    rw [HV.out]
    rintro e w' ⟨rfl, dW, rfl⟩
    go_wp2_with fail
    refine (awake_any _).mono ?_
    rintro e w' ⟨rfl, dW, rfl⟩
    go_wp2
    go_ret
    exact ⟨rfl, (by repeat (first | exact Xt.Nw.refl _ | refine Xt.Nw.drew ?_ | refine Xt.Nw.drewN ?_ _ | refine Xt.Nw.alloc ?_ _ | refine Xt.Nw.joined ?_ | refine Xt.Nw.drewd ?_ | refine Xt.Nw.drewdN ?_ | refine Xt.Nw.ext ?_ | refine Xt.Nw.ext_some ?_ (by assumption) | refine Xt.Nw.setCell ?_ (by simp [go_sem] <;> omega) _))⟩
end Go.Proofs.Ytjpgechcfkhoaaa
