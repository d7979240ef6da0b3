import Derived.Test.YtkikdpdainmlcaaGreatGPj
set_option linter.unusedVariables false
set_option linter.unusedSimpArgs false
set_option linter.unnecessarySimpa false
namespace Go.Proofs.YtkikdpdainmlcaaGreat
open Go.RowKit Go.Xt
/-! The ordered map at any pairs: Move. -/
theorem take_get {α : Type} {l : List α} {i : Nat} {x : α} (h : l[i]? = some x) : l.take (i + 1) = l.take i ++ [x] := by
  rw [List.take_add_one, h]; rfl
set_option maxRecDepth 20000 in
set_option maxHeartbeats 8000000 in
theorem move_some {w : World} {gp g c : Nat} {l : List (Int × Int)} (h : OM w gp (.slice (some ⟨g, 0, none⟩) l.length c) l) (hn : l.length ≤ 500000) (lo hi by_ : Int) (hlh : lo ≤ hi) (hlo : 0 ≤ lo) (hb0 : 0 < by_) (hb1 : by_ ≤ 18446744073709551615 - hi) :
    Calls Tryz.prog 147 #[.pointer (some ⟨gp, 0, none⟩), spV lo hi, .int .u64 by_] w fun e w' => e = .returned (.tuple #[.int .i64 (inR lo hi l).length, .int .i64 0]) ∧ ∃ v', Upd w gp (.slice (some ⟨g, 0, none⟩) l.length c) (moveL lo hi by_ l) v' w' := by
  haveI : In gp w := ⟨h.lt⟩
  have hgl := h.rlt rfl
  haveI : In g w := ⟨hgl⟩
  have p0 := h.p0
  have HE := Lib.hid (fun W (hw : Nw w W) => ends_om (h.nw hw) (by omega) lo hi hlh)
  have HIL := Lib.hid (inR_len hlh h.asc)
  have HOL := Lib.hid (outR_len hlh h.asc)
  have HSP := Lib.hid (split_range hlh h.asc)
  have hle := pos_le_to hlh h.asc
  have hto := posTo_le hi l
  have hin : ∀ p ∈ inR lo hi l, lo ≤ p.1 ∧ p.1 ≤ hi := fun p hp => by
    have := (List.mem_filter.1 hp).2
    simpa using this
  obtain ⟨i, hi'⟩ : ∃ i, i = pos lo l := ⟨_, rfl⟩
  obtain ⟨j, hj'⟩ : ∃ j, j = posTo hi l := ⟨_, rfl⟩
  simp only [← hi', ← hj'] at HE HIL HOL HSP hle hto
  have q1 : (by_ == 0) = false := by simp; omega
  have q2 : ¬ by_ = 0 := by omega
  have q3 : IntKind.u64.wrap (18446744073709551615 - hi) = 18446744073709551615 - hi := by rw [IntKind.wrap_u64]; omega
  have q4 : decide (18446744073709551615 - hi < by_) = false := by simp; omega
  have HH := Lib.hid h
  have HLE := Lib.hid hle
  have HTO := Lib.hid hto
  have HIN := Lib.hid hin
  have HLO := Lib.hid hlo
  have HHI := Lib.hid hb1
  have HB0 := Lib.hid hb0
  have HN := Lib.hid hn
  have HOI := Lib.hid (outR_inR lo hi l)
  unfold moveL
  obtain ⟨R, hR⟩ : ∃ R, R = inR lo hi l := ⟨_, rfl⟩
  obtain ⟨O, hO⟩ : ∃ O, O = outR lo hi l := ⟨_, rfl⟩
  simp only [← hR, ← hO] at HIL HOL HSP HIN HOI ⊢
  have HOS := Lib.hid (hO ▸ outR_sub lo hi l : O.Sublist l)
  obtain ⟨m, hm⟩ : ∃ m, m = R.length := ⟨_, rfl⟩
  rw [← hm] at HIL HOI ⊢
  have HM := Lib.hid hm
  have HGL := Lib.hid hgl
  clear hgl
  have hlc : l.length ≤ c := by
    obtain ⟨_, _, _, _, h5⟩ := own_full h.row
    exact h5
  have HRD : ∀ (W : World) (A : Option Addr) (k : Nat), Nw w W → k = m → (A = some ⟨g, i * 2, none⟩ ∨ m = 0) → Rd W 2 A k (pcells R) := by
    rintro W A k hw rfl hA
    refine ⟨by rw [pcells_len, HM.out], fun h0 => ?_⟩
    rcases hA with rfl | h1
    · have hwh := HH.out.nw hw
      refine ⟨g, i * 2, rfl, hwh.rlt rfl, fun q u hu => ?_⟩
      have hq := (List.getElem?_eq_some_iff.1 hu).1
      rw [pcells_len, ← HM.out, HIL.out] at hq
      have ht := HTO.out
      rw [hwh.row.cellAt _ (by omega)]
      have e1 : pcells l = pcells (l.take i) ++ (pcells R ++ pcells (l.drop j)) := by
        rw [← HSP.out.1, ← pcells_app, ← pcells_app]
        congr 1
        have e2 : l.take i = (l.take j).take i := by rw [List.take_take, Nat.min_eq_left HLE.out]
        rw [e2, ← List.append_assoc, List.take_append_drop, List.take_append_drop]
      rw [e1, List.getElem?_append_right (by rw [pcells_len, List.length_take]; omega), pcells_len, List.length_take, Nat.min_eq_left (by have := HLE.out; omega), show i * 2 + q - i * 2 = q by omega, List.getElem?_append_left (by rw [pcells_len, ← HM.out, HIL.out]; omega)]
      exact hu
    · omega
  have HRDh := Lib.hid HRD
  obtain ⟨n, hne⟩ : ∃ n, n = l.length := ⟨_, rfl⟩
  have HNE := Lib.hid hne
  rw [← hne] at HH HTO HOL hlc p0 HN hto ⊢
  have b1 : (i : Int) ≤ (j : Int) := by omega
  have b2 : (j : Int) ≤ (n : Int) := by omega
  have b3 : (n : Int) ≤ (c : Int) := by omega
  have b4 : (j : Int) ≤ (c : Int) := by omega
  have b5 : i ≤ j := by omega
  have b6 : j ≤ c := by omega
  unfold spV at HE ⊢
  clear h hlh hi' hj' hle hto hin hlo hb0 hb1 hn hR hO hne hm HRD
  have fin : ∀ (W2 W3 W4 : World) (k : Nat) (vC v' : Value) (ops : Nat), True := fun _ _ _ _ _ _ _ => trivial
  clear fin
  by_cases hci : c ≤ i
  · go_enter Tryz.func147, Tryz.ntmps147
    go_wp2_with fail
    refine (HE.out _ (nwa)).mono ?_
    rintro e W2 ⟨rfl, d2, rfl⟩
    go_wp2_with fail
    refine (clone_any _ _ _ R _ (HRDh.out _ _ _ (nwa) HIL.out.symm (by first | exact .inl rfl | exact .inr (by have := HIL.out; have := HTO.out; omega))) (by have := HN.out; have := HTO.out; omega) (by intro h; cases h)).mono ?_
    rintro e W3 ⟨vC, rfl, hown, hn3⟩
    have hn3 : Nw w W3 := Nw.trans (by exact nwa) hn3
    obtain ⟨A, cC, hvC⟩ : ∃ A cC, vC = .slice A m cC := by
      rcases own_forms hown with ⟨rfl, h0⟩ | ⟨g, c, rfl, _⟩
      · rw [HIL.out, h0]; exact ⟨_, _, rfl⟩
      · rw [HIL.out]; exact ⟨_, _, rfl⟩
    rw [← HIL.out] at hown
    have h3 := HH.out.nw hn3
    have hown' : W3.ownsRow w.heap.size 51 2 (.slice A m cC) m (pcells R) := hvC ▸ own_le hown (Nw.grown (by exact nwa)).size
    have p3 := cell_nw p0 hn3
    haveI : In gp W3 := ⟨h3.lt⟩
    haveI : In g W3 := ⟨h3.rlt rfl⟩
    have H3 := Lib.hid h3
    have HN3 := Lib.hid hn3
    have HOW := Lib.hid hown'
    subst hvC
    clear h3 hn3 hown hown'
    go_wp2_with fail
    refine (delete_any _ l i j (i + (n - j)) W3 H3.out.row HLE.out (by have := HTO.out; have := HNE.out; omega) (by have := HN.out; have := HNE.out; omega) (by rw [HNE.out])).mono ?_
    rintro e W4 ⟨v4, rfl, hown4, hch4, hvb⟩
    have hgp : gp ∉ (Value.slice (some ⟨g, 0, none⟩) n c).ownBlock.toList := by rw [Option.mem_toList]; exact H3.out.ne
    have r4 := hch4.cell H3.out.p0 hgp
    have z4 := (hch4.frozen H3.out.lt hgp).trans H3.out.pz
    obtain ⟨A4, n4, c4, hv4⟩ : ∃ A n' c', v4 = .slice A n' c' := by
      rcases own_forms hown4 with ⟨rfl, _⟩ | ⟨g, c, rfl, _⟩
      · exact ⟨_, _, _, rfl⟩
      · exact ⟨_, _, _, rfl⟩
    have hst := Upd.store (v := (Value.slice (some ⟨g, 0, none⟩) n c)) (w := W3) r4 z4 (l := O) (by rw [HOL.out, ← HSP.out.2]; exact hown4) (by rw [hvb]; exact H3.out.ne) (asc_sub H3.out.asc HOS.out) hch4 (.inl hvb)
    have hdis : ∀ q, (Value.slice A m cC).ownBlock = some q → q ≠ gp ∧ v4.ownBlock ≠ some q := fun q hq => by
      have h1 := (HOW.out.lt q hq).1
      have h2 := HH.out.lt
      have h3 := HGL.out
      refine ⟨by omega, fun h => ?_⟩
      rw [hvb] at h; cases h; simp at h1; omega
    have hrow5 := own_chg HOW.out hst.chg (fun q hq hx => by
      rcases mem_foot.1 hx with h | h
      · exact (hdis q hq).1 h
      · cases h; have h1 := (HOW.out.lt _ hq).1; have h3 := HGL.out; simp at h1; omega)
    have HST := Lib.hid (⟨hst.after HN3.out, hrow5, hdis⟩ : Upd w gp (Value.slice (some ⟨g, 0, none⟩) n c) O v4 (W4.setCell ⟨gp, 0, none⟩ v4) ∧ (W4.setCell ⟨gp, 0, none⟩ v4).ownsRow w.heap.size 51 2 (.slice A m cC) m (pcells R) ∧ ∀ q, (Value.slice A m cC).ownBlock = some q → q ≠ gp ∧ v4.ownBlock ≠ some q)
    subst hv4
    clear hown4 hch4 hvb hgp hst hdis hrow5
    go_wp2_with fail
    go_loopw [13, 54] (fun _ a wr => ∃ (q : Nat) (v' : Value), q ≤ m ∧ a = .int .i64 q ∧ Hid (Upd w gp (Value.slice (some ⟨g, 0, none⟩) n c) (mvL by_ (R.take q) O) v' wr ∧ wr.ownsRow w.heap.size 51 2 (.slice A m cC) m (pcells R) ∧ ∀ b, (Value.slice A m cC).ownBlock = some b → b ≠ gp ∧ v'.ownBlock ≠ some b)) (fun _ a _ => m - (intOf a).toNat)
    case atStart => exact ⟨0, _, Nat.zero_le _, rfl, HST⟩
    case round =>
      obtain ⟨q, v', hq, rfl, HU⟩ := hrel
      by_cases hqm : q < m
      · obtain ⟨⟨pk, px⟩, hp⟩ : ∃ p, R[q]? = some p := ⟨_, List.getElem?_eq_getElem (by have := HM.out; omega)⟩
        rcases own_forms HU.out.2.1 with ⟨hA, h0⟩ | ⟨gC, cC', hA, _, hin, _, _⟩
        · omega
        injection hA with a1 a2 a3
        subst a1 a3
        obtain ⟨y0, y1⟩ := pcells_get R q _ hp
        have hl := (List.getElem?_eq_some_iff.1 y1).1
        rw [pcells_len, ← HM.out] at hl
        have c0 : wr.cell? ⟨gC, q * 2, none⟩ = some (.int .u64 pk) := (HU.out.2.1.cellAt _ (by omega)).trans y0
        have c1 : wr.cell? ⟨gC, q * 2 + 1, none⟩ = some (.int .u64 px) := (HU.out.2.1.cellAt _ (by omega)).trans y1
        haveI : In gC wr := ⟨World.block_lt_of_cell? wr _ c0⟩
        haveI : In gp wr := ⟨HU.out.1.om.lt⟩
        have hpk := HIN.out _ (List.mem_of_getElem? hp)
        have qk : IntKind.u64.wrap (pk + by_) = pk + by_ := by
          have h1 := HLO.out; have h2 := HHI.out; have h3 := HB0.out
          simp at hpk
          rw [IntKind.wrap_u64]; omega
        have i1 : (q : Int) < (m : Int) := by omega
        have i2 : (0 : Int) ≤ (q : Int) := by omega
        have i3 : q < 1000000 := by have := HN.out; have := HTO.out; have := HIL.out; omega
        have HP := Lib.hid (take_get hp)
        have HQM := Lib.hid hqm
        clear y0 y1 hl hpk hp hin
        go_wp2_with fail
        refine (set_upd (HU.out.1.om.nw (nwa)) (by have h1 := mvL_len by_ (R.take q) O; have h2 := HN.out; have h3 := HOI.out; have h4 := HNE.out; have h5 : (R.take q).length ≤ q := List.length_take_le _ _; omega) _ _).mono ?_
        rintro e W7 ⟨rfl, v2, hu2⟩
        have hu2 : Upd wr gp v' _ v2 W7 := Upd.after (nwa) hu2
        have hrow7 := own_chg HU.out.2.1 hu2.chg (fun b hb hx => by
          have h1 := HU.out.2.2 b hb
          rcases mem_foot.1 hx with h | h
          · exact h1.1 h
          · exact h1.2 h)
        have hdis7 : ∀ b, (Value.slice (some ⟨gC, 0, none⟩) m cC).ownBlock = some b → b ≠ gp ∧ v2.ownBlock ≠ some b := fun b hb => by
          have h1 := HU.out.2.2 b hb
          have h2 := (HU.out.2.1.lt b hb).2
          refine ⟨h1.1, fun h => ?_⟩
          rcases hu2.moved with e | ⟨r, e, hr⟩
          · exact h1.2 (e ▸ h)
          · rw [e] at h; cases h; omega
        have HR := Lib.hid (⟨by rw [HP.out, mvL_snoc]; exact HU.out.1.trans hu2, hrow7, hdis7⟩ : Upd w gp (Value.slice (some ⟨g, 0, none⟩) n c) (mvL by_ (R.take (q + 1)) O) v2 W7 ∧ W7.ownsRow w.heap.size 51 2 (.slice (some ⟨gC, 0, none⟩) m cC) m (pcells R) ∧ ∀ b, (Value.slice (some ⟨gC, 0, none⟩) m cC).ownBlock = some b → b ≠ gp ∧ v2.ownBlock ≠ some b)
        clear hu2 hrow7 hdis7
        go_wp2
        exact ⟨⟨q + 1, v2, by have := HQM.out; omega, by go_num, HR⟩, by have := HQM.out; simp [intOf]; omega⟩
      · obtain rfl : q = m := by omega
        have hfull : R.take q = R := List.take_of_length_le (by rw [← HM.out]; exact Nat.le_refl _)
        rw [hfull] at HU
        clear hfull
        go_wp2
        refine bodyPost_ret (v := .tuple #[.int .i64 q, .int .i64 0]) ?_ rfl ⟨rfl, _, HU.out.1⟩
        simp [results, Tryz.results147, go_sem]
  · have hci2 : ¬ c = i := by omega
    go_enter Tryz.func147, Tryz.ntmps147
    go_wp2_with fail
    refine (HE.out _ (nwa)).mono ?_
    rintro e W2 ⟨rfl, d2, rfl⟩
    go_wp2_with fail
    refine (clone_any _ _ _ R _ (HRDh.out _ _ _ (nwa) HIL.out.symm (by first | exact .inl rfl | exact .inr (by have := HIL.out; have := HTO.out; omega))) (by have := HN.out; have := HTO.out; omega) (by intro h; cases h)).mono ?_
    rintro e W3 ⟨vC, rfl, hown, hn3⟩
    have hn3 : Nw w W3 := Nw.trans (by exact nwa) hn3
    obtain ⟨A, cC, hvC⟩ : ∃ A cC, vC = .slice A m cC := by
      rcases own_forms hown with ⟨rfl, h0⟩ | ⟨g, c, rfl, _⟩
      · rw [HIL.out, h0]; exact ⟨_, _, rfl⟩
      · rw [HIL.out]; exact ⟨_, _, rfl⟩
    rw [← HIL.out] at hown
    have h3 := HH.out.nw hn3
    have hown' : W3.ownsRow w.heap.size 51 2 (.slice A m cC) m (pcells R) := hvC ▸ own_le hown (Nw.grown (by exact nwa)).size
    have p3 := cell_nw p0 hn3
    haveI : In gp W3 := ⟨h3.lt⟩
    haveI : In g W3 := ⟨h3.rlt rfl⟩
    have H3 := Lib.hid h3
    have HN3 := Lib.hid hn3
    have HOW := Lib.hid hown'
    subst hvC
    clear h3 hn3 hown hown'
    go_wp2_with fail
    refine (delete_any _ l i j (i + (n - j)) W3 H3.out.row HLE.out (by have := HTO.out; have := HNE.out; omega) (by have := HN.out; have := HNE.out; omega) (by rw [HNE.out])).mono ?_
    rintro e W4 ⟨v4, rfl, hown4, hch4, hvb⟩
    have hgp : gp ∉ (Value.slice (some ⟨g, 0, none⟩) n c).ownBlock.toList := by rw [Option.mem_toList]; exact H3.out.ne
    have r4 := hch4.cell H3.out.p0 hgp
    have z4 := (hch4.frozen H3.out.lt hgp).trans H3.out.pz
    obtain ⟨A4, n4, c4, hv4⟩ : ∃ A n' c', v4 = .slice A n' c' := by
      rcases own_forms hown4 with ⟨rfl, _⟩ | ⟨g, c, rfl, _⟩
      · exact ⟨_, _, _, rfl⟩
      · exact ⟨_, _, _, rfl⟩
    have hst := Upd.store (v := (Value.slice (some ⟨g, 0, none⟩) n c)) (w := W3) r4 z4 (l := O) (by rw [HOL.out, ← HSP.out.2]; exact hown4) (by rw [hvb]; exact H3.out.ne) (asc_sub H3.out.asc HOS.out) hch4 (.inl hvb)
    have hdis : ∀ q, (Value.slice A m cC).ownBlock = some q → q ≠ gp ∧ v4.ownBlock ≠ some q := fun q hq => by
      have h1 := (HOW.out.lt q hq).1
      have h2 := HH.out.lt
      have h3 := HGL.out
      refine ⟨by omega, fun h => ?_⟩
      rw [hvb] at h; cases h; simp at h1; omega
    have hrow5 := own_chg HOW.out hst.chg (fun q hq hx => by
      rcases mem_foot.1 hx with h | h
      · exact (hdis q hq).1 h
      · cases h; have h1 := (HOW.out.lt _ hq).1; have h3 := HGL.out; simp at h1; omega)
    have HST := Lib.hid (⟨hst.after HN3.out, hrow5, hdis⟩ : Upd w gp (Value.slice (some ⟨g, 0, none⟩) n c) O v4 (W4.setCell ⟨gp, 0, none⟩ v4) ∧ (W4.setCell ⟨gp, 0, none⟩ v4).ownsRow w.heap.size 51 2 (.slice A m cC) m (pcells R) ∧ ∀ q, (Value.slice A m cC).ownBlock = some q → q ≠ gp ∧ v4.ownBlock ≠ some q)
    subst hv4
    clear hown4 hch4 hvb hgp hst hdis hrow5
    go_wp2_with fail
    go_loopw [13, 54] (fun _ a wr => ∃ (q : Nat) (v' : Value), q ≤ m ∧ a = .int .i64 q ∧ Hid (Upd w gp (Value.slice (some ⟨g, 0, none⟩) n c) (mvL by_ (R.take q) O) v' wr ∧ wr.ownsRow w.heap.size 51 2 (.slice A m cC) m (pcells R) ∧ ∀ b, (Value.slice A m cC).ownBlock = some b → b ≠ gp ∧ v'.ownBlock ≠ some b)) (fun _ a _ => m - (intOf a).toNat)
    case atStart => exact ⟨0, _, Nat.zero_le _, rfl, HST⟩
    case round =>
      obtain ⟨q, v', hq, rfl, HU⟩ := hrel
      by_cases hqm : q < m
      · obtain ⟨⟨pk, px⟩, hp⟩ : ∃ p, R[q]? = some p := ⟨_, List.getElem?_eq_getElem (by have := HM.out; omega)⟩
        rcases own_forms HU.out.2.1 with ⟨hA, h0⟩ | ⟨gC, cC', hA, _, hin, _, _⟩
        · omega
        injection hA with a1 a2 a3
        subst a1 a3
        obtain ⟨y0, y1⟩ := pcells_get R q _ hp
        have hl := (List.getElem?_eq_some_iff.1 y1).1
        rw [pcells_len, ← HM.out] at hl
        have c0 : wr.cell? ⟨gC, q * 2, none⟩ = some (.int .u64 pk) := (HU.out.2.1.cellAt _ (by omega)).trans y0
        have c1 : wr.cell? ⟨gC, q * 2 + 1, none⟩ = some (.int .u64 px) := (HU.out.2.1.cellAt _ (by omega)).trans y1
        haveI : In gC wr := ⟨World.block_lt_of_cell? wr _ c0⟩
        haveI : In gp wr := ⟨HU.out.1.om.lt⟩
        have hpk := HIN.out _ (List.mem_of_getElem? hp)
        have qk : IntKind.u64.wrap (pk + by_) = pk + by_ := by
          have h1 := HLO.out; have h2 := HHI.out; have h3 := HB0.out
          simp at hpk
          rw [IntKind.wrap_u64]; omega
        have i1 : (q : Int) < (m : Int) := by omega
        have i2 : (0 : Int) ≤ (q : Int) := by omega
        have i3 : q < 1000000 := by have := HN.out; have := HTO.out; have := HIL.out; omega
        have HP := Lib.hid (take_get hp)
        have HQM := Lib.hid hqm
        clear y0 y1 hl hpk hp hin
        go_wp2_with fail
        refine (set_upd (HU.out.1.om.nw (nwa)) (by have h1 := mvL_len by_ (R.take q) O; have h2 := HN.out; have h3 := HOI.out; have h4 := HNE.out; have h5 : (R.take q).length ≤ q := List.length_take_le _ _; omega) _ _).mono ?_
        rintro e W7 ⟨rfl, v2, hu2⟩
        have hu2 : Upd wr gp v' _ v2 W7 := Upd.after (nwa) hu2
        have hrow7 := own_chg HU.out.2.1 hu2.chg (fun b hb hx => by
          have h1 := HU.out.2.2 b hb
          rcases mem_foot.1 hx with h | h
          · exact h1.1 h
          · exact h1.2 h)
        have hdis7 : ∀ b, (Value.slice (some ⟨gC, 0, none⟩) m cC).ownBlock = some b → b ≠ gp ∧ v2.ownBlock ≠ some b := fun b hb => by
          have h1 := HU.out.2.2 b hb
          have h2 := (HU.out.2.1.lt b hb).2
          refine ⟨h1.1, fun h => ?_⟩
          rcases hu2.moved with e | ⟨r, e, hr⟩
          · exact h1.2 (e ▸ h)
          · rw [e] at h; cases h; omega
        have HR := Lib.hid (⟨by rw [HP.out, mvL_snoc]; exact HU.out.1.trans hu2, hrow7, hdis7⟩ : Upd w gp (Value.slice (some ⟨g, 0, none⟩) n c) (mvL by_ (R.take (q + 1)) O) v2 W7 ∧ W7.ownsRow w.heap.size 51 2 (.slice (some ⟨gC, 0, none⟩) m cC) m (pcells R) ∧ ∀ b, (Value.slice (some ⟨gC, 0, none⟩) m cC).ownBlock = some b → b ≠ gp ∧ v2.ownBlock ≠ some b)
        clear hu2 hrow7 hdis7
        go_wp2
        exact ⟨⟨q + 1, v2, by have := HQM.out; omega, by go_num, HR⟩, by have := HQM.out; simp [intOf]; omega⟩
      · obtain rfl : q = m := by omega
        have hfull : R.take q = R := List.take_of_length_le (by rw [← HM.out]; exact Nat.le_refl _)
        rw [hfull] at HU
        clear hfull
        go_wp2
        refine bodyPost_ret (v := .tuple #[.int .i64 q, .int .i64 0]) ?_ rfl ⟨rfl, _, HU.out.1⟩
        simp [results, Tryz.results147, go_sem]
theorem move_om {w : World} {gp : Nat} {v : Value} {l : List (Int × Int)} (h : OM w gp v l) (hn : l.length ≤ 500000) (lo hi by_ : Int) (hlh : lo ≤ hi) (hlo : 0 ≤ lo) (hb0 : 0 < by_) (hb1 : by_ ≤ 18446744073709551615 - hi) :
    Calls Tryz.prog 147 #[.pointer (some ⟨gp, 0, none⟩), spV lo hi, .int .u64 by_] w fun e w' => e = .returned (.tuple #[.int .i64 (inR lo hi l).length, .int .i64 0]) ∧ ∃ v', Upd w gp v (moveL lo hi by_ l) v' w' := by
  rcases h.form with ⟨rfl, rfl⟩ | ⟨g, c, rfl, -, -, -⟩
  · exact move_nil h lo hi by_ hlh hlo hb0 hb1
  · exact move_some h hn lo hi by_ hlh hlo hb0 hb1
end Go.Proofs.YtkikdpdainmlcaaGreat
namespace Go.Proofs.YtkikdpdainmlcaaGreat
open Go.RowKit Go.Xt
/-! The model at any threads: what it is in memory. -/
structure Th where
  op : Bool
  mo : Bool
  lo : Int
  hi : Int
  se : Bool
deriving DecidableEq
def thc (x : Th) : List Value := [.bool x.op, .bool x.mo, .int .u64 x.lo, .int .u64 x.hi, .bool x.se]
def tcells (l : List Th) : List Value := l.flatMap thc
theorem tcells_len (l : List Th) : (tcells l).length = l.length * 5 := by
  induction l with
  | nil => rfl
  | cons x l ih => rw [tcells, List.flatMap_cons, List.length_append, ← tcells, ih, List.length_cons]; simp [thc]; omega
theorem tcells_cons (x : Th) (l : List Th) (k j : Nat) : (tcells (x :: l))[(k + 1) * 5 + j]? = (tcells l)[k * 5 + j]? := by
  rw [show (k + 1) * 5 + j = (k * 5 + j) + 5 by omega]; rfl
theorem tcells_get : ∀ (l : List Th) (k : Nat) (x : Th), l[k]? = some x → (tcells l)[k * 5]? = some (.bool x.op) ∧ (tcells l)[k * 5 + 1]? = some (.bool x.mo) ∧ (tcells l)[k * 5 + 2]? = some (.int .u64 x.lo) ∧ (tcells l)[k * 5 + 3]? = some (.int .u64 x.hi) ∧ (tcells l)[k * 5 + 4]? = some (.bool x.se)
  | [], k, s, h => by simp at h
  | x :: b, 0, s, h => by simp at h; subst h; exact ⟨rfl, rfl, rfl, rfl, rfl⟩
  | x :: b, k + 1, s, h => by
    have h2 := tcells_get b k s (by simpa using h)
    exact ⟨(tcells_cons x b k 0).trans h2.1, (tcells_cons x b k 1).trans h2.2.1, (tcells_cons x b k 2).trans h2.2.2.1, (tcells_cons x b k 3).trans h2.2.2.2.1, (tcells_cons x b k 4).trans h2.2.2.2.2⟩
theorem tcells_setj (j : Nat) (hj : j < 5) (f : Th → Th) (v : Value) (hf : ∀ x, thc (f x) = (thc x).set j v) : ∀ (l : List Th) (k : Nat) (x : Th), l[k]? = some x → tcells (l.set k (f x)) = (tcells l).set (k * 5 + j) v
  | [], k, s, h => by simp at h
  | x :: b, 0, s, h => by
    simp at h; subst h
    show thc (f x) ++ tcells b = (thc x ++ tcells b).set (0 * 5 + j) v
    rw [hf, List.set_append_left _ _ (by simp [thc]; omega)]; simp
  | x :: b, k + 1, s, h => by
    have h2 := tcells_setj j hj f v hf b k s (by simpa using h)
    show thc x ++ tcells (b.set k (f s)) = (thc x ++ tcells b).set ((k + 1) * 5 + j) v
    rw [h2, List.set_append_right _ _ (by simp [thc]; omega)]
    congr 2; simp [thc]; omega
def ThR (W : World) (gt : Nat) (th : List Th) : Prop := ∃ c, W.ownsRow 0 175 5 (.slice (some ⟨gt, 0, none⟩) th.length c) th.length (tcells th)
theorem ThR.setj {W : World} {gt : Nat} {th : List Th} (h : ThR W gt th) {k : Nat} {x : Th} (hk : th[k]? = some x) (j : Nat) (hj : j < 5) (f : Th → Th) (v : Value) (hf : ∀ x, thc (f x) = (thc x).set j v) : ThR (W.setCell ⟨gt, k * 5 + j, none⟩ v) gt (th.set k (f x)) := by
  obtain ⟨c, h⟩ := h
  have h2 := (h.stored (k * 5 + j) v).1
  rw [← tcells_setj j hj f v hf th k x hk] at h2
  refine ⟨c, ?_⟩
  rw [List.length_set]; exact h2
theorem ThR.inn {W : World} {gt : Nat} {th : List Th} (h : ThR W gt th) : gt < W.heap.size := by
  obtain ⟨c, h⟩ := h; exact (World.ownsRow.lt h gt rfl).2
theorem ThR.frozen {W : World} {gt : Nat} {th : List Th} (h : ThR W gt th) (o : Nat) : W.frozen? ⟨gt, o, none⟩ = false := by
  obtain ⟨c, h⟩ := h; exact World.ownsRow.frozenAt h _
theorem ThR.op {W : World} {gt : Nat} {th : List Th} (h : ThR W gt th) {k : Nat} {x : Th} (hk : th[k]? = some x) (v : Bool) : ThR (W.setCell ⟨gt, k * 5, none⟩ (.bool v)) gt (th.set k { x with op := v }) := h.setj hk 0 (by omega) (fun x => { x with op := v }) _ (fun _ => rfl)
theorem ThR.mo {W : World} {gt : Nat} {th : List Th} (h : ThR W gt th) {k : Nat} {x : Th} (hk : th[k]? = some x) (v : Bool) : ThR (W.setCell ⟨gt, k * 5 + 1, none⟩ (.bool v)) gt (th.set k { x with mo := v }) := h.setj hk 1 (by omega) (fun x => { x with mo := v }) _ (fun _ => rfl)
theorem ThR.lo {W : World} {gt : Nat} {th : List Th} (h : ThR W gt th) {k : Nat} {x : Th} (hk : th[k]? = some x) (v : Int) : ThR (W.setCell ⟨gt, k * 5 + 2, none⟩ (.int .u64 v)) gt (th.set k { x with lo := v }) := h.setj hk 2 (by omega) (fun x => { x with lo := v }) _ (fun _ => rfl)
theorem ThR.hi {W : World} {gt : Nat} {th : List Th} (h : ThR W gt th) {k : Nat} {x : Th} (hk : th[k]? = some x) (v : Int) : ThR (W.setCell ⟨gt, k * 5 + 3, none⟩ (.int .u64 v)) gt (th.set k { x with hi := v }) := h.setj hk 3 (by omega) (fun x => { x with hi := v }) _ (fun _ => rfl)
theorem ThR.se {W : World} {gt : Nat} {th : List Th} (h : ThR W gt th) {k : Nat} {x : Th} (hk : th[k]? = some x) (v : Bool) : ThR (W.setCell ⟨gt, k * 5 + 4, none⟩ (.bool v)) gt (th.set k { x with se := v }) := h.setj hk 4 (by omega) (fun x => { x with se := v }) _ (fun _ => rfl)
theorem set_at {α : Type} {l : List α} {k : Nat} {x : α} (h : l[k]? = some x) (y : α) : (l.set k y)[k]? = some y := by
  rw [List.getElem?_set_self (List.getElem?_eq_some_iff.1 h).1]
theorem ThR.lt {W : World} {gt : Nat} {th : List Th} (h : ThR W gt th) {k : Nat} {x : Th} (_hk : th[k]? = some x) : gt < W.heap.size := h.inn
theorem ThR.cells {W : World} {gt : Nat} {th : List Th} (h : ThR W gt th) {k : Nat} {x : Th} (hk : th[k]? = some x) :
    W.cell? ⟨gt, k * 5, none⟩ = some (.bool x.op) ∧ W.cell? ⟨gt, k * 5 + 1, none⟩ = some (.bool x.mo) ∧ W.cell? ⟨gt, k * 5 + 2, none⟩ = some (.int .u64 x.lo) ∧ W.cell? ⟨gt, k * 5 + 3, none⟩ = some (.int .u64 x.hi) ∧ W.cell? ⟨gt, k * 5 + 4, none⟩ = some (.bool x.se) := by
  obtain ⟨p, _⟩ := List.getElem?_eq_some_iff.1 hk
  obtain ⟨c, h⟩ := h
  obtain ⟨g0, g1, g2, g3, g4⟩ := tcells_get th k x hk
  have hl := tcells_len th
  exact ⟨(World.ownsRow.cellAt h _ (by omega)).trans g0, (World.ownsRow.cellAt h _ (by omega)).trans g1, (World.ownsRow.cellAt h _ (by omega)).trans g2, (World.ownsRow.cellAt h _ (by omega)).trans g3, (World.ownsRow.cellAt h _ (by omega)).trans g4⟩
theorem ThR.chg {W W' : World} {gt : Nat} {th : List Th} {X : List Nat} (h : ThR W gt th) (hc : Chg X W W') (hx : gt ∉ X) : ThR W' gt th := by
  obtain ⟨c, h⟩ := h; exact ⟨c, own_chg h hc (fun g hg => by cases hg; exact hx)⟩
theorem ThR.nw {W W' : World} {gt : Nat} {th : List Th} (h : ThR W gt th) (hn : Nw W W') : ThR W' gt th := by
  obtain ⟨c, h⟩ := h; exact ⟨c, own_nw h hn⟩
structure Pl where
  gm : Nat
  gt : Nat
  gp : Nat
  v : Value
def Pl.foot (p : Pl) : List Nat := p.gm :: p.gt :: Go.Proofs.YtkikdpdainmlcaaGreat.foot p.gp p.v
theorem Pl.mem {p : Pl} {g : Nat} : g ∈ p.foot ↔ g = p.gm ∨ g = p.gt ∨ g = p.gp ∨ p.v.ownBlock = some g := by
  simp [Pl.foot, mem_foot]
structure Md where
  slots : Int
  l : List (Int × Int)
  th : List Th
structure MAt (W : World) (p : Pl) (s : Md) : Prop where
  m0 : W.cell? ⟨p.gm, 0, none⟩ = some (.int .i64 s.slots)
  m1 : W.cell? ⟨p.gm, 1, none⟩ = some (.pointer (some ⟨p.gp, 0, none⟩))
  m2 : ∃ c, W.cell? ⟨p.gm, 2, none⟩ = some (.slice (some ⟨p.gt, 0, none⟩) s.th.length c)
  mz : ∀ o, W.frozen? ⟨p.gm, o, none⟩ = false
  th : ThR W p.gt s.th
  om : OM W p.gp p.v s.l
  nmt : p.gm ≠ p.gt
  nmp : p.gm ≠ p.gp
  ntp : p.gt ≠ p.gp
  nmv : p.v.ownBlock ≠ some p.gm
  ntv : p.v.ownBlock ≠ some p.gt
theorem MAt.im {W : World} {p : Pl} {s : Md} (h : MAt W p s) : p.gm < W.heap.size := World.block_lt_of_cell? W _ h.m0
theorem MAt.it {W : World} {p : Pl} {s : Md} (h : MAt W p s) : p.gt < W.heap.size := h.th.inn
theorem MAt.lt {W : World} {p : Pl} {s : Md} (h : MAt W p s) {g : Nat} (hg : g ∈ p.foot) : g < W.heap.size := by
  rcases Pl.mem.1 hg with rfl | rfl | rfl | h1
  · exact h.im
  · exact h.it
  · exact h.om.lt
  · exact h.om.rlt h1
theorem MAt.chg {W W' : World} {p : Pl} {s : Md} {X : List Nat} (h : MAt W p s) (hc : Chg X W W') (hx : ∀ g ∈ p.foot, g ∉ X) : MAt W' p s :=
  { h with
    m0 := hc.cell h.m0 (hx _ (Pl.mem.2 (.inl rfl)))
    m1 := hc.cell h.m1 (hx _ (Pl.mem.2 (.inl rfl)))
    m2 := h.m2.imp fun _ e => hc.cell e (hx _ (Pl.mem.2 (.inl rfl)))
    mz := fun o => (hc.frozen h.im (hx _ (Pl.mem.2 (.inl rfl)))).trans (h.mz o)
    th := h.th.chg hc (hx _ (Pl.mem.2 (.inr (.inl rfl))))
    om := h.om.chg hc (hx _ (Pl.mem.2 (.inr (.inr (.inl rfl))))) (fun g hg => hx _ (Pl.mem.2 (.inr (.inr (.inr hg))))) }
theorem MAt.nw {W W' : World} {p : Pl} {s : Md} (h : MAt W p s) (hn : Nw W W') : MAt W' p s := h.chg (Chg.of_nw hn : Chg [] W W') (by simp)
structure MUp (w : World) (p : Pl) (s : Md) (p' : Pl) (w' : World) : Prop where
  at' : MAt w' p' s
  chg : Chg p.foot w w'
  mv : ∀ y ∈ p'.foot, y ∈ p.foot ∨ w.heap.size ≤ y
  gm : p'.gm = p.gm
theorem MUp.same {w w' : World} {p : Pl} {s : Md} (h : MAt w p s) (hn : Nw w w') : MUp w p s p w' := ⟨h.nw hn, Chg.of_nw hn, fun y hy => .inl hy, rfl⟩
theorem MUp.after {w w2 w' : World} {p p' : Pl} {s : Md} (hn : Nw w w2) (h : MUp w2 p s p' w') : MUp w p s p' w' :=
  ⟨h.at', (Chg.of_nw hn).trans h.chg, fun y hy => (h.mv y hy).imp id fun h => Nat.le_trans hn.grown.size h, h.gm⟩
theorem MUp.nw {w w2 w' : World} {p p' : Pl} {s : Md} (h : MUp w p s p' w2) (hn : Nw w2 w') : MUp w p s p' w' :=
  ⟨h.at'.nw hn, h.chg.trans (Chg.of_nw hn), h.mv, h.gm⟩
theorem MUp.trans {w w1 w2 : World} {p p1 p2 : Pl} {s1 s2 : Md} (h : MUp w p s1 p1 w1) (k : MUp w1 p1 s2 p2 w2) : MUp w p s2 p2 w2 := by
  refine ⟨k.at', h.chg.then k.chg h.mv, fun y hy => ?_, k.gm.trans h.gm⟩
  rcases k.mv y hy with h1 | h1
  · exact h.mv y h1
  · exact .inr (Nat.le_trans h.chg.size h1)
theorem MUp.new {w w2 w' : World} {p p' : Pl} {s : Md} {X : List Nat} (h : MUp w p s p' w2) (hc : Chg X w2 w') (hx : ∀ g ∈ X, w.heap.size ≤ g) (hd : ∀ g ∈ p'.foot, g ∉ X) : MUp w p s p' w' :=
  ⟨h.at'.chg hc hd, ⟨hc.os.trans h.chg.os, hc.tape.trans h.chg.tape, hc.output.trans h.chg.output, Nat.le_trans h.chg.size hc.size, fun k hk hk2 => (hc.block k (Nat.lt_of_lt_of_le hk h.chg.size) (fun e => by have := hx k e; omega)).trans (h.chg.block k hk hk2)⟩, h.mv, h.gm⟩
theorem MUp.map {w w' : World} {p : Pl} {s : Md} {l : List (Int × Int)} {v' : Value} (h : MAt w p s) (hu : Upd w p.gp p.v l v' w') : MUp w p { s with l := l } { p with v := v' } w' := by
  have hf : ∀ g, g ∈ foot p.gp p.v → g ∈ p.foot := fun g hg => by simp [Pl.foot, hg]
  have hmf : p.gm ∉ foot p.gp p.v := fun e => by
    rcases mem_foot.1 e with e | e
    · exact h.nmp e
    · exact h.nmv e
  have htf : p.gt ∉ foot p.gp p.v := fun e => by
    rcases mem_foot.1 e with e | e
    · exact h.ntp e
    · exact h.ntv e
  refine ⟨⟨hu.chg.cell h.m0 hmf, hu.chg.cell h.m1 hmf, h.m2.imp (fun _ e => hu.chg.cell e hmf), fun o => (hu.chg.frozen h.im hmf).trans (h.mz o), h.th.chg hu.chg htf, hu.om, h.nmt, h.nmp, h.ntp, ?_, ?_⟩, hu.chg.wide hf, ?_, rfl⟩
  · rcases hu.moved with e | ⟨q, e, hq⟩
    · show v'.ownBlock ≠ _; rw [e]; exact h.nmv
    · show v'.ownBlock ≠ _; rw [e]; intro he; cases he; have := h.im; simp at hq; omega
  · rcases hu.moved with e | ⟨q, e, hq⟩
    · show v'.ownBlock ≠ _; rw [e]; exact h.ntv
    · show v'.ownBlock ≠ _; rw [e]; intro he; cases he; have := h.it; simp at hq; omega
  · intro y hy
    rcases Pl.mem.1 hy with rfl | rfl | rfl | h1
    · exact .inl (Pl.mem.2 (.inl rfl))
    · exact .inl (Pl.mem.2 (.inr (.inl rfl)))
    · exact .inl (Pl.mem.2 (.inr (.inr (.inl rfl))))
    · have h1 : v'.ownBlock = some y := h1
      rcases hu.moved with e | ⟨q, e, hq⟩
      · exact .inl (Pl.mem.2 (.inr (.inr (.inr (e ▸ h1)))))
      · rw [e] at h1; cases h1; exact .inr hq
theorem MUp.ths {w w' : World} {p : Pl} {s : Md} {th' : List Th} (h : MAt w p s) (hl : th'.length = s.th.length) (hr : ThR w' p.gt th') (hc : Chg [p.gt] w w') : MUp w p { s with th := th' } p w' := by
  have hmf : p.gm ∉ [p.gt] := by simpa using h.nmt
  refine ⟨⟨hc.cell h.m0 hmf, hc.cell h.m1 hmf, h.m2.imp (fun c e => by show w'.cell? _ = some (.slice _ th'.length c); rw [hl]; exact hc.cell e hmf), fun o => (hc.frozen h.im hmf).trans (h.mz o), hr, h.om.chg hc (by have := h.ntp; simp; omega) (fun g hg => by have := h.ntv; simp; rintro rfl; exact this hg), h.nmt, h.nmp, h.ntp, h.nmv, h.ntv⟩, hc.wide (fun y hy => by simp at hy; subst hy; exact Pl.mem.2 (.inr (.inl rfl))), fun y hy => .inl hy, rfl⟩
end Go.Proofs.YtkikdpdainmlcaaGreat
