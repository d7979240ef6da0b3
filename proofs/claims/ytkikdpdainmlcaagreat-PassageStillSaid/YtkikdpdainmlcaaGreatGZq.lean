import Derived.Test.YtkikdpdainmlcaaGreatGZp
set_option linter.unusedVariables false
set_option linter.unusedSimpArgs false
set_option linter.unnecessarySimpa false
namespace Go.Proofs.YtkikdpdainmlcaaGreat
open Go.RowKit Go.Xt
/-! Told. -/
theorem prInfo : (Tryz.prog.info? 51).map (fun i => (i.zero, i.size, i.bytes)) = some (some (.agg #[.int .u64 0, .int .u64 0]), 2, 16) := by kernel_rfl
def ToldP (w : World) (r : Int × Mp) (e : Ending) (w' : World) : Prop := ∃ v, e = .returned (.tuple #[v, .int .i64 r.1]) ∧ w'.ownsRow w.heap.size 51 2 v r.2.length (pcells r.2) ∧ Nw w w'
theorem tldL_at {l : List Cl} {L : List Nat} {j q : Nat} {y : Cl} (hj : L[j]? = some q) (hy : l[q]? = some y) : tldL l (L.drop j) = if y.kd = 12 ∧ y.re = 0 then (y.rk, y.rv) :: tldL l (L.drop (j + 1)) else tldL l (L.drop (j + 1)) := by
  obtain ⟨p, e⟩ := List.getElem?_eq_some_iff.1 hj
  rw [List.drop_eq_getElem_cons p, e, tldL, hy]
theorem ofP_idx {l : List Cl} {op : Nat} {x0 : Cl} (hx : l[op]? = some x0) {j q : Nat} (hq : (ofP l op)[j]? = some q) : ∃ y, l[q]? = some y := by
  have hm := List.mem_of_getElem? hq
  rw [ofP_tail hx] at hm
  rcases List.mem_cons.1 hm with rfl | hm
  · exact ⟨x0, hx⟩
  · obtain ⟨h1, y, h2, -⟩ := ofG_mem _ _ _ hm
    rw [List.getElem?_drop, show op + 1 + (q - (op + 1)) = q by omega] at h2
    exact ⟨y, h2⟩
theorem ofP_len (l : List Cl) (op : Nat) : (ofP l op).length ≤ l.length + 1 := by
  unfold ofP
  split
  · have := ofG_len (by assumption : Cl).th (op + 1) (l.drop (op + 1))
    simp at this ⊢; omega
  · simp
set_option maxRecDepth 20000 in
set_option maxHeartbeats 8000000 in
theorem told_any (op : Int) (A : Option Addr) (n c : Nat) (l : List Cl) (w : World) (hn : n ≤ 1000) (hc : n ≤ c) (hcm : c ≤ 9223372036854775807) (hl : Cs w A n l) (hw : ∀ y ∈ l, WfC y) :
    Calls Tryz.prog 13 #[.int .i64 op, .slice A n c] w (ToldP w (pTld op l)) := by
  have HCK := Lib.hid (hcheck_any A n c l w hn hc hcm hl hw)
  have HL := Lib.hid hl
  have HN := Lib.hid hn
  have hlen := hl.1
  obtain ⟨r, hr⟩ : ∃ r, r = pTld op l := ⟨_, rfl⟩
  rw [← hr]
  unfold pTld at hr
  rcases chk_cases l with ⟨h1, h2⟩ | ⟨i, h1, h2⟩
  · rw [h2] at HCK
    rw [if_neg (by rw [h1]; simp)] at hr
    by_cases k0 : op < 0
    · have d0 : decide (op < 0) = true := by simpa using k0
      rw [if_pos k0] at hr
      have HRR := Lib.hid hr
      clear hl hn hc hcm hw h1 h2 hr k0
      go_enter Tryz.func13, Tryz.ntmps13
      go_wp2_with fail
      refine HCK.out.mono ?_
      rintro e W1 ⟨rfl, d1, rfl⟩
      go_wp2
      refine bodyPost_ret (results_tmp2 rfl _ _ _) rfl ?_
      rw [HRR.out]
      exact ⟨_, rfl, World.ownsRow_nil _ _ _ _, nwa⟩
    · have d0 : decide (op < 0) = false := by simpa using k0
      rw [if_neg k0] at hr
      obtain ⟨o, rfl⟩ : ∃ o : Nat, op = (o : Int) := ⟨op.toNat, by omega⟩
      rw [Int.toNat_natCast] at hr
      by_cases k1 : o < n
      · have d1 : decide (n ≤ o) = false := decide_eq_false (by omega)
        obtain ⟨b, ob, x0, rfl, hb, hx0, hcx0⟩ := hl.get k1
        haveI : CallAt w b (ob + o * 18) x0 := ⟨hcx0, hb⟩
        haveI : In b w := ⟨hb⟩
        have i0 : (o : Int) < (n : Int) := by omega
        have i00 : (0 : Int) ≤ (o : Int) := by omega
        rw [hx0] at hr
        simp only at hr
        cases hbb : begB x0 with
        | false =>
          rw [hbb, if_neg (by simp)] at hr
          have HRR := Lib.hid hr
          clear hl hn hc hcm hw h1 h2 hr k0 hx0 hcx0 hb k1
          go_enter Tryz.func13, Tryz.ntmps13
          go_wp2_with fail
          refine HCK.out.mono ?_
          rintro e W1 ⟨rfl, d1, rfl⟩
          go_wp2_with (go_at_call 31; refine (begins_any x0 _).mono ?_; rintro e w' ⟨rfl, dW, rfl⟩)
          refine bodyPost_ret (results_tmp2 rfl _ _ _) rfl ?_
          rw [HRR.out]
          exact ⟨_, rfl, World.ownsRow_nil _ _ _ _, nwa⟩
        | true =>
          rw [hbb, if_pos rfl] at hr
          have HRR := Lib.hid hr
          have HOF := Lib.hid (fun W (hq : Nw w W) => of_any o x0 (some ⟨b, ob, none⟩) n c l W hn hc hcm hx0 (hl.nw hq))
          have HIX := Lib.hid (fun j q (h : (ofP l o)[j]? = some q) => ofP_idx hx0 h)
          have HPL := Lib.hid (ofP_len l o)
          clear hl hn hc hcm hw h1 h2 hr k0 hx0 hcx0 hb k1
          go_enter Tryz.func13, Tryz.ntmps13
          go_wp2_with fail
          refine HCK.out.mono ?_
          rintro e W1 ⟨rfl, dq, rfl⟩
          go_wp2_with (first | (go_at_call 31; refine (begins_any x0 _).mono ?_; rintro e w' ⟨rfl, dW, rfl⟩) | fail)
          refine (HOF.out _ nwa).mono ?_
          rintro e W6 ⟨vo, rfl, hown, hn6⟩
          obtain ⟨nt, hnt⟩ : ∃ q, q = (ofP l o).length := ⟨_, rfl⟩
          obtain ⟨Ao, co, rfl, his, hle, hcmo, hba⟩ := hown.newc (n := nt) (by rw [natI_len, hnt])
          have hnw6 : Nw w W6 := Nw.trans (nwa) hn6
          have hlt6 : ∀ b' o', Ao = some ⟨b', o', none⟩ → b' < W6.heap.size := fun b' o' e => (hown.lt b' (by rw [e]; rfl)).2
          have HIS := Lib.hid (And.intro his (And.intro hlt6 hnw6))
          have HNT := Lib.hid hnt
          have hnt2 : nt ≤ 1001 := by have h1 := HPL.out; have h2 := HL.out.1; have h3 := HN.out; omega
          clear hown hn6 his hba hnt hnw6 hlt6
          go_wp2_with fail
          go_loopw [8, 10, 11, 40] (fun v _ _ a wr => ∃ (k m : Nat) (Av : Option Addr) (cv : Nat), k ≤ nt ∧ a = .int .i64 k ∧ v = .slice Av m cv ∧ Hid (∃ T : Mp, T.length = m ∧ m ≤ k ∧ T ++ tldL l ((ofP l o).drop k) = tldL l (ofP l o) ∧ wr.ownsRow w.heap.size 51 2 (.slice Av m cv) m (pcells T) ∧ Is wr Ao nt (natI (ofP l o)) ∧ ∀ b' o', Ao = some ⟨b', o', none⟩ → b' < wr.heap.size ∧ (Value.slice Av m cv).ownBlock ≠ some b') ∧ Nw w wr) (fun _ _ _ a _ => nt - (intOf a).toNat)
          case atStart => exact ⟨0, 0, _, _, Nat.zero_le _, rfl, rfl, Lib.hid ⟨[], rfl, Nat.le_refl _, rfl, World.ownsRow_nil _ _ _ _, HIS.out.1, fun b' o' e => ⟨HIS.out.2.1 b' o' e, by simp [Value.ownBlock]⟩⟩, HIS.out.2.2⟩
          case round =>
            obtain ⟨k, m, Av, cv, hk, rfl, rfl, HH, d, rfl⟩ := hrel
            by_cases hlt : k < nt
            · obtain ⟨T, hT, hmk, hTL, hrow, hiso, hao⟩ := HH.out
              obtain ⟨b3, o3, z, rfl, hb3, hz, hc3⟩ := hiso.get hlt
              obtain ⟨q, rfl, hq⟩ := natI_get hz
              obtain ⟨y, hy⟩ := HIX.out k q hq
              have hqn : q < n := by rw [← HL.out.1]; exact (List.getElem?_eq_some_iff.1 hy).1
              obtain ⟨b', o', y', e', hb8, hy', hcy⟩ := HL.out.get hqn
              obtain ⟨rfl, rfl⟩ : b = b' ∧ ob = o' := by simpa using e'
              obtain rfl : y = y' := by rw [hy] at hy'; injection hy'
              haveI : CallAt w b (ob + q * 18) y := ⟨hcy, hb8⟩
              haveI : In b3 (w.ext none d) := ⟨hb3⟩
              have e2 : w.cell? ⟨b, ob + q * 18 + 2, none⟩ = some (.int .u8 y.kd) := (AtC.range hcy) 2 _ rfl
              have e13 : w.cell? ⟨b, ob + q * 18 + 13, none⟩ = some (.int .i64 y.re) := (AtC.range hcy) 13 _ rfl
              have e14 : w.cell? ⟨b, ob + q * 18 + 14, none⟩ = some (.bool y.rf) := (AtC.range hcy) 14 _ rfl
              have e15 : w.cell? ⟨b, ob + q * 18 + 15, none⟩ = some (.int .u64 y.rk) := (AtC.range hcy) 15 _ rfl
              have e16 : w.cell? ⟨b, ob + q * 18 + 16, none⟩ = some (.int .u64 y.rv) := (AtC.range hcy) 16 _ rfl
              have e17 : w.cell? ⟨b, ob + q * 18 + 17, none⟩ = some (.int .i64 y.rc) := (AtC.range hcy) 17 _ rfl
              have hst := tldL_at hq hy
              have HST := Lib.hid hst
              have HSV := Lib.hid (And.intro hT (And.intro hmk (And.intro hTL (And.intro hrow (And.intro hiso hao)))))
              have hmk2 := hmk
              have i1 : (k : Int) < (nt : Int) := by omega
              have i2 : (q : Int) < (n : Int) := by omega
              have i3 : k < 1000000 := by omega
              clear hT hmk hTL hrow hiso hao hz hq hy hqn e' hb8 hy' hcy hst HH hb3
              by_cases k12 : y.kd = 12
              · have d2 : (y.kd == 12) = true := by simpa using k12
                by_cases r0 : y.re = 0
                · have d3 : (y.re == 0) = true := by simpa using r0
                  have HTN := Lib.hid (show tldL l ((ofP l o).drop k) = (y.rk, y.rv) :: tldL l ((ofP l o).drop (k + 1)) by rw [HST.out, if_pos ⟨k12, r0⟩])
                  clear k12 r0
                  have HPU := Lib.hid (fun (W : World) (hq : Nw (w.ext none d) W) => own_nw HSV.out.2.2.2.1 hq)
                  go_wp2_with (at_builtin; refine wpList_appC rfl _ _ 47 rfl 51 (.agg #[.int .u64 0, .int .u64 0]) 2 16 Tryz.underlying47 prInfo rfl (by decide) w.heap.size _ (Nw.grown (w := w) nwa).size (.slice Av m cv) m (pcells T) rfl (HPU.out _ nwa) ((w.ext none d).heap.size + 1) 1 1 _ [.int .u64 y.rk, .int .u64 y.rv] rfl (by simp) rfl (by intro u hu; simp at hu; rcases hu with rfl | rfl <;> rfl) (by unfold maxLen; omega) (by omega) ?_; intro v8 W8 hA hcA hmA; obtain ⟨A8, c8, rfl⟩ := own_slice hA; have HA := Lib.hid (And.intro hA (And.intro hcA hmA)); clear hA hcA hmA)
                  obtain ⟨hT, hmk, hTL, hrow, hiso, hao⟩ := HSV.out
                  obtain ⟨hA, hcA, hmA⟩ := HA.out
                  have hnx : Nw (w.ext none d) _ := (Nw.refl (w.ext none d)).alloc (.cells #[.int .i64 y.re, .bool y.rf, .int .u64 y.rk, .int .u64 y.rv, .int .i64 y.rc] 43)
                  refine ⟨⟨k + 1, m + 1, _, _, by omega, by go_num, rfl, Lib.hid ⟨T ++ [(y.rk, y.rv)], by simp [hT], by omega, by rw [← hTL, HTN.out]; simp, by rw [pcells_app]; exact hA, Is.chg (hiso.nw hnx) hcA (fun b' o' e hb' => ?_), fun b' o' e => ⟨?_, fun h => ?_⟩⟩, ?_⟩, by simp [intOf]; omega⟩
                  · rw [Option.mem_toList] at hb'
                    exact (hao b' o' e).2 hb'
                  · exact Nat.lt_of_lt_of_le (Nat.lt_of_lt_of_le (hao b' o' e).1 hnx.grown.size) hcA.size
                  · rcases hmA _ h with h2 | h2
                    · exact (hao b' o' e).2 h2
                    · have h3 := (hao b' o' e).1
                      have h4 := hnx.grown.size
                      omega
                  · exact nw_chg2 ((show Nw w (w.ext none d) from ⟨d, rfl⟩).trans hnx) hcA (fun q hq => by rw [Option.mem_toList] at hq; exact (hrow.lt q hq).1)
                · have d3 : (y.re == 0) = false := by simpa using r0
                  have HTN := Lib.hid (show tldL l ((ofP l o).drop k) = tldL l ((ofP l o).drop (k + 1)) by rw [HST.out, if_neg (fun h => r0 h.2)])
                  clear k12 r0
                  go_wp2_with fail
                  obtain ⟨hT, hmk, hTL, hrow, hiso, hao⟩ := HSV.out
                  have hnx : Nw (w.ext none d) _ := (Nw.refl (w.ext none d)).alloc (.cells #[.int .i64 y.re, .bool y.rf, .int .u64 y.rk, .int .u64 y.rv, .int .i64 y.rc] 43)
                  exact ⟨⟨k + 1, m, _, _, by omega, by go_num, rfl, Lib.hid ⟨T, hT, by omega, by rw [← hTL, HTN.out], own_nw hrow hnx, hiso.nw hnx, fun b' o' e => ⟨Nat.lt_of_lt_of_le (hao b' o' e).1 hnx.grown.size, (hao b' o' e).2⟩⟩, nwa⟩, by simp [intOf]; omega⟩
              · have d2 : (y.kd == 12) = false := by simpa using k12
                have HTN := Lib.hid (show tldL l ((ofP l o).drop k) = tldL l ((ofP l o).drop (k + 1)) by rw [HST.out, if_neg (fun h => k12 h.1)])
                clear k12
                go_wp2_with fail
                obtain ⟨hT, hmk, hTL, hrow, hiso, hao⟩ := HSV.out
                have hnx : Nw (w.ext none d) _ := (Nw.refl (w.ext none d)).alloc (.cells #[.int .i64 y.re, .bool y.rf, .int .u64 y.rk, .int .u64 y.rv, .int .i64 y.rc] 43)
                exact ⟨⟨k + 1, m, _, _, by omega, by go_num, rfl, Lib.hid ⟨T, hT, by omega, by rw [← hTL, HTN.out], own_nw hrow hnx, hiso.nw hnx, fun b' o' e => ⟨Nat.lt_of_lt_of_le (hao b' o' e).1 hnx.grown.size, (hao b' o' e).2⟩⟩, nwa⟩, by simp [intOf]; omega⟩
            · have hkn : k = nt := by omega
              obtain ⟨T, hT, hmk, hTL, hrow, hiso, hao⟩ := HH.out
              rw [List.drop_of_length_le (by rw [hkn, HNT.out]; exact Nat.le_refl _)] at hTL
              have hfin : T = tldL l (ofP l o) := by rw [← hTL]; simp [tldL]
              have HF := Lib.hid (And.intro hT (And.intro hfin hrow))
              have i1 : ¬ (k : Int) < (nt : Int) := by omega
              clear hkn hT hmk hTL hrow hiso hao hfin HH
              go_wp2
              refine bodyPost_ret (results_tmp2 rfl _ _ _) rfl ?_
              rw [HRR.out]
              obtain ⟨h1, h2, h3⟩ := HF.out
              exact ⟨_, rfl, by rw [← h2, h1]; exact h3, nwa⟩
      · have d1 : decide (n ≤ o) = true := decide_eq_true (by omega)
        have HD1 := Lib.hid d1
        rw [List.getElem?_eq_none (by omega)] at hr
        simp only at hr
        have HRR := Lib.hid hr
        clear hl hn hc hcm hw h1 h2 hr k0 k1
        go_enter Tryz.func13, Tryz.ntmps13
        go_wp2_with fail
        refine HCK.out.mono ?_
        rintro e W1 ⟨rfl, dq, rfl⟩
        go_wp2
        refine bodyPost_ret (results_tmp2 rfl _ _ _) rfl ?_
        rw [HRR.out]
        exact ⟨_, rfl, World.ownsRow_nil _ _ _ _, nwa⟩
  · rw [h2] at HCK
    rw [if_pos (by rw [h1]; simp)] at hr
    have HRR := Lib.hid hr
    clear hl hn hc hcm hw h1 h2 hr
    go_enter Tryz.func13, Tryz.ntmps13
    go_wp2_with fail
    refine HCK.out.mono ?_
    rintro e W1 ⟨rfl, d1, rfl⟩
    go_wp2
    refine bodyPost_ret (results_tmp2 rfl _ _ _) rfl ?_
    rw [HRR.out]
    exact ⟨_, rfl, World.ownsRow_nil _ _ _ _, nwa⟩
end Go.Proofs.YtkikdpdainmlcaaGreat
