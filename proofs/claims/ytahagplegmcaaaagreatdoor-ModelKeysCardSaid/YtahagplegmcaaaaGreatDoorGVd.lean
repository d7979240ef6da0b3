import Derived.Test.YtahagplegmcaaaaGreatDoorGVc
import Derived.Test.YtahagplegmcaaaaGreatDoorGPm
set_option linter.unusedVariables false
set_option linter.unusedSimpArgs false
set_option linter.unnecessarySimpa false
namespace Go.Proofs.YtahagplegmcaaaaGreatDoor
open Go.RowKit Go.Xt
/-! The reference's map: Put, PutIfAbsent, Delete, CompareAndSwap, DeleteRange. -/
theorem out_del (k : Int) : ∀ {l : List (Int × Int)}, asc l → outR k k l = delL k l
  | [], _ => rfl
  | y :: r, h => by
    have h2 := List.pairwise_cons.1 h
    rw [delL]
    by_cases h1 : y.1 < k
    · rw [if_pos h1, ← out_del k h2.2, outR, List.filter_cons_of_pos (by simp; omega)]; rfl
    · rw [if_neg h1]
      have hab := none_above (k := k) (l := r) (fun z hz => by have := h2.1 z hz; omega) k
      by_cases h3 : y.1 = k
      · rw [if_pos h3, outR, List.filter_cons_of_neg (by simp; omega)]; exact hab.2
      · rw [if_neg h3, outR, List.filter_cons_of_pos (by simp; omega)]
        have e : List.filter (fun x : Int × Int => !(decide (k ≤ x.1) && decide (x.1 ≤ k))) r = r := hab.2
        rw [e]
set_option maxRecDepth 20000 in
set_option maxHeartbeats 4000000 in
theorem rput_om {w : World} {gp : Nat} {v : Value} {l : List (Int × Int)} (h : OM w gp v l) (hn : l.length ≤ 1000000) (k x : Int) :
    Calls Tryz.prog 23 #[.pointer (some ⟨gp, 0, none⟩), .int .u64 k, .int .u64 x] w fun e w' => e = .returned (.tuple #[.int .u64 (valL k l), .bool (hasK k l), .int .i64 0]) ∧ ∃ v', RUpd w gp v (putL k x l) v' w' := by
  haveI : In gp w := ⟨h.lt⟩
  have HF := Lib.hid (rget_om h hn k)
  have HS := Lib.hid (fun W (hw : Nw w W) => rset_om (h.nw hw) hn k x)
  obtain ⟨y, hy⟩ : ∃ y, y = valL k l := ⟨_, rfl⟩
  obtain ⟨b, hb⟩ : ∃ b, b = hasK k l := ⟨_, rfl⟩
  rw [← hy, ← hb] at HF ⊢
  clear h hy hb
  go_enter Tryz.func23, Tryz.ntmps23
  go_wp2_with fail
  refine HF.out.mono ?_
  rintro e W2 ⟨rfl, hn2⟩
  have HN := Lib.hid hn2
  clear hn2
  go_wp2_with fail
  refine (HS.out W2 HN.out).mono ?_
  rintro e W3 ⟨rfl, hu⟩
  have HU := Lib.hid hu
  clear hu
  go_wp2
  obtain ⟨v', hu⟩ := HU.out
  refine bodyPost_ret (v := .tuple #[.int .u64 y, .bool b, .int .i64 0]) ?_ rfl ⟨rfl, v', hu.after HN.out⟩
  simp [results, Tryz.results23, go_sem]
set_option maxRecDepth 20000 in
set_option maxHeartbeats 4000000 in
theorem radd_om {w : World} {gp : Nat} {v : Value} {l : List (Int × Int)} (h : OM w gp v l) (hn : l.length ≤ 1000000) (k x : Int) :
    Calls Tryz.prog 24 #[.pointer (some ⟨gp, 0, none⟩), .int .u64 k, .int .u64 x] w fun e w' => e = .returned (.tuple #[.int .u64 (valL k l), .bool (hasK k l), .int .i64 0]) ∧ ∃ v', RUpd w gp v (addL k x l) v' w' := by
  haveI : In gp w := ⟨h.lt⟩
  have HF := Lib.hid (rget_om h hn k)
  have HS := Lib.hid (fun W (hw : Nw w W) => rset_om (h.nw hw) hn k x)
  have HH := Lib.hid h
  obtain ⟨y, hy⟩ : ∃ y, y = valL k l := ⟨_, rfl⟩
  rw [← hy] at HF ⊢
  unfold addL
  cases hb : hasK k l with
  | true =>
    rw [hb] at HF
    clear h hy hb
    go_enter Tryz.func24, Tryz.ntmps24
    go_wp2_with fail
    refine HF.out.mono ?_
    rintro e W2 ⟨rfl, hn2⟩
    have HN := Lib.hid hn2
    clear hn2
    go_wp2
    refine bodyPost_ret (v := .tuple #[.int .u64 y, .bool true, .int .i64 0]) ?_ rfl ⟨rfl, _, RUpd.same HH.out HN.out⟩
    simp [results, Tryz.results24, go_sem]
  | false =>
    rw [hb] at HF
    clear h hy hb
    go_enter Tryz.func24, Tryz.ntmps24
    go_wp2_with fail
    refine HF.out.mono ?_
    rintro e W2 ⟨rfl, hn2⟩
    have HN := Lib.hid hn2
    clear hn2
    go_wp2_with fail
    refine (HS.out W2 HN.out).mono ?_
    rintro e W3 ⟨rfl, hu⟩
    have HU := Lib.hid hu
    clear hu
    go_wp2
    obtain ⟨v', hu⟩ := HU.out
    refine bodyPost_ret (v := .tuple #[.int .u64 y, .bool false, .int .i64 0]) ?_ rfl ⟨rfl, v', hu.after HN.out⟩
    simp [results, Tryz.results24, go_sem]
set_option maxRecDepth 20000 in
set_option maxHeartbeats 4000000 in
theorem rdel_om {w : World} {gp : Nat} {v : Value} {l : List (Int × Int)} (h : OM w gp v l) (hn : l.length ≤ 1000000) (k : Int) :
    Calls Tryz.prog 25 #[.pointer (some ⟨gp, 0, none⟩), .int .u64 k] w fun e w' => e = .returned (.tuple #[.int .u64 (valL k l), .bool (hasK k l), .int .i64 0]) ∧ ∃ v', RUpd w gp v (delL k l) v' w' := by
  haveI : In gp w := ⟨h.lt⟩
  have HF := Lib.hid (rget_om h hn k)
  have HS := Lib.hid (fun W (hw : Nw w W) => rcut_om (h.nw hw) hn k k)
  unfold spV at HS
  have HD := Lib.hid (out_del k h.asc)
  obtain ⟨y, hy⟩ : ∃ y, y = valL k l := ⟨_, rfl⟩
  obtain ⟨b, hb⟩ : ∃ b, b = hasK k l := ⟨_, rfl⟩
  rw [← hy, ← hb] at HF ⊢
  clear h hy hb
  go_enter Tryz.func25, Tryz.ntmps25
  go_wp2_with fail
  refine HF.out.mono ?_
  rintro e W2 ⟨rfl, hn2⟩
  have HN := Lib.hid hn2
  clear hn2
  go_wp2_with fail
  refine (HS.out W2 HN.out).mono ?_
  rintro e W3 ⟨A, c, v', rfl, -, hu, -⟩
  have HU := Lib.hid hu
  clear hu
  go_wp2
  refine bodyPost_ret (v := .tuple #[.int .u64 y, .bool b, .int .i64 0]) ?_ rfl ⟨rfl, v', by rw [← HD.out]; exact HU.out.after HN.out⟩
  simp [results, Tryz.results25, go_sem]
set_option maxRecDepth 20000 in
set_option maxHeartbeats 4000000 in
theorem rcas_om {w : World} {gp : Nat} {v : Value} {l : List (Int × Int)} (h : OM w gp v l) (hn : l.length ≤ 1000000) (k o x : Int) :
    Calls Tryz.prog 26 #[.pointer (some ⟨gp, 0, none⟩), .int .u64 k, .int .u64 o, .int .u64 x] w fun e w' => e = .returned (.tuple #[.int .u64 (valL k l), .bool (hasK k l), .bool (casB k o l), .int .i64 0]) ∧ ∃ v', RUpd w gp v (casL k o x l) v' w' := by
  haveI : In gp w := ⟨h.lt⟩
  have HF := Lib.hid (rget_om h hn k)
  have HS := Lib.hid (fun W (hw : Nw w W) => rset_om (h.nw hw) hn k x)
  have HH := Lib.hid h
  have hcb : casB k o l = (hasK k l && decide (valL k l = o)) := rfl
  obtain ⟨y, hy⟩ : ∃ y, y = valL k l := ⟨_, rfl⟩
  rw [← hy] at HF hcb ⊢
  unfold casL
  cases hb : hasK k l with
  | false =>
    have hc : casB k o l = false := by rw [hcb, hb]; rfl
    rw [hb] at HF
    rw [hc]
    clear h hy hb hc hcb
    go_enter Tryz.func26, Tryz.ntmps26
    go_wp2_with fail
    refine HF.out.mono ?_
    rintro e W2 ⟨rfl, hn2⟩
    have HN := Lib.hid hn2
    clear hn2
    go_wp2
    refine bodyPost_ret (v := .tuple #[.int .u64 y, .bool false, .bool false, .int .i64 0]) ?_ rfl ⟨rfl, _, RUpd.same HH.out HN.out⟩
    simp [results, Tryz.results26, go_sem]
  | true =>
    rw [hb] at HF
    by_cases hyo : y = o
    · have hc : casB k o l = true := by rw [hcb, hb, decide_eq_true hyo]; rfl
      have d1 : (y != o) = false := by simpa using hyo
      rw [hc]
      clear h hy hb hc hcb hyo
      go_enter Tryz.func26, Tryz.ntmps26
      go_wp2_with fail
      refine HF.out.mono ?_
      rintro e W2 ⟨rfl, hn2⟩
      have HN := Lib.hid hn2
      clear hn2
      go_wp2_with fail
      refine (HS.out W2 HN.out).mono ?_
      rintro e W3 ⟨rfl, hu⟩
      have HU := Lib.hid hu
      clear hu
      go_wp2
      obtain ⟨v', hu⟩ := HU.out
      refine bodyPost_ret (v := .tuple #[.int .u64 y, .bool true, .bool true, .int .i64 0]) ?_ rfl ⟨rfl, v', hu.after HN.out⟩
      simp [results, Tryz.results26, go_sem]
    · have hc : casB k o l = false := by rw [hcb, hb, decide_eq_false hyo]; rfl
      have d1 : (y != o) = true := by simpa using hyo
      rw [hc]
      clear h hy hb hc hcb hyo
      go_enter Tryz.func26, Tryz.ntmps26
      go_wp2_with fail
      refine HF.out.mono ?_
      rintro e W2 ⟨rfl, hn2⟩
      have HN := Lib.hid hn2
      clear hn2
      go_wp2
      refine bodyPost_ret (v := .tuple #[.int .u64 y, .bool true, .bool false, .int .i64 0]) ?_ rfl ⟨rfl, _, RUpd.same HH.out HN.out⟩
      simp [results, Tryz.results26, go_sem]
set_option maxRecDepth 20000 in
set_option maxHeartbeats 4000000 in
theorem rdelr_om {w : World} {gp : Nat} {v : Value} {l : List (Int × Int)} (h : OM w gp v l) (hn : l.length ≤ 1000000) (lo hi : Int) (hlh : lo ≤ hi) :
    Calls Tryz.prog 28 #[.pointer (some ⟨gp, 0, none⟩), spV lo hi] w fun e w' => e = .returned (.tuple #[.int .i64 (inR lo hi l).length, .int .i64 0]) ∧ ∃ v', RUpd w gp v (outR lo hi l) v' w' := by
  haveI : In gp w := ⟨h.lt⟩
  have HS := Lib.hid (fun W (hw : Nw w W) => rcut_om (h.nw hw) hn lo hi)
  unfold spV at HS ⊢
  have d1 : decide (hi < lo) = false := by simp; omega
  have HL := Lib.hid hlh
  clear h hlh
  go_enter Tryz.func28, Tryz.ntmps28
  go_wp2_with fail
  have hA : Nw w (w.alloc (.cells #[.int .u64 lo, .int .u64 hi] 71)) := (Nw.refl _).alloc _
  refine (HS.out _ hA).mono ?_
  rintro e W3 ⟨A, c, v', rfl, -, hu, -⟩
  have HU := Lib.hid hu
  have HA := Lib.hid hA
  obtain ⟨m, hm⟩ : ∃ m, m = (inR lo hi l).length := ⟨_, rfl⟩
  rw [← hm]
  have HM := Lib.hid hm
  clear hu hA hm
  go_wp2
  refine bodyPost_ret (v := .tuple #[.int .i64 m, .int .i64 0]) ?_ rfl ⟨by rw [HM.out], v', HU.out.after HA.out⟩
  simp [results, Tryz.results28, go_sem]
end Go.Proofs.YtahagplegmcaaaaGreatDoor
namespace Go.Proofs.YtahagplegmcaaaaGreatDoor
open Go.RowKit Go.Xt
/-! The reference's map: Move, Copy, Range, Next; Same. -/
theorem nw_chg3 {w W W' : World} {X : List Nat} (h : Nw w W) (hc : Chg X W W') (hx : ∀ k ∈ X, w.heap.size ≤ k) : Nw w W' :=
  .of ⟨hc.os.trans h.grown.os, hc.tape.trans h.grown.tape, hc.output.trans h.grown.output, Nat.le_trans h.grown.size hc.size, fun k hk _ => (hc.block k (Nat.lt_of_lt_of_le hk h.grown.size) (fun e => by have := hx k e; omega)).trans (h.grown.block k hk (by simp))⟩
theorem own_slice {w : World} {base : Nat} {e : TypeId} {size : Nat} {v : Value} {n : Nat} {xs : List Value} (h : w.ownsRow base e size v n xs) : ∃ A c, v = .slice A n c := by
  rcases own_forms h with ⟨h1, h2⟩ | ⟨g, c, h1, _⟩
  · exact ⟨none, 0, by rw [h1, h2]⟩
  · exact ⟨_, c, h1⟩
set_option maxRecDepth 20000 in
set_option maxHeartbeats 8000000 in
theorem rmove_om {w : World} {gp : Nat} {v : Value} {l : List (Int × Int)} (h : OM w gp v l) (hn : l.length ≤ 400000) (lo hi b : Int) (hlh : lo ≤ hi) (h0 : 0 ≤ lo) (hb0 : 0 < b) (hb : b + hi ≤ 18446744073709551615) :
    Calls Tryz.prog 27 #[.pointer (some ⟨gp, 0, none⟩), spV lo hi, .int .u64 b] w fun e w' => e = .returned (.tuple #[.int .i64 (inR lo hi l).length, .int .i64 0]) ∧ ∃ v', RUpd w gp v (moveL lo hi b l) v' w' := by
  haveI : In gp w := ⟨h.lt⟩
  have HS := Lib.hid (fun W (hw : Nw w W) => rcut_om (h.nw hw) (by omega) lo hi)
  unfold spV at HS ⊢
  have d1 : decide (hi < lo) = false := by simp; omega
  have d2 : (b == 0) = false := by simp; omega
  have d3 : decide (18446744073709551615 - hi < b) = false := by simp; omega
  have e1 : 0 ≤ hi := by omega
  have e2 : hi ≤ 18446744073709551615 := by omega
  have hm1 : (inR lo hi l).length ≤ l.length := List.length_filter_le _ _
  have hm2 : (outR lo hi l).length ≤ l.length := List.length_filter_le _ _
  have HM1 := Lib.hid (Nat.le_trans hm1 hn)
  have HM2 := Lib.hid (Nat.le_trans hm2 hn)
  have HBB := Lib.hid (show 0 ≤ lo ∧ 0 < b ∧ b + hi ≤ 18446744073709551615 from ⟨h0, hb0, hb⟩)
  have HLT := Lib.hid h.lt
  clear h hlh h0 hb0 hb hm1 hm2 hn
  go_enter Tryz.func27, Tryz.ntmps27
  go_wp2_with fail
  have hA : Nw w (w.alloc (.cells #[.int .u64 lo, .int .u64 hi] 71)) := (Nw.refl _).alloc _
  refine (HS.out _ hA).mono ?_
  rintro e W3 ⟨A, c, v1, rfl, hrow, hu, hdis⟩
  have HLM := Lib.hid (rfl : inR lo hi l = inR lo hi l)
  obtain ⟨R, hR⟩ : ∃ R, R = inR lo hi l := ⟨_, rfl⟩
  rw [← hR] at hrow hdis HM1 ⊢
  have HRM := Lib.hid (fun p (hp : p ∈ R) => show lo ≤ p.1 ∧ p.1 ≤ hi by
    rw [hR] at hp
    simpa using (List.mem_filter.1 hp).2)
  have HRR := Lib.hid hR
  obtain ⟨m, hm⟩ : ∃ m, m = R.length := ⟨_, rfl⟩
  rw [← hm] at hrow hdis HM1 ⊢
  have HM := Lib.hid hm
  have hszA : w.heap.size ≤ (w.alloc (.cells #[.int .u64 lo, .int .u64 hi] 71)).heap.size := hA.grown.size
  have HST := Lib.hid (show RUpd w gp v (mvL b (R.take 0) (outR lo hi l)) v1 W3 ∧ W3.ownsRow w.heap.size 106 2 (.slice A m c) m (pcells R) ∧ ∀ g, (Value.slice A m c).ownBlock = some g → v1.ownBlock ≠ some g from ⟨hu.after hA, own_le hrow hszA, hdis⟩)
  clear hu hA hm hR hrow hdis hszA HLM
  go_wp2_with fail
  go_loopw [9] (fun a wr => ∃ i : Nat, i ≤ m ∧ a = .int .i64 i ∧ Hid (∃ v', RUpd w gp v (mvL b (R.take i) (outR lo hi l)) v' wr ∧ wr.ownsRow w.heap.size 106 2 (.slice A m c) m (pcells R) ∧ ∀ g, (Value.slice A m c).ownBlock = some g → v'.ownBlock ≠ some g)) (fun a _ => m - (intOf a).toNat)
  case atStart => exact ⟨0, Nat.zero_le _, rfl, Lib.hid ⟨_, HST.out⟩⟩
  case round =>
    clear HST
    obtain ⟨i, hi', rfl, HC⟩ := hrel
    have i0 : (0 : Int) ≤ (i : Int) := by omega
    by_cases him : i < m
    · have i1 : (i : Int) < (m : Int) := by omega
      have i2 : i < 1000000 := by have := HM1.out; omega
      obtain ⟨v2, hu, hrow, hdis⟩ := HC.out
      obtain ⟨⟨yk, yx⟩, hy⟩ : ∃ z, R[i]? = some z := ⟨_, List.getElem?_eq_getElem (by have := HM.out; omega)⟩
      obtain ⟨g, rfl, hgw, hgl⟩ : ∃ g, A = some ⟨g, 0, none⟩ ∧ w.heap.size ≤ g ∧ g < wr.heap.size := by
        rcases own_forms hrow with ⟨h1, h2⟩ | ⟨g, cap, h1, h2, h3, _⟩
        · omega
        · injection h1 with h1 _ _; exact ⟨g, h1, h2, h3.lt⟩
      have y0 : wr.cell? ⟨g, i * 2, none⟩ = some (.int .u64 yk) := (hrow.cellAt _ (by omega)).trans (pcells_get R i _ hy).1
      have y1 : wr.cell? ⟨g, i * 2 + 1, none⟩ = some (.int .u64 yx) := (hrow.cellAt _ (by omega)).trans (pcells_get R i _ hy).2
      have hyr := HRM.out _ (List.mem_of_getElem? hy)
      simp only at hyr
      have hwr : IntKind.u64.wrap (yk + b) = yk + b := by
        have := HBB.out
        rw [IntKind.wrap_u64]; omega
      haveI : In gp wr := ⟨hu.om.lt⟩
      haveI : In g wr := ⟨hgl⟩
      have hlen : (mvL b (R.take i) (outR lo hi l)).length ≤ 1000000 := by
        have h1 := mvL_len b (R.take i) (outR lo hi l)
        have h2 := List.length_take_le i R
        have h3 := HM2.out
        have h4 := HM1.out
        omega
      have HU := Lib.hid hu
      have HRW := Lib.hid hrow
      have HDS := Lib.hid hdis
      have HGW := Lib.hid (show w.heap.size ≤ g ∧ g < wr.heap.size from ⟨hgw, hgl⟩)
      have HY := Lib.hid hy
      have HIM := Lib.hid him
      have HSE := Lib.hid (fun W (hW : Nw wr W) => rset_om (hu.om.nw hW) hlen (yk + b) yx)
      clear HC hu hrow hdis hgw hgl hy him hi' hyr hlen
      go_upto_region 11 with (fail)
      go_region_held3 (fun w' => w'.cell? ⟨g, i * 2, none⟩ = some (.int .u64 yk) ∧ w'.cell? ⟨g, i * 2 + 1, none⟩ = some (.int .u64 yx)) (first | exact ⟨y0, y1⟩ | exact ⟨hcc.1, hcc.2⟩)
        ((first | (go_at_call 66; refine (HSE.out _ ((Nw.refl _).drew)).mono ?_; rintro r W5 ⟨rfl, v3, hu5⟩; have hu3 := RUpd.after ((Nw.refl wr).drew) hu5; have hgf : g ∉ foot gp v2 := (fun hx => (mem_foot.1 hx).elim (fun e => by have := HGW.out; have := HLT.out; omega) (fun e => HDS.out g rfl e)); have hcc := (⟨hu3.chg.cell y0 hgf, hu3.chg.cell y1 hgf⟩ : W5.cell? ⟨g, i * 2, none⟩ = some (.int .u64 yk) ∧ W5.cell? ⟨g, i * 2 + 1, none⟩ = some (.int .u64 yx)))))
      have HN := Lib.hid (show ∃ v', RUpd w gp v (mvL b (R.take (i + 1)) (outR lo hi l)) v' W5 ∧ W5.ownsRow w.heap.size 106 2 (.slice (some ⟨g, 0, none⟩) m c) m (pcells R) ∧ ∀ g', (Value.slice (some ⟨g, 0, none⟩) m c).ownBlock = some g' → v'.ownBlock ≠ some g' by
        refine ⟨v3, ?_, own_chg HRW.out hu3.chg (fun g' hg' => by cases hg'; exact hgf), fun g' hg' e => ?_⟩
        · obtain ⟨p, e⟩ := List.getElem?_eq_some_iff.1 HY.out
          rw [List.take_succ_eq_append_getElem p, e, mvL_snoc]
          exact HU.out.trans hu3
        · cases hg'
          rcases hu3.mv g e with e2 | e2
          · exact HDS.out g rfl e2
          · have := HGW.out.2; omega)
      clear hu3 hu5 hgf hcc
      go_wp2
      exact ⟨⟨i + 1, by have := HIM.out; omega, by go_num, HN⟩, by have := HIM.out; simp [intOf]; omega⟩
    · have i1 : ¬ (i : Int) < (m : Int) := by omega
      obtain rfl : i = m := by omega
      have hfin := HC.out
      rw [List.take_of_length_le (by have := HM.out; omega), HRR.out] at hfin
      have HF := Lib.hid hfin
      clear HC hfin
      go_wp2
      obtain ⟨v2, hu, -, -⟩ := HF.out
      refine bodyPost_ret (v := .tuple #[.int .i64 i, .int .i64 0]) ?_ rfl ⟨by rw [HM.out, HRR.out], v2, hu⟩
      simp [results, Tryz.results27, go_sem]
set_option maxRecDepth 20000 in
set_option maxHeartbeats 4000000 in
theorem rcopy_om {w : World} {gp : Nat} {v : Value} {l : List (Int × Int)} (h : OM w gp v l) (hn : l.length ≤ 1000000) :
    Calls Tryz.prog 108 #[.pointer (some ⟨gp, 0, none⟩)] w fun e w' => ∃ gq, e = .returned (.pointer (some ⟨gq, 0, none⟩)) ∧ w.heap.size ≤ gq ∧ (∃ v', OM w' gq v' l ∧ ∀ b, v'.ownBlock = some b → w.heap.size ≤ b) ∧ Nw w w' := by
  have p0 := h.p0
  haveI : In gp w := ⟨h.lt⟩
  have HASC := Lib.hid h.asc
  have fin : ∀ (W : World) (v' : Value), W.ownsRow w.heap.size 106 2 v' l.length (pcells l) → Nw w W → w.heap.size ≤ W.heap.size ∧ (∃ v'', OM (W.alloc (.cells #[v'] 64)) W.heap.size v'' l ∧ ∀ b, v''.ownBlock = some b → w.heap.size ≤ b) ∧ Nw w (W.alloc (.cells #[v'] 64)) := fun W v' ho hw =>
    ⟨hw.grown.size, ⟨v', ⟨by simp [go_sem], own_le (own_nw ho ((Nw.refl W).alloc _)) (Nat.zero_le _), fun e => by have := (ho.lt _ e).2; omega, by simp [go_sem], HASC.out⟩, fun b hb => (ho.lt b hb).1⟩, hw.alloc _⟩
  have FIN := Lib.hid fin
  obtain ⟨A, c, rfl, hr⟩ := om_rd h
  have HR := Lib.hid hr
  obtain ⟨n, hne⟩ : ∃ n, n = l.length := ⟨_, rfl⟩
  rw [← hne] at p0 HR hn FIN
  have HN := Lib.hid hn
  clear h fin hr hne
  go_enter Tryz.func108, Tryz.ntmps108
  go_wp2_with (at_builtin; refine wpList_appS rfl _ _ 62 rfl 106 (.agg #[.int .u64 0, .int .u64 0]) 2 16 Tryz.underlying62 pairInfo rfl (by decide) w _ ((Nw.refl w).alloc _) _ 0 [] rfl (World.ownsRow_made _ _ _ (Nat.le_refl _) (by unfold maxLen; omega) rfl) _ n c (pcells l) rfl (HR.out.nw ((Nw.refl w).alloc _)) (pcells_one l) (by unfold maxLen; omega) (by omega) ?_; intro vA dA hownA hnil; obtain ⟨A2, c2, rfl⟩ := own_slice hownA)
  have hown : (w.ext none dA).ownsRow w.heap.size 106 2 (.slice A2 n c2) n (pcells l) := by simpa using hownA
  exact bodyPost_ret (results_tmp rfl _ _ _) rfl ⟨_, rfl, FIN.out _ _ hown ⟨_, rfl⟩⟩
/-- A slice of pairs and no error, in new memory. -/
def RangeP (w : World) (base : Nat) (l : List (Int × Int)) (e : Ending) (w' : World) : Prop :=
  ∃ A c, e = .returned (.tuple #[.slice A l.length c, .int .i64 0]) ∧ w'.ownsRow base 106 2 (.slice A l.length c) l.length (pcells l) ∧ Nw w w'
set_option maxRecDepth 20000 in
set_option maxHeartbeats 4000000 in
theorem rrange_om {w : World} {gp : Nat} {v : Value} {l : List (Int × Int)} (h : OM w gp v l) (hn : l.length ≤ 1000000) (lo hi : Int) (hlh : lo ≤ hi) :
    Calls Tryz.prog 96 #[.pointer (some ⟨gp, 0, none⟩), spV lo hi] w (RangeP w w.heap.size (inR lo hi l)) := by
  haveI : In gp w := ⟨h.lt⟩
  have HC := Lib.hid (fun W (hw : Nw w W) => rcopy_om (h.nw hw) hn)
  have d1 : decide (hi < lo) = false := by simp; omega
  unfold spV
  have HN := Lib.hid hn
  clear h hlh hn
  obtain ⟨wA, hwA⟩ : ∃ W, W = w.alloc (.cells #[.int .u64 lo, .int .u64 hi] 71) := ⟨_, rfl⟩
  obtain ⟨q, hq⟩ : ∃ q, q = w.heap.size := ⟨_, rfl⟩
  have hA : Nw w wA := by rw [hwA]; exact (Nw.refl _).alloc _
  have b0 : wA.cell? ⟨q, 0, none⟩ = some (.int .u64 lo) := by rw [hwA, hq]; simp [go_sem]
  have b1 : wA.cell? ⟨q, 1, none⟩ = some (.int .u64 hi) := by rw [hwA, hq]; simp [go_sem]
  have HWA := Lib.hid hwA
  have HQ := Lib.hid hq
  have HA := Lib.hid hA
  clear hwA hq hA
  go_enter Tryz.func96, Tryz.ntmps96
  go_wp2_with fail
  rw [← HWA.out, ← HQ.out]
  refine (HC.out _ HA.out).mono ?_
  rintro e W2 ⟨gq, rfl, hgq, ⟨v', hom, hvb⟩, hn2⟩
  have c0 := cell_nw b0 hn2
  have c1 := cell_nw b1 hn2
  haveI : In q W2 := ⟨World.block_lt_of_cell? _ _ c0⟩
  have HU := Lib.hid (rcut_om hom HN.out lo hi)
  unfold spV at HU
  have H2 := Lib.hid (⟨hgq, hvb, HA.out.trans hn2⟩ : wA.heap.size ≤ gq ∧ (∀ b, v'.ownBlock = some b → wA.heap.size ≤ b) ∧ Nw w W2)
  clear hgq hom hvb hn2
  go_wp2_with fail
  refine HU.out.mono ?_
  rintro e W3 ⟨A, c, v3, rfl, hrow, hu, -⟩
  have hsz := HA.out.grown.size
  have hnw : Nw w W3 := nw_chg3 H2.out.2.2 hu.chg (fun k hk => by
    rcases mem_foot.1 hk with rfl | hk
    · exact Nat.le_trans hsz H2.out.1
    · exact Nat.le_trans hsz (H2.out.2.1 k hk))
  have HR := Lib.hid (own_le hrow H2.out.2.2.grown.size)
  have HNW := Lib.hid hnw
  obtain ⟨R, hR⟩ : ∃ R, R = inR lo hi l := ⟨_, rfl⟩
  rw [← hR] at HR ⊢
  have HRR := Lib.hid hR
  obtain ⟨m, hm⟩ : ∃ m, m = R.length := ⟨_, rfl⟩
  rw [← hm] at HR ⊢
  have HM := Lib.hid hm
  clear hrow hu hnw hsz hR hm
  go_wp2
  refine bodyPost_ret (v := .tuple #[.slice A m c, .int .i64 0]) ?_ rfl ⟨A, c, ?_, ?_, HNW.out⟩
  · simp [results, Tryz.results96, go_sem]
  · rw [HM.out, HRR.out]
  · rw [← HRR.out, ← HM.out]; exact HR.out
end Go.Proofs.YtahagplegmcaaaaGreatDoor
