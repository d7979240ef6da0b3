import Derived.Test.YtmbjpjpdcmjjgaaGreatDoorGKm
import Derived.Test.YtmbjpjpdcmjjgaaGreatDoorGEz
import Derived.Test.YtmbjpjpdcmjjgaaGreatDoorGFl0
set_option linter.unusedVariables false
set_option linter.unusedSimpArgs false
set_option linter.unnecessarySimpa false
namespace Go.Proofs.YtmbjpjpdcmjjgaaGreatDoor
open Go.RowKit Go.Xt
/-! The examples of the chapter, plain. -/
def exC : Cf := ⟨2, 2, 2, 0, 2, 2, none, 0, 0, 4, 2, 0, 0, 0, 0, 2, 5, 0⟩
def exA : Cl := ⟨0, 0, 1, 0, 0, 0, 0, 0, 0, 0, 0, 0, 1, 0, false, 0, 0, 0⟩
def exB : Cl := ⟨1, 0, 1, 0, 0, 0, 0, 0, 0, 1, 1, 1, 1, 0, false, 0, 0, 0⟩
def exP : Cl := ⟨0, 1, 4, 5, 0, 50, 0, 0, 0, 2, 7, 9, 4, 0, false, 0, 0, 0⟩
def exG (v : Int) : Cl := ⟨1, 1, 3, 5, 0, 0, 0, 0, 0, 3, 8, 8, 4, 0, true, 0, v, 0⟩
def exV (v : Int) : List Cl := [exA, exB, exP, exG v]
def exG0 : Cl := ⟨1, 1, 3, 5, 0, 0, 0, 0, 0, 3, 8, 8, 4, 0, false, 0, 0, 0⟩
def exV0 : List Cl := [exA, exB, exP, exG0]
def exP1 : Cl := ⟨0, 1, 4, 5, 0, 50, 0, 0, 0, 2, -1, -1, 0, 0, false, 0, 0, 0⟩
def exV1 : List Cl := [exA, exB, exP1, exG0]
theorem ex_lin : linsM exC (exV 50) = [[0, 1, 2, 3]] := by decide +kernel
theorem ex_lin0 : linsM exC exV0 = [[0, 1, 3, 2]] := by decide +kernel
theorem ex_lin1 : linsM exC exV1 = [[0, 1, 3], [0, 1, 3, 2]] := by decide +kernel
theorem ex_lin51 : linsM exC (exV 51) = [] := by decide +kernel
theorem ex_beg : begE exC [] (exV 50) = 0 := by decide +kernel
theorem ex_beg0 : begE exC [] exV0 = 0 := by decide +kernel
theorem ex_beg1 : begE exC [] exV1 = 0 := by decide +kernel
theorem ex_beg51 : begE exC [] (exV 51) = 0 := by decide +kernel
theorem ex_find : findO exC [] (exV 50) = some [0, 1, 2, 3] := by rw [findO, if_pos ex_beg, ex_lin]; rfl
theorem ex_find0 : findO exC [] exV0 = some [0, 1, 3, 2] := by rw [findO, if_pos ex_beg0, ex_lin0]; rfl
theorem ex_find1 : findO exC [] exV1 = some [0, 1, 3] := by rw [findO, if_pos ex_beg1, ex_lin1]; rfl
theorem ex_find51 : findO exC [] (exV 51) = none := by rw [findO, if_pos ex_beg51, ex_lin51]; rfl
theorem ex_countE : countE exC [] 100 (exV 50) = 0 := by rw [countE, if_pos ex_beg, if_neg (by decide)]
theorem ex_countE1 : countE exC [] 100 exV1 = 0 := by rw [countE, if_pos ex_beg1, if_neg (by decide)]
theorem ex_count : countN exC [] 100 (exV 50) = 1 := by rw [countN, if_pos ex_countE, ex_lin]; rfl
theorem ex_count1 : countN exC [] 100 exV1 = 2 := by rw [countN, if_pos ex_countE1, ex_lin1]; rfl
theorem ex_valid : validE exC [] [0, 1, 2, 3] (exV 50) = 0 :=
  valid_zero.2 ⟨ex_beg, [0, 1, 2, 3], rfl, lin_mem.1 (by rw [show exts (exV 50) ((exV 50).length + 1) [] (s0M exC) = [[0, 1, 2, 3]] from ex_lin]; exact List.mem_singleton.2 rfl)⟩
theorem ex_not (z : List Nat) (hz : z ≠ [0, 1, 2, 3]) (ha : agrE (natI z) (exV 50) = 0) : validE exC [] (natI z) (exV 50) = 18 := by
  have h0 : validE exC [] (natI z) (exV 50) ≠ 0 := fun h => by
    obtain ⟨-, z', e, h2⟩ := valid_zero.1 h
    have h3 := lin_mem.2 h2
    rw [show exts (exV 50) ((exV 50).length + 1) [] (s0M exC) = [[0, 1, 2, 3]] from ex_lin, List.mem_singleton] at h3
    refine hz ?_
    rw [← toNat_natI z, e, toNat_natI, h3]
  unfold validE at h0 ⊢
  rw [if_pos ex_beg, if_pos ha] at h0 ⊢
  by_cases hc : agrB (natI z) (exV 50) = true ∧ (runM (exV 50) (s0M exC) ((natI z).map Int.toNat)).isSome = true ∧ fullB (exV 50) ((natI z).map Int.toNat) = true
  · rw [if_pos hc] at h0; exact absurd rfl h0
  · rw [if_neg hc]
theorem ex_swap : validE exC [] [0, 1, 3, 2] (exV 50) = 18 := ex_not [0, 1, 3, 2] (by decide) (by decide +kernel)
theorem ex_part : validE exC [] [0, 1, 2] (exV 50) = 18 := ex_not [0, 1, 2] (by decide) (by decide +kernel)
end Go.Proofs.YtmbjpjpdcmjjgaaGreatDoor
namespace Go.Proofs.YtmbjpjpdcmjjgaaGreatDoor
open Go.RowKit Go.Xt
/-! The examples of the chapter: what builds them. -/
@[go_sem] theorem run_build4 (w : World) (a b c d : Cl) : (buildCalls 4 #[(0, cv a), (1, cv b), (2, cv c), (3, cv d)]).run Tryz.prog w = .ok (.slice (some ⟨w.heap.size, 0, none⟩) 4 4) (w.alloc (.cells (cells [a, b, c, d]).toArray 39)) := run_build4' w a b c d
theorem Cs_built (w : World) (l : List Cl) (t : TypeId) : Cs (w.alloc (.cells (cells l).toArray t)) (some ⟨w.heap.size, 0, none⟩) l.length l :=
  ⟨rfl, fun _ => ⟨_, 0, rfl, by simp, fun i c hc => AtC.of_range fun j u hu => by
    rw [World.cell?_alloc_new]
    have := cells_get l i c hc j u hu
    rw [show 0 + i * 18 + j = i * 18 + j by omega]
    simpa using this⟩⟩
theorem Is_built (w : World) (l : List Int) (cs : Array Value) (n : Nat) (t : TypeId) (hn : l.length = n) (h : cs.toList = ints l) : Is (w.alloc (.cells cs t)) (some ⟨w.heap.size, 0, none⟩) n l :=
  ⟨hn, fun _ => ⟨_, 0, rfl, by simp, fun i x hx => by
    rw [World.cell?_alloc_new, Nat.zero_add, ← Array.getElem?_toList, h, ints, List.getElem?_map, hx]; rfl⟩⟩
theorem Cs.setf {W : World} {b n i j off : Nat} {l : List Cl} {c c' : Cl} {v : Value} (h : Cs W (some ⟨b, 0, none⟩) n l) (hi : l[i]? = some c) (hj : j < 18) (hoff : off = i * 18 + j)
    (hc : (cl c') = (cl c).set j v) : Cs (W.setCell ⟨b, off, none⟩ v) (some ⟨b, 0, none⟩) n (l.set i c') := by
  subst hoff
  have hil : i < l.length := (List.getElem?_eq_some_iff.1 hi).1
  obtain ⟨b', o', e, hb, hcs⟩ := h.2 (by rw [← h.1]; omega)
  obtain ⟨rfl, rfl⟩ : b = b' ∧ 0 = o' := by simpa using e
  refine ⟨by rw [List.length_set]; exact h.1, fun _ => ⟨b, 0, rfl, by simpa using hb, fun k z hz => AtC.of_range fun q u hu => ?_⟩⟩
  have hq : q < 18 := (List.getElem?_eq_some_iff.1 hu).1
  rw [List.getElem?_set] at hz
  by_cases hk : i = k
  · subst hk
    rw [if_pos rfl, if_pos hil] at hz
    injection hz with hz
    subst hz
    have hr := (hcs i c hi).range
    rw [hc, List.getElem?_set] at hu
    by_cases hqj : j = q
    · subst hqj
      rw [if_pos rfl] at hu
      have hjl : j < (cl c).length := hj
      rw [if_pos hjl] at hu
      injection hu with hu
      subst hu
      have := hr j _ (List.getElem?_eq_getElem hjl)
      rw [show 0 + i * 18 + j = i * 18 + j by omega] at this ⊢
      exact World.cell?_setCell_same _ _ _ this
    · rw [if_neg hqj] at hu
      rw [World.cell?_setCell_other (h := by intro e; injection e with e1 e2; omega)]
      exact hr q u hu
  · rw [if_neg hk] at hz
    rw [World.cell?_setCell_other (h := by intro e; injection e with e1 e2; omega)]
    exact (hcs k z hz).range q u hu
set_option maxRecDepth 20000 in
set_option maxHeartbeats 2000000 in
theorem config_any (w : World) : Calls Tryz.prog 24 #[] w fun e w' => e = .returned (confV exC) ∧ Nw w w' := by
  obtain ⟨b0, hb0⟩ : ∃ b, b = w.heap.size := ⟨_, rfl⟩
  obtain ⟨Wb, hWb⟩ : ∃ W, W = w.alloc (.cells #[.int .i64 0, .int .i64 0, .int .u8 0, .int .i64 0, .int .u8 0, .int .i64 0, .slice none 0 0, .int .i64 0, .int .i64 0, .int .i64 0, .int .i64 0, .int .i64 0, .int .i64 0, .int .i64 0, .int .i64 0, .int .i64 0] 27) := ⟨_, rfl⟩
  have hnb : Nw w Wb := by rw [hWb]; exact nwa
  have hbx : BoxAt Wb b0 := ⟨_, _, by rw [hWb, hb0]; exact heap_alloc_new w _, rfl⟩
  have hst : (storeConf (.pointer (some ⟨b0, 0, none⟩)) (.agg #[.int .i64 2, .int .i64 2, .int .u8 2, .int .i64 0, .int .u8 2, .int .i64 2, .slice none 0 0, .int .i64 4, .int .i64 2, .int .i64 0, .int .i64 0, .int .i64 0, .int .i64 0, .int .i64 2, .int .i64 5, .int .i64 0])).run Tryz.prog Wb = .ok () (putConf Wb b0 exC) := run_storeConf (c := exC) hbx
  have HCF := Lib.hid (putConf_at (c := exC) hbx)
  have HCH := Lib.hid (putConf_chg Wb b0 exC)
  have HWB := Lib.hid hWb
  have HNB := Lib.hid hnb
  have HB0 := Lib.hid hb0
  clear hWb hnb hb0 hbx
  go_enter Tryz.func24, Tryz.ntmps24
  go_upto_region 1 with (fail)
  rw [← HWB.out, ← HB0.out]
  go_wp2
  refine bodyPost_ret (v := confV exC) (results_conf rfl rfl HCF.out) rfl ⟨rfl, nw_chg2 HNB.out HCH.out (fun k hk => ?_)⟩
  have := HB0.out
  simp at hk; omega
set_option maxRecDepth 20000 in
set_option maxHeartbeats 2000000 in
theorem example_any (v : Int) (w : World) : Calls Tryz.prog 23 #[.int .u64 v] w fun e w' => e = .returned (.slice (some ⟨w.heap.size, 0, none⟩) 4 4) ∧ Cs w' (some ⟨w.heap.size, 0, none⟩) 4 (exV v) ∧ (∀ i, w'.frozen? ⟨w.heap.size, i, none⟩ = false) ∧ Nw w w' := by
  have h4 := run_build4 w exA exB exP (exG v)
  have hcs := Cs_built w (exV v) 39
  obtain ⟨L, hL⟩ : ∃ L, L = (cells (exV v)).toArray := ⟨_, rfl⟩
  rw [show (cells [exA, exB, exP, exG v]).toArray = L from hL.symm] at h4
  rw [← hL] at hcs
  have HC := Lib.hid hcs
  simp only [cv, exA, exB, exP, exG] at h4
  clear hcs hL
  go_enter Tryz.func23, Tryz.ntmps23
  go_wp2
  go_ret
  exact ⟨rfl, HC.out, fun i => by simp [go_sem], nwa⟩
end Go.Proofs.YtmbjpjpdcmjjgaaGreatDoor
namespace Go.Proofs.YtmbjpjpdcmjjgaaGreatDoor
open Go.RowKit Go.Xt
/-! The examples of the chapter hold. -/
theorem exV50_wf : ∀ y ∈ exV 50, WfX y := by
  intro y hy
  simp only [exV, List.mem_cons, List.not_mem_nil, or_false] at hy
  rcases hy with rfl | rfl | rfl | rfl <;> exact ⟨⟨by decide, by decide, by decide, by decide, by decide, by decide⟩, ⟨by decide, by decide, by decide, by decide, by decide, by decide, by decide⟩, by decide⟩
theorem exV51_wf : ∀ y ∈ exV 51, WfX y := by
  intro y hy
  simp only [exV, List.mem_cons, List.not_mem_nil, or_false] at hy
  rcases hy with rfl | rfl | rfl | rfl <;> exact ⟨⟨by decide, by decide, by decide, by decide, by decide, by decide⟩, ⟨by decide, by decide, by decide, by decide, by decide, by decide, by decide⟩, by decide⟩
theorem exV0_wf : ∀ y ∈ exV0, WfX y := by
  intro y hy
  simp only [exV0, List.mem_cons, List.not_mem_nil, or_false] at hy
  rcases hy with rfl | rfl | rfl | rfl <;> exact ⟨⟨by decide, by decide, by decide, by decide, by decide, by decide⟩, ⟨by decide, by decide, by decide, by decide, by decide, by decide, by decide⟩, by decide⟩
theorem exV1_wf : ∀ y ∈ exV1, WfX y := by
  intro y hy
  simp only [exV1, List.mem_cons, List.not_mem_nil, or_false] at hy
  rcases hy with rfl | rfl | rfl | rfl <;> exact ⟨⟨by decide, by decide, by decide, by decide, by decide, by decide⟩, ⟨by decide, by decide, by decide, by decide, by decide, by decide, by decide⟩, by decide⟩
theorem Cs.in_ {w : World} {g n : Nat} {l : List Cl} (h : Cs w (some ⟨g, 0, none⟩) n l) (hn : 0 < n) : g < w.heap.size := by
  obtain ⟨b', o', e, hb, -⟩ := h.2 hn
  obtain ⟨rfl, rfl⟩ : g = b' ∧ 0 = o' := by simpa using e
  exact hb
theorem Cs.cell {w : World} {g n : Nat} {l : List Cl} (h : Cs w (some ⟨g, 0, none⟩) n l) {i j off : Nat} {c : Cl} {u : Value} (hi : l[i]? = some c) (hj : (cl c)[j]? = some u) (ho : off = i * 18 + j) : w.cell? ⟨g, off, none⟩ = some u := by
  obtain ⟨b', o', e, hb, hc⟩ := h.2 (by have := (List.getElem?_eq_some_iff.1 hi).1; rw [← h.1]; omega)
  obtain ⟨rfl, rfl⟩ : g = b' ∧ 0 = o' := by simpa using e
  have := (hc i c hi).range j u hj
  rw [ho]
  rwa [show 0 + i * 18 + j = i * 18 + j by omega] at this
theorem in2_ex {w : World} {g : Nat} {l : List Cl} (hl : Cs w (some ⟨g, 0, none⟩) 4 l) (hw : ∀ y ∈ l, WfX y) : In2 w exC [] (some ⟨g, 0, none⟩) 4 4 l :=
  ⟨⟨rfl, fun h => absurd h (by simp)⟩, rfl, by decide, by omega, by omega, by omega, hl, hw, fun b o e => by injection e with e; injection e with e1 e2; subst e1; exact hl.in_ (by omega)⟩
theorem own_is {w : World} {base : Nat} {v : Value} {z : List Nat} (h : OwnI w base v (natI z)) : ∃ A c, v = .slice A z.length c ∧ Is w A z.length (natI z) := by
  obtain ⟨A, c, h1, h2⟩ := h.form
  rw [natI_len] at h1 h2
  exact ⟨A, c, h1, h2⟩
set_option maxRecDepth 20000 in
set_option maxHeartbeats 8000000 in
theorem awake_any (w : World) (hF : FmtAt w) : Calls Tryz.prog 10 #[] w fun e w' => e = .returned (.bool true) ∧ Nw w w' := by
  have HF := Lib.hid hF
  clear hF
  go_enter Tryz.func10, Tryz.ntmps10
  go_wp2_with fail
  refine (example_any 50 _).mono ?_
  rintro e W1 ⟨rfl, hc1, hz1, hn1⟩
  obtain ⟨g, hg⟩ : ∃ g, g = w.heap.size := ⟨_, rfl⟩
  rw [← hg] at hc1 hz1 ⊢
  haveI : In g W1 := ⟨hc1.in_ (by omega)⟩
  have HN1 := Lib.hid hn1
  have HC1 := Lib.hid hc1
  have HZ1 := Lib.hid hz1
  have HG := Lib.hid hg
  have HIN := Lib.hid (in2_ex hc1 exV50_wf)
  clear hn1 hc1 hz1 hg
  go_wp2_with fail
  refine (config_any _).mono ?_
  rintro e W2 ⟨rfl, hn2⟩
  have HN1_2 := Lib.hid (show Nw W1 W2 from Nw.trans (nwa) hn2)
  clear hn2
  go_wp2_with fail
  refine (findL_any (HIN.out.nw (Nw.trans HN1_2.out (nwa))) (HF.out.nw (Nw.trans (HN1.out) (Nw.trans HN1_2.out (nwa))))).mono ?_
  intro e W3 hP
  unfold FindP at hP
  rw [ex_find, ex_beg] at hP
  obtain ⟨v, rfl, hown, hn3⟩ := hP
  obtain ⟨A3, c3, rfl, his⟩ := own_is (z := [0, 1, 2, 3]) hown
  have HI3 := Lib.hid his
  clear hown his
  have HN1_3 := Lib.hid (show Nw W1 W3 from Nw.trans (Nw.trans HN1_2.out (nwa)) hn3)
  clear hn3
  clear HN1_2
  go_wp2_with fail
  refine (config_any _).mono ?_
  rintro e W4 ⟨rfl, hn4⟩
  have HN1_4 := Lib.hid (show Nw W1 W4 from Nw.trans (Nw.trans HN1_3.out (nwa)) hn4)
  have HN3_4 := Lib.hid (show Nw W3 W4 from Nw.trans (nwa) hn4)
  clear hn4
  clear HN1_3
  go_wp2_with fail
  refine (countL_any (most := 100) (HIN.out.nw (Nw.trans HN1_4.out (nwa))) (HF.out.nw (Nw.trans (HN1.out) (Nw.trans HN1_4.out (nwa))))).mono ?_
  intro e W5 hP
  unfold CountP at hP
  rw [ex_countE, ex_count, show ((1 : Nat) : Int) = 1 from rfl] at hP
  obtain ⟨rfl, hn5⟩ := hP
  have HN1_5 := Lib.hid (show Nw W1 W5 from Nw.trans (Nw.trans HN1_4.out (nwa)) hn5)
  have HN3_5 := Lib.hid (show Nw W3 W5 from Nw.trans (Nw.trans HN3_4.out (nwa)) hn5)
  clear hn5
  clear HN1_4
  clear HN3_4
  go_wp2_with fail
  refine (equalInts_any _ _ 4 4 _ _ [0, 1, 2, 3] [0, 1, 2, 3] _ (by omega) (by omega) (HI3.out.nw (Nw.trans HN3_5.out (nwa))) (Is_built _ [0, 1, 2, 3] _ 4 _ rfl rfl)).mono ?_
  rintro e W6 ⟨rfl, hn6⟩
  have HN1_6 := Lib.hid (show Nw W1 W6 from Nw.trans (Nw.trans HN1_5.out (nwa)) hn6)
  have HN3_6 := Lib.hid (show Nw W3 W6 from Nw.trans (Nw.trans HN3_5.out (nwa)) hn6)
  clear hn6
  clear HN1_5
  clear HN3_5
  go_wp2_with fail
  refine (config_any _).mono ?_
  rintro e W7 ⟨rfl, hn7⟩
  have HN1_7 := Lib.hid (show Nw W1 W7 from Nw.trans (Nw.trans HN1_6.out (nwa)) hn7)
  clear hn7
  clear HN1_6
  go_wp2_with fail
  refine (validL_any (o := [0, 1, 2, 3]) (m := 4) (HIN.out.nw (Nw.trans HN1_7.out (nwa))) (by omega) (Is_built _ [0, 1, 2, 3] _ 4 _ rfl rfl) (by decide)).mono ?_
  intro e W8 hP
  unfold ValidP at hP
  rw [ex_valid] at hP
  obtain ⟨rfl, hn8⟩ := hP
  have HN1_8 := Lib.hid (show Nw W1 W8 from Nw.trans (Nw.trans HN1_7.out (nwa)) hn8)
  clear hn8
  clear HN1_7
  go_wp2_with fail
  refine (config_any _).mono ?_
  rintro e W9 ⟨rfl, hn9⟩
  have HN1_9 := Lib.hid (show Nw W1 W9 from Nw.trans (Nw.trans HN1_8.out (nwa)) hn9)
  clear hn9
  clear HN1_8
  go_wp2_with fail
  refine (validL_any (o := [0, 1, 3, 2]) (m := 4) (HIN.out.nw (Nw.trans HN1_9.out (nwa))) (by omega) (Is_built _ [0, 1, 3, 2] _ 4 _ rfl rfl) (by decide)).mono ?_
  intro e W10 hP
  unfold ValidP at hP
  rw [ex_swap] at hP
  obtain ⟨rfl, hn10⟩ := hP
  have HN1_10 := Lib.hid (show Nw W1 W10 from Nw.trans (Nw.trans HN1_9.out (nwa)) hn10)
  clear hn10
  clear HN1_9
  go_wp2_with fail
  refine (config_any _).mono ?_
  rintro e W11 ⟨rfl, hn11⟩
  have HN1_11 := Lib.hid (show Nw W1 W11 from Nw.trans (Nw.trans HN1_10.out (nwa)) hn11)
  clear hn11
  clear HN1_10
  go_wp2_with fail
  refine (validL_any (o := [0, 1, 2]) (m := 3) (HIN.out.nw (Nw.trans HN1_11.out (nwa))) (by omega) (Is_built _ [0, 1, 2] _ 3 _ rfl rfl) (by decide)).mono ?_
  intro e W12 hP
  unfold ValidP at hP
  rw [ex_part] at hP
  obtain ⟨rfl, hn12⟩ := hP
  have HN1_12 := Lib.hid (show Nw W1 W12 from Nw.trans (Nw.trans HN1_11.out (nwa)) hn12)
  clear hn12
  clear HN1_11
  have hC := HC1.out.nw HN1_12.out
  have j67 : W12.cell? ⟨g, 67, none⟩ = some (.int .i64 0) := hC.cell (i := 3) (j := 13) rfl rfl rfl
  have y67 : W12.frozen? ⟨g, 67, none⟩ = false := (frozen_nw ((by assumption : In g W1).lt) HN1_12.out).trans (HZ1.out 67)
  have j68 : W12.cell? ⟨g, 68, none⟩ = some (.bool true) := hC.cell (i := 3) (j := 14) rfl rfl rfl
  have y68 : W12.frozen? ⟨g, 68, none⟩ = false := (frozen_nw ((by assumption : In g W1).lt) HN1_12.out).trans (HZ1.out 68)
  have j69 : W12.cell? ⟨g, 69, none⟩ = some (.int .u64 0) := hC.cell (i := 3) (j := 15) rfl rfl rfl
  have y69 : W12.frozen? ⟨g, 69, none⟩ = false := (frozen_nw ((by assumption : In g W1).lt) HN1_12.out).trans (HZ1.out 69)
  have j70 : W12.cell? ⟨g, 70, none⟩ = some (.int .u64 50) := hC.cell (i := 3) (j := 16) rfl rfl rfl
  have y70 : W12.frozen? ⟨g, 70, none⟩ = false := (frozen_nw ((by assumption : In g W1).lt) HN1_12.out).trans (HZ1.out 70)
  have j71 : W12.cell? ⟨g, 71, none⟩ = some (.int .i64 0) := hC.cell (i := 3) (j := 17) rfl rfl rfl
  have y71 : W12.frozen? ⟨g, 71, none⟩ = false := (frozen_nw ((by assumption : In g W1).lt) HN1_12.out).trans (HZ1.out 71)
  haveI : In g W12 := ⟨hC.in_ (by omega)⟩
  obtain ⟨W20, hW20⟩ : ∃ W, W = (((((W12.setCell ⟨g, 67, none⟩ (.int .i64 0)).setCell ⟨g, 68, none⟩ (.bool false)).setCell ⟨g, 69, none⟩ (.int .u64 0)).setCell ⟨g, 70, none⟩ (.int .u64 0)).setCell ⟨g, 71, none⟩ (.int .i64 0)) := ⟨_, rfl⟩
  have hC20 : Cs W20 (some ⟨g, 0, none⟩) 4 exV0 := by
    rw [hW20]
    exact (Cs.setf (Cs.setf (Cs.setf (Cs.setf (Cs.setf hC (off := 67) (v := .int .i64 0) (i := 3) (j := 13) (c := exG 50) (c' := ({ (exG 50) with re := 0 } : Cl)) rfl (by omega) rfl rfl) (off := 68) (v := .bool false) (i := 3) (j := 14) (c := ({ (exG 50) with re := 0 } : Cl)) (c' := ({ (({ (exG 50) with re := 0 } : Cl)) with rf := false } : Cl)) rfl (by omega) rfl rfl) (off := 69) (v := .int .u64 0) (i := 3) (j := 15) (c := ({ (({ (exG 50) with re := 0 } : Cl)) with rf := false } : Cl)) (c' := ({ (({ (({ (exG 50) with re := 0 } : Cl)) with rf := false } : Cl)) with rk := 0 } : Cl)) rfl (by omega) rfl rfl) (off := 70) (v := .int .u64 0) (i := 3) (j := 16) (c := ({ (({ (({ (exG 50) with re := 0 } : Cl)) with rf := false } : Cl)) with rk := 0 } : Cl)) (c' := ({ (({ (({ (({ (exG 50) with re := 0 } : Cl)) with rf := false } : Cl)) with rk := 0 } : Cl)) with rv := 0 } : Cl)) rfl (by omega) rfl rfl) (off := 71) (v := .int .i64 0) (i := 3) (j := 17) (c := ({ (({ (({ (({ (exG 50) with re := 0 } : Cl)) with rf := false } : Cl)) with rk := 0 } : Cl)) with rv := 0 } : Cl)) (c' := ({ (({ (({ (({ (({ (exG 50) with re := 0 } : Cl)) with rf := false } : Cl)) with rk := 0 } : Cl)) with rv := 0 } : Cl)) with rc := 0 } : Cl)) rfl (by omega) rfl rfl)
  have HC20 := Lib.hid hC20
  have HZ20 := Lib.hid (show ∀ i, W20.frozen? ⟨g, i, none⟩ = false by
    intro i
    rw [hW20]
    simp only [World.frozen?_setCell]
    exact (frozen_nw ((by assumption : In g W1).lt) HN1_12.out).trans (HZ1.out i))
  have HNW20 := Lib.hid (show Nw w W20 by
    rw [hW20]
    have hg : w.heap.size ≤ g := by have := HG.out; omega
    exact (Nw.setCell (Nw.setCell (Nw.setCell (Nw.setCell (Nw.setCell (Nw.trans (HN1.out) HN1_12.out) (p := ⟨g, 67, none⟩) hg (.int .i64 0)) (p := ⟨g, 68, none⟩) hg (.bool false)) (p := ⟨g, 69, none⟩) hg (.int .u64 0)) (p := ⟨g, 70, none⟩) hg (.int .u64 0)) (p := ⟨g, 71, none⟩) hg (.int .i64 0)))
  have HW20 := Lib.hid hW20
  have HIN2 := Lib.hid (in2_ex hC20 exV0_wf)
  haveI : In g W20 := ⟨hC20.in_ (by omega)⟩
  clear hC20 hW20 hC
  go_wp2_with fail
  rw [← HW20.out]
  clear j67 y67 j68 y68 j69 y69 j70 y70 j71 y71
  go_wp2_with fail
  refine (config_any _).mono ?_
  rintro e W21 ⟨rfl, hn21⟩
  have HN20_21 := Lib.hid (show Nw W20 W21 from Nw.trans (nwa) hn21)
  clear hn21
  go_wp2_with fail
  refine (findL_any (HIN2.out.nw (Nw.trans HN20_21.out (nwa))) (HF.out.nw (Nw.trans (HNW20.out) (Nw.trans HN20_21.out (nwa))))).mono ?_
  intro e W22 hP
  unfold FindP at hP
  rw [ex_find0, ex_beg0] at hP
  obtain ⟨v, rfl, hown, hn22⟩ := hP
  obtain ⟨A22, c22, rfl, his⟩ := own_is (z := [0, 1, 3, 2]) hown
  have HI22 := Lib.hid his
  have HA22 := Lib.hid (show ∀ b o, A22 = some ⟨b, o, none⟩ → b ≠ g from fun b o e => by
    have h1 := (hown.lt b (by rw [e]; rfl)).1
    have h2 := (HC20.out.nw (Nw.trans HN20_21.out (nwa))).in_ (by omega)
    omega)
  clear hown his
  have HN20_22 := Lib.hid (show Nw W20 W22 from Nw.trans (Nw.trans HN20_21.out (nwa)) hn22)
  clear hn22
  clear HN20_21
  go_wp2_with fail
  refine (config_any _).mono ?_
  rintro e W23 ⟨rfl, hn23⟩
  have HN20_23 := Lib.hid (show Nw W20 W23 from Nw.trans (Nw.trans HN20_22.out (nwa)) hn23)
  have HN22_23 := Lib.hid (show Nw W22 W23 from Nw.trans (nwa) hn23)
  clear hn23
  clear HN20_22
  go_wp2_with fail
  refine (example_any 51 _).mono ?_
  rintro e W24 ⟨rfl, hcE, -, hn24⟩
  have HN20_24 := Lib.hid (show Nw W20 W24 from Nw.trans (Nw.trans HN20_23.out (nwa)) hn24)
  have HN22_24 := Lib.hid (show Nw W22 W24 from Nw.trans (Nw.trans HN22_23.out (nwa)) hn24)
  obtain ⟨gE, hgE⟩ : ∃ z, z = W23.heap.size := ⟨_, rfl⟩
  rw [← hgE] at hcE ⊢
  have HIE := Lib.hid (in2_ex hcE exV51_wf)
  haveI : In gE W24 := ⟨hcE.in_ (by omega)⟩
  clear hcE hgE hn24
  clear HN20_23
  clear HN22_23
  go_wp2_with fail
  refine (check_anyL (HIE.out.nw (nwa)) (HF.out.nw (Nw.trans (HNW20.out) (Nw.trans HN20_24.out (nwa))))).mono ?_
  rw [ex_find51, ex_beg51]
  rintro e W25 ⟨rfl, hn25⟩
  have HN20_25 := Lib.hid (show Nw W20 W25 from Nw.trans (Nw.trans HN20_24.out (nwa)) hn25)
  have HN22_25 := Lib.hid (show Nw W22 W25 from Nw.trans (Nw.trans HN22_24.out (nwa)) hn25)
  clear hn25
  clear HN20_24
  clear HN22_24
  have hC := HC20.out.nw HN20_25.out
  have j46 : W25.cell? ⟨g, 46, none⟩ = some (.int .i64 7) := hC.cell (i := 2) (j := 10) rfl rfl rfl
  have y46 : W25.frozen? ⟨g, 46, none⟩ = false := (frozen_nw ((by assumption : In g W20).lt) HN20_25.out).trans (HZ20.out 46)
  have j47 : W25.cell? ⟨g, 47, none⟩ = some (.int .i64 9) := hC.cell (i := 2) (j := 11) rfl rfl rfl
  have y47 : W25.frozen? ⟨g, 47, none⟩ = false := (frozen_nw ((by assumption : In g W20).lt) HN20_25.out).trans (HZ20.out 47)
  have j48 : W25.cell? ⟨g, 48, none⟩ = some (.int .i64 4) := hC.cell (i := 2) (j := 12) rfl rfl rfl
  have y48 : W25.frozen? ⟨g, 48, none⟩ = false := (frozen_nw ((by assumption : In g W20).lt) HN20_25.out).trans (HZ20.out 48)
  haveI : In g W25 := ⟨hC.in_ (by omega)⟩
  obtain ⟨W40, hW40⟩ : ∃ W, W = (((W25.setCell ⟨g, 46, none⟩ (.int .i64 (-1))).setCell ⟨g, 47, none⟩ (.int .i64 (-1))).setCell ⟨g, 48, none⟩ (.int .i64 0)) := ⟨_, rfl⟩
  have hC40 : Cs W40 (some ⟨g, 0, none⟩) 4 exV1 := by
    rw [hW40]
    exact (Cs.setf (Cs.setf (Cs.setf hC (off := 46) (v := .int .i64 (-1)) (i := 2) (j := 10) (c := exP) (c' := ({ (exP) with took := -1 } : Cl)) rfl (by omega) rfl rfl) (off := 47) (v := .int .i64 (-1)) (i := 2) (j := 11) (c := ({ (exP) with took := -1 } : Cl)) (c' := ({ (({ (exP) with took := -1 } : Cl)) with ans := -1 } : Cl)) rfl (by omega) rfl rfl) (off := 48) (v := .int .i64 0) (i := 2) (j := 12) (c := ({ (({ (exP) with took := -1 } : Cl)) with ans := -1 } : Cl)) (c' := ({ (({ (({ (exP) with took := -1 } : Cl)) with ans := -1 } : Cl)) with st := 0 } : Cl)) rfl (by omega) rfl rfl)
  have HC40 := Lib.hid hC40
  have HZ40 := Lib.hid (show ∀ i, W40.frozen? ⟨g, i, none⟩ = false by
    intro i
    rw [hW40]
    simp only [World.frozen?_setCell]
    exact (frozen_nw ((by assumption : In g W20).lt) HN20_25.out).trans (HZ20.out i))
  have HNW40 := Lib.hid (show Nw w W40 by
    rw [hW40]
    have hg : w.heap.size ≤ g := by have := HG.out; omega
    exact (Nw.setCell (Nw.setCell (Nw.setCell (Nw.trans (HNW20.out) HN20_25.out) (p := ⟨g, 46, none⟩) hg (.int .i64 (-1))) (p := ⟨g, 47, none⟩) hg (.int .i64 (-1))) (p := ⟨g, 48, none⟩) hg (.int .i64 0)))
  have HW40 := Lib.hid hW40
  have HIN3 := Lib.hid (in2_ex hC40 exV1_wf)
  haveI : In g W40 := ⟨hC40.in_ (by omega)⟩
  have HIk := Lib.hid (show Is W40 A22 4 [0, 1, 3, 2] by
    rw [hW40]
    exact ((((HI22.out.nw (Nw.trans HN22_25.out (nwa))).chg (Chg.set1 _ g 46 _) (fun b o e => by simp; exact HA22.out b o e)).chg (Chg.set1 _ g 47 _) (fun b o e => by simp; exact HA22.out b o e)).chg (Chg.set1 _ g 48 _) (fun b o e => by simp; exact HA22.out b o e)))
  clear hC40 hW40 hC
  go_wp2_with fail
  rw [← HW40.out]
  clear j46 y46 j47 y47 j48 y48
  go_wp2_with fail
  refine (config_any _).mono ?_
  rintro e W41 ⟨rfl, hn41⟩
  have HN40_41 := Lib.hid (show Nw W40 W41 from Nw.trans (nwa) hn41)
  clear hn41
  go_wp2_with fail
  refine (countL_any (most := 100) (HIN3.out.nw (Nw.trans HN40_41.out (nwa))) (HF.out.nw (Nw.trans (HNW40.out) (Nw.trans HN40_41.out (nwa))))).mono ?_
  intro e W42 hP
  unfold CountP at hP
  rw [ex_countE1, ex_count1, show ((2 : Nat) : Int) = 2 from rfl] at hP
  obtain ⟨rfl, hn42⟩ := hP
  have HN40_42 := Lib.hid (show Nw W40 W42 from Nw.trans (Nw.trans HN40_41.out (nwa)) hn42)
  clear hn42
  clear HN40_41
  go_wp2_with fail
  refine (config_any _).mono ?_
  rintro e W43 ⟨rfl, hn43⟩
  have HN40_43 := Lib.hid (show Nw W40 W43 from Nw.trans (Nw.trans HN40_42.out (nwa)) hn43)
  clear hn43
  clear HN40_42
  go_wp2_with fail
  refine (findL_any (HIN3.out.nw (Nw.trans HN40_43.out (nwa))) (HF.out.nw (Nw.trans (HNW40.out) (Nw.trans HN40_43.out (nwa))))).mono ?_
  intro e W44 hP
  unfold FindP at hP
  rw [ex_find1, ex_beg1] at hP
  obtain ⟨v, rfl, hown, hn44⟩ := hP
  obtain ⟨A44, c44, rfl, his⟩ := own_is (z := [0, 1, 3]) hown
  have HI44 := Lib.hid his
  clear hown his
  have HN40_44 := Lib.hid (show Nw W40 W44 from Nw.trans (Nw.trans HN40_43.out (nwa)) hn44)
  clear hn44
  clear HN40_43
  go_wp2_with fail
  refine (equalInts_any _ _ 4 4 _ _ [0, 1, 3, 2] [0, 1, 3, 2] _ (by omega) (by omega) (HIk.out.nw (Nw.trans HN40_44.out (nwa))) (Is_built _ [0, 1, 3, 2] _ 4 _ rfl rfl)).mono ?_
  rintro e W45 ⟨rfl, hn45⟩
  have HN40_45 := Lib.hid (show Nw W40 W45 from Nw.trans (Nw.trans HN40_44.out (nwa)) hn45)
  have HN44_45 := Lib.hid (show Nw W44 W45 from Nw.trans (nwa) hn45)
  clear hn45
  clear HN40_44
  go_wp2_with fail
  refine (equalInts_any _ _ 3 3 _ _ [0, 1, 3] [0, 1, 3] _ (by omega) (by omega) (HI44.out.nw (Nw.trans HN44_45.out (nwa))) (Is_built _ [0, 1, 3] _ 3 _ rfl rfl)).mono ?_
  rintro e W46 ⟨rfl, hn46⟩
  have HN40_46 := Lib.hid (show Nw W40 W46 from Nw.trans (Nw.trans HN40_45.out (nwa)) hn46)
  have HN44_46 := Lib.hid (show Nw W44 W46 from Nw.trans (Nw.trans HN44_45.out (nwa)) hn46)
  clear hn46
  clear HN40_45
  clear HN44_45
  go_wp2
  go_ret
  exact ⟨rfl, (Nw.trans (HNW40.out) (Nw.trans HN40_46.out (nwa)))⟩
end Go.Proofs.YtmbjpjpdcmjjgaaGreatDoor
namespace Go.Proofs.YtmbjpjpdcmjjgaaGreatDoor
open Go.RowKit Go.Xt
/-! The three laws, plain. -/
theorem In2.pre {w : World} {c : Cf} {cuts : List Nat} {A : Option Addr} {n cap : Nat} {l : List Cl} (h : In2 w c cuts A n cap l) {k : Nat} (hk : k ≤ n) : In2 w c cuts A k cap (l.take k) :=
  { h with n1 := by have := h.n1; omega, nc := by have := h.nc; omega, hl := h.hl.take hk, wf := fun y hy => h.wf y (List.mem_of_mem_take hy) }
end Go.Proofs.YtmbjpjpdcmjjgaaGreatDoor
