import Derived.Test.YtkikdpdainmlcaaGreatGZt
set_option linter.unusedVariables false
set_option linter.unusedSimpArgs false
set_option linter.unnecessarySimpa false
namespace Go.Proofs.YtkikdpdainmlcaaGreat
open Go.RowKit Go.Xt
/-! passes, fails, awake. -/
theorem Cs.resv {W : World} {g n : Nat} {l : List Cl} {c : Cl} {i o : Nat} (re : Int) (rf : Bool) (rk rv rc : Int) (h : Cs W (some ⟨g, 0, none⟩) n l) (hi : l[i]? = some c) (ho : o = i * 18) :
    Cs (((((W.setCell ⟨g, o + 13, none⟩ (.int .i64 re)).setCell ⟨g, o + 14, none⟩ (.bool rf)).setCell ⟨g, o + 15, none⟩ (.int .u64 rk)).setCell ⟨g, o + 16, none⟩ (.int .u64 rv)).setCell ⟨g, o + 17, none⟩ (.int .i64 rc)) (some ⟨g, 0, none⟩) n (l.set i { c with re := re, rf := rf, rk := rk, rv := rv, rc := rc }) := by
  have hil := (List.getElem?_eq_some_iff.1 hi).1
  have h1 := h.setf (off := o + 13) (v := .int .i64 re) (j := 13) (c' := { c with re := re }) hi (by omega) (by omega) rfl
  have h2 := h1.setf (off := o + 14) (v := .bool rf) (i := i) (j := 14) (c := { c with re := re }) (c' := { c with re := re, rf := rf }) (by rw [List.getElem?_set_self hil]) (by omega) (by omega) rfl
  have h3 := h2.setf (off := o + 15) (v := .int .u64 rk) (i := i) (j := 15) (c := { c with re := re, rf := rf }) (c' := { c with re := re, rf := rf, rk := rk }) (by rw [List.getElem?_set_self (by simpa using hil)]) (by omega) (by omega) rfl
  have h4 := h3.setf (off := o + 16) (v := .int .u64 rv) (i := i) (j := 16) (c := { c with re := re, rf := rf, rk := rk }) (c' := { c with re := re, rf := rf, rk := rk, rv := rv }) (by rw [List.getElem?_set_self (by simpa using hil)]) (by omega) (by omega) rfl
  have h5 := h4.setf (off := o + 17) (v := .int .i64 rc) (i := i) (j := 17) (c := { c with re := re, rf := rf, rk := rk, rv := rv }) (c' := { c with re := re, rf := rf, rk := rk, rv := rv, rc := rc }) (by rw [List.getElem?_set_self (by simpa using hil)]) (by omega) (by omega) rfl
  rw [List.set_set, List.set_set, List.set_set, List.set_set] at h5
  exact h5
theorem in3_ex {w : World} {g : Nat} {l : List Cl} (hl : Cs w (some ⟨g, 0, none⟩) 7 l) (hw : ∀ y ∈ l, WfX y) : In3 w exC [] (some ⟨g, 0, none⟩) 7 7 l :=
  ⟨⟨rfl, fun h => absurd h (by simp)⟩, rfl, by decide, by omega, by omega, by omega, hl, hw⟩
theorem wf1 : ∀ y ∈ ex 30 40, WfX y := by
  intro y hy
  have hm : y ∈ [(ex 30 40)[0], (ex 30 40)[1], (ex 30 40)[2], (ex 30 40)[3], (ex 30 40)[4], (ex 30 40)[5], (ex 30 40)[6]] := hy
  simp only [List.mem_cons, List.not_mem_nil, or_false] at hm
  rcases hm with rfl | rfl | rfl | rfl | rfl | rfl | rfl <;> exact ⟨⟨(by decide), (by decide), (by decide), (by decide), (by decide), (by decide)⟩, ⟨(by decide), (by decide), (by decide), (by decide), (by decide), (by decide), (by decide)⟩, (by decide)⟩
theorem wf2 : ∀ y ∈ ex 30 0, WfX y := by
  intro y hy
  have hm : y ∈ [(ex 30 0)[0], (ex 30 0)[1], (ex 30 0)[2], (ex 30 0)[3], (ex 30 0)[4], (ex 30 0)[5], (ex 30 0)[6]] := hy
  simp only [List.mem_cons, List.not_mem_nil, or_false] at hm
  rcases hm with rfl | rfl | rfl | rfl | rfl | rfl | rfl <;> exact ⟨⟨(by decide), (by decide), (by decide), (by decide), (by decide), (by decide)⟩, ⟨(by decide), (by decide), (by decide), (by decide), (by decide), (by decide), (by decide)⟩, (by decide)⟩
theorem wf3 : ∀ y ∈ exLate, WfX y := by
  intro y hy
  have hm : y ∈ [(exLate)[0], (exLate)[1], (exLate)[2], (exLate)[3], (exLate)[4], (exLate)[5], (exLate)[6]] := hy
  simp only [List.mem_cons, List.not_mem_nil, or_false] at hm
  rcases hm with rfl | rfl | rfl | rfl | rfl | rfl | rfl <;> exact ⟨⟨(by decide), (by decide), (by decide), (by decide), (by decide), (by decide)⟩, ⟨(by decide), (by decide), (by decide), (by decide), (by decide), (by decide), (by decide)⟩, (by decide)⟩
theorem wf4 : ∀ y ∈ ex 0 0, WfX y := by
  intro y hy
  have hm : y ∈ [(ex 0 0)[0], (ex 0 0)[1], (ex 0 0)[2], (ex 0 0)[3], (ex 0 0)[4], (ex 0 0)[5], (ex 0 0)[6]] := hy
  simp only [List.mem_cons, List.not_mem_nil, or_false] at hm
  rcases hm with rfl | rfl | rfl | rfl | rfl | rfl | rfl <;> exact ⟨⟨(by decide), (by decide), (by decide), (by decide), (by decide), (by decide)⟩, ⟨(by decide), (by decide), (by decide), (by decide), (by decide), (by decide), (by decide)⟩, (by decide)⟩
theorem wf5 : ∀ y ∈ ex 31 0, WfX y := by
  intro y hy
  have hm : y ∈ [(ex 31 0)[0], (ex 31 0)[1], (ex 31 0)[2], (ex 31 0)[3], (ex 31 0)[4], (ex 31 0)[5], (ex 31 0)[6]] := hy
  simp only [List.mem_cons, List.not_mem_nil, or_false] at hm
  rcases hm with rfl | rfl | rfl | rfl | rfl | rfl | rfl <;> exact ⟨⟨(by decide), (by decide), (by decide), (by decide), (by decide), (by decide)⟩, ⟨(by decide), (by decide), (by decide), (by decide), (by decide), (by decide), (by decide)⟩, (by decide)⟩
set_option maxRecDepth 20000 in
set_option maxHeartbeats 4000000 in
theorem passes_yes {w : World} {g : Nat} {l : List Cl} (hl : Cs w (some ⟨g, 0, none⟩) 7 l) (hw : ∀ y ∈ l, WfX y) (h : pChk exC [] l = (0, 0)) :
    Calls Tryz.prog 26 #[.slice (some ⟨g, 0, none⟩) 7 7] w fun e w' => e = .returned (.bool true) ∧ Nw w w' := by
  have HC := Lib.hid (fun W (hq : Nw w W) => by have h2 := pcheck_any (in3_ex (hl.nw hq) hw); rw [h] at h2; unfold PcP at h2; exact h2)
  clear hl hw h
  go_enter Tryz.func26, Tryz.ntmps26
  go_wp2_with fail
  refine (config_any _).mono ?_
  rintro e W1 ⟨rfl, hn1⟩
  go_wp2_with fail
  refine (HC.out W1 hn1).mono ?_
  rintro e W2 ⟨rfl, hn2⟩
  have HN := Lib.hid (hn1.trans hn2)
  clear hn1 hn2
  go_wp2
  go_ret
  exact ⟨rfl, HN.out⟩
set_option maxRecDepth 20000 in
set_option maxHeartbeats 4000000 in
theorem fails_yes {w : World} {g : Nat} {l : List Cl} (hl : Cs w (some ⟨g, 0, none⟩) 7 l) (hw : ∀ y ∈ l, WfX y) (h : pChk exC [] l = (5, 23)) :
    Calls Tryz.prog 27 #[.slice (some ⟨g, 0, none⟩) 7 7, .int .i64 5] w fun e w' => e = .returned (.bool true) ∧ Nw w w' := by
  have HC := Lib.hid (fun W (hq : Nw w W) => by have h2 := pcheck_any (in3_ex (hl.nw hq) hw); rw [h] at h2; unfold PcP at h2; exact h2)
  clear hl hw h
  go_enter Tryz.func27, Tryz.ntmps27
  go_wp2_with fail
  refine (config_any _).mono ?_
  rintro e W1 ⟨rfl, hn1⟩
  go_wp2_with fail
  refine (HC.out W1 hn1).mono ?_
  rintro e W2 ⟨rfl, hn2⟩
  have HN := Lib.hid (hn1.trans hn2)
  clear hn1 hn2
  go_wp2
  go_ret
  exact ⟨rfl, HN.out⟩
theorem own_is {w : World} {base : Nat} {v : Value} {z : List Int} (h : OwnI w base v z) : ∃ A c, v = .slice A z.length c ∧ Is w A z.length z := h.form
theorem two_rd (w : World) (t : TypeId) : Rd (w.alloc (.cells #[.int .u64 3, .int .u64 30, .int .u64 4, .int .u64 40] t)) 2 (some ⟨w.heap.size, 0, none⟩) 2 (pcells [(3, 30), (4, 40)]) :=
  ⟨rfl, fun _ => ⟨_, 0, rfl, by simp, fun j u hu => by
    rw [World.cell?_alloc_new, Nat.zero_add]
    have hj : j < 4 := (List.getElem?_eq_some_iff.1 hu).1
    rcases (by omega : j = 0 ∨ j = 1 ∨ j = 2 ∨ j = 3) with rfl | rfl | rfl | rfl
    · simpa [pcells] using hu
    · simpa [pcells] using hu
    · simpa [pcells] using hu
    · simpa [pcells] using hu⟩⟩
theorem one_rd (w : World) (t : TypeId) (v : Value) : Rd (w.alloc (.cells #[v] t)) 1 (some ⟨w.heap.size, 0, none⟩) 1 [v] :=
  ⟨rfl, fun _ => ⟨_, 0, rfl, by simp, fun j u hu => by
    rw [World.cell?_alloc_new, Nat.zero_add]
    have hj : j < 1 := (List.getElem?_eq_some_iff.1 hu).1
    obtain rfl : j = 0 := by omega
    simpa using hu⟩⟩
set_option maxRecDepth 20000 in
set_option maxHeartbeats 16000000 in
theorem awake_any (w : World) : Calls Tryz.prog 10 #[] w fun e w' => e = .returned (.bool true) ∧ Nw w w' := by
  have HN := Lib.hid (Nw.refl w)
  go_enter Tryz.func10, Tryz.ntmps10
  go_wp2_with fail
  refine (example_any 30 0 _).mono ?_
  rintro e W1 ⟨rfl, hce, hfe, hn⟩
  have hns : Nw w W1 := Nw.trans (nwa) hn
  generalize hg1 : (w).heap.size = g1 at hce hfe ⊢
  have HN := Lib.hid (HN.out.trans hns)
  have HCE := Lib.hid hce
  have HFE := Lib.hid hfe
  have HGE := Lib.hid hg1
  clear hn hns hce hfe hg1
  have j103 : W1.cell? ⟨g1, 103, none⟩ = some (.int .i64 0) := HCE.out.cell (i := 5) (j := 13) rfl rfl rfl
  have y103 := HFE.out 103
  have j104 : W1.cell? ⟨g1, 104, none⟩ = some (.bool true) := HCE.out.cell (i := 5) (j := 14) rfl rfl rfl
  have y104 := HFE.out 104
  have j105 : W1.cell? ⟨g1, 105, none⟩ = some (.int .u64 3) := HCE.out.cell (i := 5) (j := 15) rfl rfl rfl
  have y105 := HFE.out 105
  have j106 : W1.cell? ⟨g1, 106, none⟩ = some (.int .u64 30) := HCE.out.cell (i := 5) (j := 16) rfl rfl rfl
  have y106 := HFE.out 106
  have j107 : W1.cell? ⟨g1, 107, none⟩ = some (.int .i64 0) := HCE.out.cell (i := 5) (j := 17) rfl rfl rfl
  have y107 := HFE.out 107
  haveI : In g1 W1 := ⟨HCE.out.in_ (by omega)⟩
  have hg : w.heap.size ≤ g1 := by have := HGE.out; omega
  obtain ⟨W2, hW2⟩ : ∃ q, q = (((((W1.setCell ⟨g1, 103, none⟩ (.int .i64 0)).setCell ⟨g1, 104, none⟩ (.bool true)).setCell ⟨g1, 105, none⟩ (.int .u64 4)).setCell ⟨g1, 106, none⟩ (.int .u64 40)).setCell ⟨g1, 107, none⟩ (.int .i64 0)) := ⟨_, rfl⟩
  have hl2 : Cs W2 (some ⟨g1, 0, none⟩) 7 exLate := by
    rw [hW2]
    exact Cs.resv 0 true 4 40 0 HCE.out (i := 5) (o := 90) (c := exN5 0 true 3 30) rfl rfl
  have hn2 : Nw w W2 := by rw [hW2]; exact (Nw.setCell (Nw.setCell (Nw.setCell (Nw.setCell (Nw.setCell HN.out (p := ⟨g1, 103, none⟩) hg (.int .i64 0)) (p := ⟨g1, 104, none⟩) hg (.bool true)) (p := ⟨g1, 105, none⟩) hg (.int .u64 4)) (p := ⟨g1, 106, none⟩) hg (.int .u64 40)) (p := ⟨g1, 107, none⟩) hg (.int .i64 0))
  have HL := Lib.hid hl2
  have HN := Lib.hid hn2
  have HW2 := Lib.hid hW2
  clear hl2 hn2 hW2 hg
  go_upto_region 3 with (fail)
  rw [← HW2.out]
  clear j103 y103 j104 y104 j105 y105 j106 y106 j107 y107
  go_wp2_with fail
  refine (example_any 30 40 _).mono ?_
  rintro e W3 ⟨rfl, hce, hfe, hn⟩
  have hns : Nw W2 W3 := Nw.trans (nwa) hn
  generalize hg3 : (W2).heap.size = g3 at hce hfe ⊢
  have HN := Lib.hid (HN.out.trans hns)
  have HL := Lib.hid ((fun h q => h.nw q) HL.out hns)
  have HCE := Lib.hid hce
  have HFE := Lib.hid hfe
  have HGE := Lib.hid hg3
  clear hn hns hce hfe hg3
  go_wp2_with fail
  refine (passes_yes HCE.out wf1 ex_1).mono ?_
  rintro e W4 ⟨rfl, hn⟩
  have hns : Nw W3 W4 := Nw.trans (nwa) hn
  have HN := Lib.hid (HN.out.trans hns)
  have HL := Lib.hid ((fun h q => h.nw q) HL.out hns)
  clear hn hns
  go_wp2_with fail
  refine (example_any 30 0 _).mono ?_
  rintro e W5 ⟨rfl, hce, hfe, hn⟩
  have hns : Nw W4 W5 := Nw.trans (nwa) hn
  generalize hg5 : (W4).heap.size = g5 at hce hfe ⊢
  have HN := Lib.hid (HN.out.trans hns)
  have HL := Lib.hid ((fun h q => h.nw q) HL.out hns)
  have HCE := Lib.hid hce
  have HFE := Lib.hid hfe
  have HGE := Lib.hid hg5
  clear hn hns hce hfe hg5
  go_wp2_with fail
  refine (passes_yes HCE.out wf2 ex_2).mono ?_
  rintro e W6 ⟨rfl, hn⟩
  have hns : Nw W5 W6 := Nw.trans (nwa) hn
  have HN := Lib.hid (HN.out.trans hns)
  have HL := Lib.hid ((fun h q => h.nw q) HL.out hns)
  clear hn hns
  go_wp2_with fail
  refine (fails_yes (HL.out.nw (nwa)) wf3 ex_3).mono ?_
  rintro e W7 ⟨rfl, hn⟩
  have hns : Nw W6 W7 := Nw.trans (nwa) hn
  have HN := Lib.hid (HN.out.trans hns)
  have HL := Lib.hid ((fun h q => h.nw q) HL.out hns)
  clear hn hns
  go_wp2_with fail
  refine (example_any 0 0 _).mono ?_
  rintro e W8 ⟨rfl, hce, hfe, hn⟩
  have hns : Nw W7 W8 := Nw.trans (nwa) hn
  generalize hg8 : (W7).heap.size = g8 at hce hfe ⊢
  have HN := Lib.hid (HN.out.trans hns)
  have HCE := Lib.hid hce
  have HFE := Lib.hid hfe
  have HGE := Lib.hid hg8
  clear hn hns hce hfe hg8
  go_wp2_with fail
  refine (fails_yes HCE.out wf4 ex_4).mono ?_
  rintro e W9 ⟨rfl, hn⟩
  have hns : Nw W8 W9 := Nw.trans (nwa) hn
  have HN := Lib.hid (HN.out.trans hns)
  clear hn hns
  go_wp2_with fail
  refine (example_any 31 0 _).mono ?_
  rintro e W10 ⟨rfl, hce, hfe, hn⟩
  have hns : Nw W9 W10 := Nw.trans (nwa) hn
  generalize hg10 : (W9).heap.size = g10 at hce hfe ⊢
  have HN := Lib.hid (HN.out.trans hns)
  have HCE := Lib.hid hce
  have HFE := Lib.hid hfe
  have HGE := Lib.hid hg10
  clear hn hns hce hfe hg10
  go_wp2_with fail
  refine (fails_yes HCE.out wf5 ex_5).mono ?_
  rintro e W11 ⟨rfl, hn⟩
  have hns : Nw W10 W11 := Nw.trans (nwa) hn
  have HN := Lib.hid (HN.out.trans hns)
  clear hn hns
  go_wp2_with fail
  refine (example_any 30 40 _).mono ?_
  rintro e W12 ⟨rfl, hce, hfe, hn⟩
  have hns : Nw W11 W12 := Nw.trans (nwa) hn
  generalize hg12 : (W11).heap.size = g12 at hce hfe ⊢
  have HN := Lib.hid (HN.out.trans hns)
  have HCE := Lib.hid hce
  have HFE := Lib.hid hfe
  have HGE := Lib.hid hg12
  clear hn hns hce hfe hg12
  go_wp2_with fail
  refine (told_any 4 _ 7 7 _ _ (by omega) (by omega) (by omega) HCE.out (fun y hy => (wf1 y hy).wf)).mono ?_
  rintro e W13 ⟨va, rfl, hown, hn⟩
  have hns : Nw W12 W13 := Nw.trans (nwa) hn
  have HN := Lib.hid (HN.out.trans hns)
  rw [ex_told] at hown ⊢
  obtain ⟨Aa, ca, rfl⟩ := own_slice hown
  have HA := Lib.hid (show Rd W13 2 Aa 2 (pcells [(3, 30), (4, 40)]) from own_rd hown)
  simp only [List.length_cons, List.length_nil, Nat.zero_add, Nat.reduceAdd]
  clear hown
  clear hn hns
  go_wp2_with fail
  refine (config_any _).mono ?_
  rintro e W14 ⟨rfl, hn⟩
  have hns : Nw W13 W14 := Nw.trans (nwa) hn
  have HN := Lib.hid (HN.out.trans hns)
  have HA := Lib.hid ((fun h q => Rd.nw h q) HA.out hns)
  clear hn hns
  go_wp2_with fail
  refine (example_any 30 0 _).mono ?_
  rintro e W15 ⟨rfl, hce, hfe, hn⟩
  have hns : Nw W14 W15 := Nw.trans (nwa) hn
  generalize hg15 : (W14).heap.size = g15 at hce hfe ⊢
  have HN := Lib.hid (HN.out.trans hns)
  have HA := Lib.hid ((fun h q => Rd.nw h q) HA.out hns)
  have HCE := Lib.hid hce
  have HFE := Lib.hid hfe
  have HGE := Lib.hid hg15
  clear hn hns hce hfe hg15
  go_wp2_with fail
  refine (powed_any (in3_ex HCE.out wf2) 4).mono ?_
  rintro e W16 ⟨vb, rfl, hown, hn⟩
  have hns : Nw W15 W16 := Nw.trans (nwa) hn
  have HN := Lib.hid (HN.out.trans hns)
  have HA := Lib.hid ((fun h q => Rd.nw h q) HA.out hns)
  rw [ex_owed] at hown ⊢
  obtain ⟨Ab, cb, rfl⟩ := own_slice hown
  have HB := Lib.hid (show Rd W16 1 Ab 1 (u64c [3]) from own_rd hown)
  simp only [List.length_cons, List.length_nil, Nat.zero_add, Nat.reduceAdd]
  clear hown
  clear hn hns
  go_wp2_with fail
  refine (example_any 30 40 _).mono ?_
  rintro e W17 ⟨rfl, hce, hfe, hn⟩
  have hns : Nw W16 W17 := Nw.trans (nwa) hn
  generalize hg17 : (W16).heap.size = g17 at hce hfe ⊢
  have HN := Lib.hid (HN.out.trans hns)
  have HA := Lib.hid ((fun h q => Rd.nw h q) HA.out hns)
  have HB := Lib.hid ((fun h q => Rd.nw h q) HB.out hns)
  have HCE := Lib.hid hce
  have HFE := Lib.hid hfe
  have HGE := Lib.hid hg17
  clear hn hns hce hfe hg17
  go_wp2_with fail
  refine (passages_any _ 7 7 _ _ (by omega) (by omega) (by omega) HCE.out (fun y hy => (wf1 y hy).wf)).mono ?_
  intro e W18 hP
  unfold PassP at hP
  rw [if_pos ex_bad] at hP
  obtain ⟨vp, zp, rfl, hrr, hn⟩ := hP
  rw [ex_pass] at hrr
  have hns : Nw W17 W18 := Nw.trans (nwa) hn
  have HN := Lib.hid (HN.out.trans hns)
  have HA := Lib.hid ((fun h q => Rd.nw h q) HA.out hns)
  have HB := Lib.hid ((fun h q => Rd.nw h q) HB.out hns)
  obtain ⟨Ap, cp, rfl⟩ := own_slice hrr.row
  have hzl : zp.length = 1 := hrr.len
  rw [hzl]
  have HP := Lib.hid (show RR W18 0 46 3 1 lnJ cfJ (.slice Ap 1 cp) zp [[4, 5, 6]] from by rw [hzl] at hrr; exact hrr.le (Nat.zero_le _))
  have HZL := Lib.hid hzl
  clear hrr hzl
  clear hn hns
  go_wp2_with fail
  refine (config_any _).mono ?_
  rintro e W19 ⟨rfl, hn⟩
  have hns : Nw W18 W19 := Nw.trans (nwa) hn
  have HN := Lib.hid (HN.out.trans hns)
  have HA := Lib.hid ((fun h q => Rd.nw h q) HA.out hns)
  have HB := Lib.hid ((fun h q => Rd.nw h q) HB.out hns)
  have HP := Lib.hid ((fun h q => h.nw q) HP.out hns)
  clear hn hns
  go_wp2_with fail
  refine (example_any 30 40 _).mono ?_
  rintro e W20 ⟨rfl, hce, hfe, hn⟩
  have hns : Nw W19 W20 := Nw.trans (nwa) hn
  generalize hg20 : (W19).heap.size = g20 at hce hfe ⊢
  have HN := Lib.hid (HN.out.trans hns)
  have HA := Lib.hid ((fun h q => Rd.nw h q) HA.out hns)
  have HB := Lib.hid ((fun h q => Rd.nw h q) HB.out hns)
  have HP := Lib.hid ((fun h q => h.nw q) HP.out hns)
  have HCE := Lib.hid hce
  have HFE := Lib.hid hfe
  have HGE := Lib.hid hg20
  clear hn hns hce hfe hg20
  go_wp2_with fail
  refine (powed_any (in3_ex HCE.out wf1) 4).mono ?_
  rintro e W21 ⟨vc, rfl, hown, hn⟩
  have hns : Nw W20 W21 := Nw.trans (nwa) hn
  have HN := Lib.hid (HN.out.trans hns)
  have HA := Lib.hid ((fun h q => Rd.nw h q) HA.out hns)
  have HB := Lib.hid ((fun h q => Rd.nw h q) HB.out hns)
  have HP := Lib.hid ((fun h q => h.nw q) HP.out hns)
  rw [ex_owed2]
  rw [ex_owed2] at hown
  obtain ⟨Ac, cc, rfl⟩ := own_slice hown
  clear hown
  clear hn hns
  go_wp2_with fail
  refine (example_any 30 40 _).mono ?_
  rintro e W22 ⟨rfl, hce, hfe, hn⟩
  have hns : Nw W21 W22 := Nw.trans (nwa) hn
  generalize hg22 : (W21).heap.size = g22 at hce hfe ⊢
  have HN := Lib.hid (HN.out.trans hns)
  have HA := Lib.hid ((fun h q => Rd.nw h q) HA.out hns)
  have HB := Lib.hid ((fun h q => Rd.nw h q) HB.out hns)
  have HP := Lib.hid ((fun h q => h.nw q) HP.out hns)
  have HCE := Lib.hid hce
  have HFE := Lib.hid hfe
  have HGE := Lib.hid hg22
  clear hn hns hce hfe hg22
  go_wp2_with fail
  refine (told_any 5 _ 7 7 _ _ (by omega) (by omega) (by omega) HCE.out (fun y hy => (wf1 y hy).wf)).mono ?_
  rintro e W23 ⟨vd, rfl, hown, hn⟩
  have hns : Nw W22 W23 := Nw.trans (nwa) hn
  have HN := Lib.hid (HN.out.trans hns)
  have HA := Lib.hid ((fun h q => Rd.nw h q) HA.out hns)
  have HB := Lib.hid ((fun h q => Rd.nw h q) HB.out hns)
  have HP := Lib.hid ((fun h q => h.nw q) HP.out hns)
  rw [ex_told2]
  rw [ex_told2] at hown
  obtain ⟨Ad, cd, rfl⟩ := own_slice hown
  clear hown
  clear hn hns
  go_wp2_with fail
  refine (eqPairs_any Aa _ 2 2 ca _ [(3, 30), (4, 40)] [(3, 30), (4, 40)] _ (Rd.nw HA.out (nwa)) (two_rd _ _) (by omega) (by omega)).mono ?_
  rintro e W24 ⟨rfl, hn⟩
  have hns : Nw W23 W24 := Nw.trans (nwa) hn
  have HN := Lib.hid (HN.out.trans hns)
  have HA := Lib.hid ((fun h q => Rd.nw h q) HA.out hns)
  have HB := Lib.hid ((fun h q => Rd.nw h q) HB.out hns)
  have HP := Lib.hid ((fun h q => h.nw q) HP.out hns)
  clear hn hns
  go_wp2_with fail
  refine (eqUints_same Ab _ 1 cb _ [3] _ (Rd.nw HB.out (nwa)) (one_rd _ _ _) (by omega)).mono ?_
  rintro e W25 ⟨rfl, hn⟩
  have hns : Nw W24 W25 := Nw.trans (nwa) hn
  have HN := Lib.hid (HN.out.trans hns)
  have HA := Lib.hid ((fun h q => Rd.nw h q) HA.out hns)
  have HB := Lib.hid ((fun h q => Rd.nw h q) HB.out hns)
  have HP := Lib.hid ((fun h q => h.nw q) HP.out hns)
  clear hn hns
  go_wp2_with fail
  refine (eqInts2_same Ap _ 1 cp _ zp [.slice (some ⟨(W25).heap.size, 0, none⟩) 3 3] [[4, 5, 6]] _ (Rd.nw (own_rd (show World.ownsRow W25 0 46 1 (.slice Ap 1 cp) 1 zp from by have h := HP.out.row; rw [HZL.out] at h; exact h)) (nwa)) (by have h := one_rd ((W25).alloc (.cells #[.int .i64 4, .int .i64 5, .int .i64 6] 3)) 46 (.slice (some ⟨(W25).heap.size, 0, none⟩) 3 3); rw [World.size_alloc] at h; exact h) rfl (by omega) (fun i z r hz hr => by obtain ⟨z2, h1, h2⟩ := HP.out.get hr; rw [hz] at h1; injection h1 with h1; subst h1; have h3 : OwnI W25 0 z (natI r) := h2; obtain ⟨Az, cz, rfl, his⟩ := own_is h3; rw [natI_len] at his ⊢; exact ⟨Az, cz, rfl, his.nw (nwa), by cases i with | zero => simp at hr; subst hr; decide | succ i => simp at hr⟩) (fun i z r hz hr => by cases i with | zero => (simp at hz hr; subst hz hr; exact ⟨_, 3, rfl, (Is_built W25 [4, 5, 6] #[.int .i64 4, .int .i64 5, .int .i64 6] 3 3 rfl rfl).nw (nwa), by decide⟩) | succ i => simp at hz)).mono ?_
  rintro e W26 ⟨rfl, hn⟩
  have hns : Nw W25 W26 := Nw.trans (nwa) hn
  have HN := Lib.hid (HN.out.trans hns)
  have HA := Lib.hid ((fun h q => Rd.nw h q) HA.out hns)
  have HB := Lib.hid ((fun h q => Rd.nw h q) HB.out hns)
  have HP := Lib.hid ((fun h q => h.nw q) HP.out hns)
  clear hn hns
  go_wp2
  go_ret
  exact ⟨rfl, HN.out⟩
end Go.Proofs.YtkikdpdainmlcaaGreat
