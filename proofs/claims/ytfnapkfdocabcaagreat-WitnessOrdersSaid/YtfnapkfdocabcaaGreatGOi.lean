import Derived.Test.YtfnapkfdocabcaaGreatGOf
set_option linter.unusedVariables false
set_option linter.unusedSimpArgs false
set_option linter.unnecessarySimpa false
namespace Go.Proofs.YtfnapkfdocabcaaGreat
open Go.RowKit Go.Xt
/-! The examples of the chapter hold. -/
theorem Cs.in_ {w : World} {g n : Nat} {l : List Cl} (h : Cs w (some ⟨g, 0, none⟩) n l) (hn : 0 < n) : g < w.heap.size := by
  obtain ⟨b', o', e, hb, -⟩ := h.2 hn
  obtain ⟨rfl, rfl⟩ : g = b' ∧ 0 = o' := by simpa using e
  exact hb
theorem Cs.cell {w : World} {g n : Nat} {l : List Cl} (h : Cs w (some ⟨g, 0, none⟩) n l) {i j off : Nat} {c : Cl} {u : Value} (hi : l[i]? = some c) (hj : (cl c)[j]? = some u) (ho : off = i * 18 + j) : w.cell? ⟨g, off, none⟩ = some u := by
  obtain ⟨b', o', e, hb, hc⟩ := h.2 (by have := (List.getElem?_eq_some_iff.1 hi).1; rw [← h.1]; omega)
  obtain ⟨rfl, rfl⟩ : g = b' ∧ 0 = o' := by simpa using e
  have := (hc i c hi).range j u hj
  rw [ho]
  rwa [show 0 + i * 18 + j = i * 18 + j by omega] at this
theorem in3_ex {w : World} {g : Nat} {l : List Cl} (hl : Cs w (some ⟨g, 0, none⟩) 4 l) (hw : ∀ y ∈ l, WfX y) : In3 w exC [] (some ⟨g, 0, none⟩) 4 4 l :=
  ⟨⟨rfl, fun h => absurd h (by simp)⟩, rfl, by decide, by omega, by omega, by omega, hl, hw⟩
theorem own_is {w : World} {base : Nat} {v : Value} {z : List Int} (h : OwnI w base v z) : ∃ A c, v = .slice A z.length c ∧ Is w A z.length z := h.form
theorem five_rd (w : World) (t : TypeId) : Rd (w.alloc (.cells #[.int .u64 5, .int .u64 50] t)) 2 (some ⟨w.heap.size, 0, none⟩) 1 (pcells [(5, 50)]) :=
  ⟨rfl, fun _ => ⟨_, 0, rfl, by simp, fun j u hu => by
    rw [World.cell?_alloc_new, Nat.zero_add]
    have hj : j < 2 := (List.getElem?_eq_some_iff.1 hu).1
    rcases (by omega : j = 0 ∨ j = 1) with rfl | rfl
    · simpa [pcells] using hu
    · simpa [pcells] using hu⟩⟩
set_option maxRecDepth 20000 in
set_option maxHeartbeats 8000000 in
theorem awake_any (w : World) : Calls Tryz.prog 9 #[] w fun e w' => e = .returned (.bool true) ∧ Nw w w' := by
  go_enter Tryz.func9, Tryz.ntmps9
  go_wp2_with fail
  refine (example_any _).mono ?_
  rintro e W1 ⟨rfl, hc1, hz1, hn1⟩
  obtain ⟨g, hg⟩ : ∃ g, g = w.heap.size := ⟨_, rfl⟩
  rw [← hg] at hc1 hz1 ⊢
  haveI : In g W1 := ⟨hc1.in_ (by omega)⟩
  have HN1 := Lib.hid hn1
  have HC1 := Lib.hid hc1
  have HZ1 := Lib.hid hz1
  have HG := Lib.hid (show w.heap.size ≤ g by omega)
  have HIN := Lib.hid (in3_ex hc1 (exV_wf 0 false 0 (by decide)))
  clear hn1 hc1 hz1 hg
  go_wp2_with fail
  refine (config_any _).mono ?_
  rintro e W2 ⟨rfl, hn2⟩
  have HN1_2 := Lib.hid (show Nw W1 W2 from Nw.trans ((by repeat (first | exact Xt.Nw.refl _ | refine Xt.Nw.drew ?_ | refine Xt.Nw.drewN ?_ _ | refine Xt.Nw.alloc ?_ _ | refine Xt.Nw.joined ?_ | refine Xt.Nw.drewd ?_ | refine Xt.Nw.drewdN ?_ | refine Xt.Nw.ext ?_ | refine Xt.Nw.ext_some ?_ (by assumption) | refine Xt.Nw.setCell ?_ (by simp [go_sem] <;> omega) _))) hn2)
  clear hn2
  go_wp2_with fail
  refine (wcheck_any (HIN.out.nw (Nw.trans HN1_2.out ((by repeat (first | exact Xt.Nw.refl _ | refine Xt.Nw.drew ?_ | refine Xt.Nw.drewN ?_ _ | refine Xt.Nw.alloc ?_ _ | refine Xt.Nw.joined ?_ | refine Xt.Nw.drewd ?_ | refine Xt.Nw.drewdN ?_ | refine Xt.Nw.ext ?_ | refine Xt.Nw.ext_some ?_ (by assumption) | refine Xt.Nw.setCell ?_ (by simp [go_sem] <;> omega) _)))))).mono ?_
  rw [ex_chk]
  rintro e W3 ⟨rfl, hn3⟩
  have HN1_3 := Lib.hid (show Nw W1 W3 from Nw.trans (Nw.trans HN1_2.out ((by repeat (first | exact Xt.Nw.refl _ | refine Xt.Nw.drew ?_ | refine Xt.Nw.drewN ?_ _ | refine Xt.Nw.alloc ?_ _ | refine Xt.Nw.joined ?_ | refine Xt.Nw.drewd ?_ | refine Xt.Nw.drewdN ?_ | refine Xt.Nw.ext ?_ | refine Xt.Nw.ext_some ?_ (by assumption) | refine Xt.Nw.setCell ?_ (by simp [go_sem] <;> omega) _)))) hn3)
  clear hn3
  clear HN1_2
  go_wp2_with fail
  refine (config_any _).mono ?_
  rintro e W4 ⟨rfl, hn4⟩
  have HN1_4 := Lib.hid (show Nw W1 W4 from Nw.trans (Nw.trans HN1_3.out ((by repeat (first | exact Xt.Nw.refl _ | refine Xt.Nw.drew ?_ | refine Xt.Nw.drewN ?_ _ | refine Xt.Nw.alloc ?_ _ | refine Xt.Nw.joined ?_ | refine Xt.Nw.drewd ?_ | refine Xt.Nw.drewdN ?_ | refine Xt.Nw.ext ?_ | refine Xt.Nw.ext_some ?_ (by assumption) | refine Xt.Nw.setCell ?_ (by simp [go_sem] <;> omega) _)))) hn4)
  clear hn4
  clear HN1_3
  go_wp2_with fail
  refine (worder_any (HIN.out.nw (Nw.trans HN1_4.out ((by repeat (first | exact Xt.Nw.refl _ | refine Xt.Nw.drew ?_ | refine Xt.Nw.drewN ?_ _ | refine Xt.Nw.alloc ?_ _ | refine Xt.Nw.joined ?_ | refine Xt.Nw.drewd ?_ | refine Xt.Nw.drewdN ?_ | refine Xt.Nw.ext ?_ | refine Xt.Nw.ext_some ?_ (by assumption) | refine Xt.Nw.setCell ?_ (by simp [go_sem] <;> omega) _))))) (by omega)).mono ?_
  intro e W5 hP
  obtain ⟨A5, c5, rfl, his, hn5⟩ := ex_order (z := [0, 1, 3, 2]) ex_rds (by decide) (by decide) (by decide) hP
  simp only [List.length_cons, List.length_nil, Nat.zero_add, Nat.reduceAdd] at his ⊢
  have HI5 := Lib.hid his
  clear his hP
  have HN1_5 := Lib.hid (show Nw W1 W5 from Nw.trans (Nw.trans HN1_4.out ((by repeat (first | exact Xt.Nw.refl _ | refine Xt.Nw.drew ?_ | refine Xt.Nw.drewN ?_ _ | refine Xt.Nw.alloc ?_ _ | refine Xt.Nw.joined ?_ | refine Xt.Nw.drewd ?_ | refine Xt.Nw.drewdN ?_ | refine Xt.Nw.ext ?_ | refine Xt.Nw.ext_some ?_ (by assumption) | refine Xt.Nw.setCell ?_ (by simp [go_sem] <;> omega) _)))) hn5)
  clear hn5
  clear HN1_4
  go_wp2_with fail
  refine (config_any _).mono ?_
  rintro e W6 ⟨rfl, hn6⟩
  have HN1_6 := Lib.hid (show Nw W1 W6 from Nw.trans (Nw.trans HN1_5.out ((by repeat (first | exact Xt.Nw.refl _ | refine Xt.Nw.drew ?_ | refine Xt.Nw.drewN ?_ _ | refine Xt.Nw.alloc ?_ _ | refine Xt.Nw.joined ?_ | refine Xt.Nw.drewd ?_ | refine Xt.Nw.drewdN ?_ | refine Xt.Nw.ext ?_ | refine Xt.Nw.ext_some ?_ (by assumption) | refine Xt.Nw.setCell ?_ (by simp [go_sem] <;> omega) _)))) hn6)
  have HN5_6 := Lib.hid (show Nw W5 W6 from Nw.trans ((by repeat (first | exact Xt.Nw.refl _ | refine Xt.Nw.drew ?_ | refine Xt.Nw.drewN ?_ _ | refine Xt.Nw.alloc ?_ _ | refine Xt.Nw.joined ?_ | refine Xt.Nw.drewd ?_ | refine Xt.Nw.drewdN ?_ | refine Xt.Nw.ext ?_ | refine Xt.Nw.ext_some ?_ (by assumption) | refine Xt.Nw.setCell ?_ (by simp [go_sem] <;> omega) _))) hn6)
  clear hn6
  clear HN1_5
  go_wp2_with fail
  refine (wreads_any (HIN.out.nw (Nw.trans HN1_6.out ((by repeat (first | exact Xt.Nw.refl _ | refine Xt.Nw.drew ?_ | refine Xt.Nw.drewN ?_ _ | refine Xt.Nw.alloc ?_ _ | refine Xt.Nw.joined ?_ | refine Xt.Nw.drewd ?_ | refine Xt.Nw.drewdN ?_ | refine Xt.Nw.ext ?_ | refine Xt.Nw.ext_some ?_ (by assumption) | refine Xt.Nw.setCell ?_ (by simp [go_sem] <;> omega) _)))))).mono ?_
  intro e W7 hP
  unfold ReadsP at hP
  rw [ex_rds] at hP
  obtain ⟨v, rfl, hown, hn7⟩ := hP
  obtain ⟨A7, c7, rfl, his⟩ := own_is hown
  simp only [List.length_cons, List.length_nil, Nat.zero_add, Nat.reduceAdd] at his ⊢
  have HI7 := Lib.hid his
  clear his hown
  have HN1_7 := Lib.hid (show Nw W1 W7 from Nw.trans (Nw.trans HN1_6.out ((by repeat (first | exact Xt.Nw.refl _ | refine Xt.Nw.drew ?_ | refine Xt.Nw.drewN ?_ _ | refine Xt.Nw.alloc ?_ _ | refine Xt.Nw.joined ?_ | refine Xt.Nw.drewd ?_ | refine Xt.Nw.drewdN ?_ | refine Xt.Nw.ext ?_ | refine Xt.Nw.ext_some ?_ (by assumption) | refine Xt.Nw.setCell ?_ (by simp [go_sem] <;> omega) _)))) hn7)
  have HN5_7 := Lib.hid (show Nw W5 W7 from Nw.trans (Nw.trans HN5_6.out ((by repeat (first | exact Xt.Nw.refl _ | refine Xt.Nw.drew ?_ | refine Xt.Nw.drewN ?_ _ | refine Xt.Nw.alloc ?_ _ | refine Xt.Nw.joined ?_ | refine Xt.Nw.drewd ?_ | refine Xt.Nw.drewdN ?_ | refine Xt.Nw.ext ?_ | refine Xt.Nw.ext_some ?_ (by assumption) | refine Xt.Nw.setCell ?_ (by simp [go_sem] <;> omega) _)))) hn7)
  clear hn7
  clear HN1_6
  clear HN5_6
  go_wp2_with fail
  refine (config_any _).mono ?_
  rintro e W8 ⟨rfl, hn8⟩
  have HN1_8 := Lib.hid (show Nw W1 W8 from Nw.trans (Nw.trans HN1_7.out ((by repeat (first | exact Xt.Nw.refl _ | refine Xt.Nw.drew ?_ | refine Xt.Nw.drewN ?_ _ | refine Xt.Nw.alloc ?_ _ | refine Xt.Nw.joined ?_ | refine Xt.Nw.drewd ?_ | refine Xt.Nw.drewdN ?_ | refine Xt.Nw.ext ?_ | refine Xt.Nw.ext_some ?_ (by assumption) | refine Xt.Nw.setCell ?_ (by simp [go_sem] <;> omega) _)))) hn8)
  have HN5_8 := Lib.hid (show Nw W5 W8 from Nw.trans (Nw.trans HN5_7.out ((by repeat (first | exact Xt.Nw.refl _ | refine Xt.Nw.drew ?_ | refine Xt.Nw.drewN ?_ _ | refine Xt.Nw.alloc ?_ _ | refine Xt.Nw.joined ?_ | refine Xt.Nw.drewd ?_ | refine Xt.Nw.drewdN ?_ | refine Xt.Nw.ext ?_ | refine Xt.Nw.ext_some ?_ (by assumption) | refine Xt.Nw.setCell ?_ (by simp [go_sem] <;> omega) _)))) hn8)
  have HN7_8 := Lib.hid (show Nw W7 W8 from Nw.trans ((by repeat (first | exact Xt.Nw.refl _ | refine Xt.Nw.drew ?_ | refine Xt.Nw.drewN ?_ _ | refine Xt.Nw.alloc ?_ _ | refine Xt.Nw.joined ?_ | refine Xt.Nw.drewd ?_ | refine Xt.Nw.drewdN ?_ | refine Xt.Nw.ext ?_ | refine Xt.Nw.ext_some ?_ (by assumption) | refine Xt.Nw.setCell ?_ (by simp [go_sem] <;> omega) _))) hn8)
  clear hn8
  clear HN1_7
  clear HN5_7
  go_wp2_with fail
  refine (wat_any (HIN.out.nw (Nw.trans HN1_8.out ((by repeat (first | exact Xt.Nw.refl _ | refine Xt.Nw.drew ?_ | refine Xt.Nw.drewN ?_ _ | refine Xt.Nw.alloc ?_ _ | refine Xt.Nw.joined ?_ | refine Xt.Nw.drewd ?_ | refine Xt.Nw.drewdN ?_ | refine Xt.Nw.ext ?_ | refine Xt.Nw.ext_some ?_ (by assumption) | refine Xt.Nw.setCell ?_ (by simp [go_sem] <;> omega) _))))) 19).mono ?_
  intro e W9 hP
  unfold PairsP at hP
  rw [ex_at19] at hP
  obtain ⟨v, rfl, hown, hn9, -⟩ := hP
  obtain ⟨A9, c9, rfl⟩ := own_slice hown
  have HP9 := Lib.hid (own_rd hown)
  simp only [List.length_cons, List.length_nil, Nat.zero_add] at HP9 ⊢
  clear hown
  have HN1_9 := Lib.hid (show Nw W1 W9 from Nw.trans (Nw.trans HN1_8.out ((by repeat (first | exact Xt.Nw.refl _ | refine Xt.Nw.drew ?_ | refine Xt.Nw.drewN ?_ _ | refine Xt.Nw.alloc ?_ _ | refine Xt.Nw.joined ?_ | refine Xt.Nw.drewd ?_ | refine Xt.Nw.drewdN ?_ | refine Xt.Nw.ext ?_ | refine Xt.Nw.ext_some ?_ (by assumption) | refine Xt.Nw.setCell ?_ (by simp [go_sem] <;> omega) _)))) hn9)
  have HN5_9 := Lib.hid (show Nw W5 W9 from Nw.trans (Nw.trans HN5_8.out ((by repeat (first | exact Xt.Nw.refl _ | refine Xt.Nw.drew ?_ | refine Xt.Nw.drewN ?_ _ | refine Xt.Nw.alloc ?_ _ | refine Xt.Nw.joined ?_ | refine Xt.Nw.drewd ?_ | refine Xt.Nw.drewdN ?_ | refine Xt.Nw.ext ?_ | refine Xt.Nw.ext_some ?_ (by assumption) | refine Xt.Nw.setCell ?_ (by simp [go_sem] <;> omega) _)))) hn9)
  have HN7_9 := Lib.hid (show Nw W7 W9 from Nw.trans (Nw.trans HN7_8.out ((by repeat (first | exact Xt.Nw.refl _ | refine Xt.Nw.drew ?_ | refine Xt.Nw.drewN ?_ _ | refine Xt.Nw.alloc ?_ _ | refine Xt.Nw.joined ?_ | refine Xt.Nw.drewd ?_ | refine Xt.Nw.drewdN ?_ | refine Xt.Nw.ext ?_ | refine Xt.Nw.ext_some ?_ (by assumption) | refine Xt.Nw.setCell ?_ (by simp [go_sem] <;> omega) _)))) hn9)
  clear hn9
  clear HN1_8
  clear HN5_8
  clear HN7_8
  go_wp2_with fail
  refine (config_any _).mono ?_
  rintro e W10 ⟨rfl, hn10⟩
  have HN1_10 := Lib.hid (show Nw W1 W10 from Nw.trans (Nw.trans HN1_9.out ((by repeat (first | exact Xt.Nw.refl _ | refine Xt.Nw.drew ?_ | refine Xt.Nw.drewN ?_ _ | refine Xt.Nw.alloc ?_ _ | refine Xt.Nw.joined ?_ | refine Xt.Nw.drewd ?_ | refine Xt.Nw.drewdN ?_ | refine Xt.Nw.ext ?_ | refine Xt.Nw.ext_some ?_ (by assumption) | refine Xt.Nw.setCell ?_ (by simp [go_sem] <;> omega) _)))) hn10)
  have HN5_10 := Lib.hid (show Nw W5 W10 from Nw.trans (Nw.trans HN5_9.out ((by repeat (first | exact Xt.Nw.refl _ | refine Xt.Nw.drew ?_ | refine Xt.Nw.drewN ?_ _ | refine Xt.Nw.alloc ?_ _ | refine Xt.Nw.joined ?_ | refine Xt.Nw.drewd ?_ | refine Xt.Nw.drewdN ?_ | refine Xt.Nw.ext ?_ | refine Xt.Nw.ext_some ?_ (by assumption) | refine Xt.Nw.setCell ?_ (by simp [go_sem] <;> omega) _)))) hn10)
  have HN7_10 := Lib.hid (show Nw W7 W10 from Nw.trans (Nw.trans HN7_9.out ((by repeat (first | exact Xt.Nw.refl _ | refine Xt.Nw.drew ?_ | refine Xt.Nw.drewN ?_ _ | refine Xt.Nw.alloc ?_ _ | refine Xt.Nw.joined ?_ | refine Xt.Nw.drewd ?_ | refine Xt.Nw.drewdN ?_ | refine Xt.Nw.ext ?_ | refine Xt.Nw.ext_some ?_ (by assumption) | refine Xt.Nw.setCell ?_ (by simp [go_sem] <;> omega) _)))) hn10)
  have HN9_10 := Lib.hid (show Nw W9 W10 from Nw.trans ((by repeat (first | exact Xt.Nw.refl _ | refine Xt.Nw.drew ?_ | refine Xt.Nw.drewN ?_ _ | refine Xt.Nw.alloc ?_ _ | refine Xt.Nw.joined ?_ | refine Xt.Nw.drewd ?_ | refine Xt.Nw.drewdN ?_ | refine Xt.Nw.ext ?_ | refine Xt.Nw.ext_some ?_ (by assumption) | refine Xt.Nw.setCell ?_ (by simp [go_sem] <;> omega) _))) hn10)
  clear hn10
  clear HN1_9
  clear HN5_9
  clear HN7_9
  go_wp2_with fail
  refine (wat_any (HIN.out.nw (Nw.trans HN1_10.out ((by repeat (first | exact Xt.Nw.refl _ | refine Xt.Nw.drew ?_ | refine Xt.Nw.drewN ?_ _ | refine Xt.Nw.alloc ?_ _ | refine Xt.Nw.joined ?_ | refine Xt.Nw.drewd ?_ | refine Xt.Nw.drewdN ?_ | refine Xt.Nw.ext ?_ | refine Xt.Nw.ext_some ?_ (by assumption) | refine Xt.Nw.setCell ?_ (by simp [go_sem] <;> omega) _))))) 20).mono ?_
  intro e W11 hP
  unfold PairsP at hP
  rw [ex_at20] at hP
  obtain ⟨v, rfl, hown, hn11, -⟩ := hP
  obtain ⟨A11, c11, rfl⟩ := own_slice hown
  have HP11 := Lib.hid (own_rd hown)
  simp only [List.length_cons, List.length_nil, Nat.zero_add] at HP11 ⊢
  clear hown
  have HN1_11 := Lib.hid (show Nw W1 W11 from Nw.trans (Nw.trans HN1_10.out ((by repeat (first | exact Xt.Nw.refl _ | refine Xt.Nw.drew ?_ | refine Xt.Nw.drewN ?_ _ | refine Xt.Nw.alloc ?_ _ | refine Xt.Nw.joined ?_ | refine Xt.Nw.drewd ?_ | refine Xt.Nw.drewdN ?_ | refine Xt.Nw.ext ?_ | refine Xt.Nw.ext_some ?_ (by assumption) | refine Xt.Nw.setCell ?_ (by simp [go_sem] <;> omega) _)))) hn11)
  have HN5_11 := Lib.hid (show Nw W5 W11 from Nw.trans (Nw.trans HN5_10.out ((by repeat (first | exact Xt.Nw.refl _ | refine Xt.Nw.drew ?_ | refine Xt.Nw.drewN ?_ _ | refine Xt.Nw.alloc ?_ _ | refine Xt.Nw.joined ?_ | refine Xt.Nw.drewd ?_ | refine Xt.Nw.drewdN ?_ | refine Xt.Nw.ext ?_ | refine Xt.Nw.ext_some ?_ (by assumption) | refine Xt.Nw.setCell ?_ (by simp [go_sem] <;> omega) _)))) hn11)
  have HN7_11 := Lib.hid (show Nw W7 W11 from Nw.trans (Nw.trans HN7_10.out ((by repeat (first | exact Xt.Nw.refl _ | refine Xt.Nw.drew ?_ | refine Xt.Nw.drewN ?_ _ | refine Xt.Nw.alloc ?_ _ | refine Xt.Nw.joined ?_ | refine Xt.Nw.drewd ?_ | refine Xt.Nw.drewdN ?_ | refine Xt.Nw.ext ?_ | refine Xt.Nw.ext_some ?_ (by assumption) | refine Xt.Nw.setCell ?_ (by simp [go_sem] <;> omega) _)))) hn11)
  have HN9_11 := Lib.hid (show Nw W9 W11 from Nw.trans (Nw.trans HN9_10.out ((by repeat (first | exact Xt.Nw.refl _ | refine Xt.Nw.drew ?_ | refine Xt.Nw.drewN ?_ _ | refine Xt.Nw.alloc ?_ _ | refine Xt.Nw.joined ?_ | refine Xt.Nw.drewd ?_ | refine Xt.Nw.drewdN ?_ | refine Xt.Nw.ext ?_ | refine Xt.Nw.ext_some ?_ (by assumption) | refine Xt.Nw.setCell ?_ (by simp [go_sem] <;> omega) _)))) hn11)
  clear hn11
  clear HN1_10
  clear HN5_10
  clear HN7_10
  clear HN9_10
  go_wp2_with fail
  refine (config_any _).mono ?_
  rintro e W12 ⟨rfl, hn12⟩
  have HN1_12 := Lib.hid (show Nw W1 W12 from Nw.trans (Nw.trans HN1_11.out ((by repeat (first | exact Xt.Nw.refl _ | refine Xt.Nw.drew ?_ | refine Xt.Nw.drewN ?_ _ | refine Xt.Nw.alloc ?_ _ | refine Xt.Nw.joined ?_ | refine Xt.Nw.drewd ?_ | refine Xt.Nw.drewdN ?_ | refine Xt.Nw.ext ?_ | refine Xt.Nw.ext_some ?_ (by assumption) | refine Xt.Nw.setCell ?_ (by simp [go_sem] <;> omega) _)))) hn12)
  have HN5_12 := Lib.hid (show Nw W5 W12 from Nw.trans (Nw.trans HN5_11.out ((by repeat (first | exact Xt.Nw.refl _ | refine Xt.Nw.drew ?_ | refine Xt.Nw.drewN ?_ _ | refine Xt.Nw.alloc ?_ _ | refine Xt.Nw.joined ?_ | refine Xt.Nw.drewd ?_ | refine Xt.Nw.drewdN ?_ | refine Xt.Nw.ext ?_ | refine Xt.Nw.ext_some ?_ (by assumption) | refine Xt.Nw.setCell ?_ (by simp [go_sem] <;> omega) _)))) hn12)
  have HN7_12 := Lib.hid (show Nw W7 W12 from Nw.trans (Nw.trans HN7_11.out ((by repeat (first | exact Xt.Nw.refl _ | refine Xt.Nw.drew ?_ | refine Xt.Nw.drewN ?_ _ | refine Xt.Nw.alloc ?_ _ | refine Xt.Nw.joined ?_ | refine Xt.Nw.drewd ?_ | refine Xt.Nw.drewdN ?_ | refine Xt.Nw.ext ?_ | refine Xt.Nw.ext_some ?_ (by assumption) | refine Xt.Nw.setCell ?_ (by simp [go_sem] <;> omega) _)))) hn12)
  have HN9_12 := Lib.hid (show Nw W9 W12 from Nw.trans (Nw.trans HN9_11.out ((by repeat (first | exact Xt.Nw.refl _ | refine Xt.Nw.drew ?_ | refine Xt.Nw.drewN ?_ _ | refine Xt.Nw.alloc ?_ _ | refine Xt.Nw.joined ?_ | refine Xt.Nw.drewd ?_ | refine Xt.Nw.drewdN ?_ | refine Xt.Nw.ext ?_ | refine Xt.Nw.ext_some ?_ (by assumption) | refine Xt.Nw.setCell ?_ (by simp [go_sem] <;> omega) _)))) hn12)
  have HN11_12 := Lib.hid (show Nw W11 W12 from Nw.trans ((by repeat (first | exact Xt.Nw.refl _ | refine Xt.Nw.drew ?_ | refine Xt.Nw.drewN ?_ _ | refine Xt.Nw.alloc ?_ _ | refine Xt.Nw.joined ?_ | refine Xt.Nw.drewd ?_ | refine Xt.Nw.drewdN ?_ | refine Xt.Nw.ext ?_ | refine Xt.Nw.ext_some ?_ (by assumption) | refine Xt.Nw.setCell ?_ (by simp [go_sem] <;> omega) _))) hn12)
  clear hn12
  clear HN1_11
  clear HN5_11
  clear HN7_11
  clear HN9_11
  go_wp2_with fail
  refine (wfinal_any (HIN.out.nw (Nw.trans HN1_12.out ((by repeat (first | exact Xt.Nw.refl _ | refine Xt.Nw.drew ?_ | refine Xt.Nw.drewN ?_ _ | refine Xt.Nw.alloc ?_ _ | refine Xt.Nw.joined ?_ | refine Xt.Nw.drewd ?_ | refine Xt.Nw.drewdN ?_ | refine Xt.Nw.ext ?_ | refine Xt.Nw.ext_some ?_ (by assumption) | refine Xt.Nw.setCell ?_ (by simp [go_sem] <;> omega) _)))))).mono ?_
  intro e W13 hP
  unfold PairsP at hP
  rw [ex_fin] at hP
  obtain ⟨v, rfl, hown, hn13, -⟩ := hP
  obtain ⟨A13, c13, rfl⟩ := own_slice hown
  have HP13 := Lib.hid (own_rd hown)
  simp only [List.length_cons, List.length_nil, Nat.zero_add] at HP13 ⊢
  clear hown
  have HN1_13 := Lib.hid (show Nw W1 W13 from Nw.trans (Nw.trans HN1_12.out ((by repeat (first | exact Xt.Nw.refl _ | refine Xt.Nw.drew ?_ | refine Xt.Nw.drewN ?_ _ | refine Xt.Nw.alloc ?_ _ | refine Xt.Nw.joined ?_ | refine Xt.Nw.drewd ?_ | refine Xt.Nw.drewdN ?_ | refine Xt.Nw.ext ?_ | refine Xt.Nw.ext_some ?_ (by assumption) | refine Xt.Nw.setCell ?_ (by simp [go_sem] <;> omega) _)))) hn13)
  have HN5_13 := Lib.hid (show Nw W5 W13 from Nw.trans (Nw.trans HN5_12.out ((by repeat (first | exact Xt.Nw.refl _ | refine Xt.Nw.drew ?_ | refine Xt.Nw.drewN ?_ _ | refine Xt.Nw.alloc ?_ _ | refine Xt.Nw.joined ?_ | refine Xt.Nw.drewd ?_ | refine Xt.Nw.drewdN ?_ | refine Xt.Nw.ext ?_ | refine Xt.Nw.ext_some ?_ (by assumption) | refine Xt.Nw.setCell ?_ (by simp [go_sem] <;> omega) _)))) hn13)
  have HN7_13 := Lib.hid (show Nw W7 W13 from Nw.trans (Nw.trans HN7_12.out ((by repeat (first | exact Xt.Nw.refl _ | refine Xt.Nw.drew ?_ | refine Xt.Nw.drewN ?_ _ | refine Xt.Nw.alloc ?_ _ | refine Xt.Nw.joined ?_ | refine Xt.Nw.drewd ?_ | refine Xt.Nw.drewdN ?_ | refine Xt.Nw.ext ?_ | refine Xt.Nw.ext_some ?_ (by assumption) | refine Xt.Nw.setCell ?_ (by simp [go_sem] <;> omega) _)))) hn13)
  have HN9_13 := Lib.hid (show Nw W9 W13 from Nw.trans (Nw.trans HN9_12.out ((by repeat (first | exact Xt.Nw.refl _ | refine Xt.Nw.drew ?_ | refine Xt.Nw.drewN ?_ _ | refine Xt.Nw.alloc ?_ _ | refine Xt.Nw.joined ?_ | refine Xt.Nw.drewd ?_ | refine Xt.Nw.drewdN ?_ | refine Xt.Nw.ext ?_ | refine Xt.Nw.ext_some ?_ (by assumption) | refine Xt.Nw.setCell ?_ (by simp [go_sem] <;> omega) _)))) hn13)
  have HN11_13 := Lib.hid (show Nw W11 W13 from Nw.trans (Nw.trans HN11_12.out ((by repeat (first | exact Xt.Nw.refl _ | refine Xt.Nw.drew ?_ | refine Xt.Nw.drewN ?_ _ | refine Xt.Nw.alloc ?_ _ | refine Xt.Nw.joined ?_ | refine Xt.Nw.drewd ?_ | refine Xt.Nw.drewdN ?_ | refine Xt.Nw.ext ?_ | refine Xt.Nw.ext_some ?_ (by assumption) | refine Xt.Nw.setCell ?_ (by simp [go_sem] <;> omega) _)))) hn13)
  clear hn13
  clear HN1_12
  clear HN5_12
  clear HN7_12
  clear HN9_12
  clear HN11_12
  go_upto_region 9 with (fail)
  obtain ⟨gF, hgF⟩ : ∃ z, z = W13.heap.size := ⟨_, rfl⟩
  obtain ⟨W14, hWF⟩ : ∃ W, W = W13.alloc (Obj.cells #[Value.int IntKind.u64 5, Value.int IntKind.u64 50] 80) := ⟨_, rfl⟩
  rw [← hWF, ← hgF]
  have HFV := Lib.hid (show Rd W14 2 (some ⟨gF, 0, none⟩) 1 (pcells [(5, 50)]) by rw [hWF, hgF]; exact five_rd W13 _)
  have hn14 : Nw W13 W14 := by rw [hWF]; exact (Nw.refl _).alloc _
  have HN1_14 := Lib.hid (show Nw W1 W14 from Nw.trans HN1_13.out hn14)
  have HN5_14 := Lib.hid (show Nw W5 W14 from Nw.trans HN5_13.out hn14)
  have HN7_14 := Lib.hid (show Nw W7 W14 from Nw.trans HN7_13.out hn14)
  have HN9_14 := Lib.hid (show Nw W9 W14 from Nw.trans HN9_13.out hn14)
  have HN11_14 := Lib.hid (show Nw W11 W14 from Nw.trans HN11_13.out hn14)
  have HN13_14 := Lib.hid (show Nw W13 W14 from Nw.trans (Nw.refl _) hn14)
  clear hn14 hWF hgF
  clear HN1_13
  clear HN5_13
  clear HN7_13
  clear HN9_13
  clear HN11_13
  go_wp2_with fail
  refine (equalInts_any _ _ 4 4 _ _ [0, 1, 3, 2] [0, 1, 3, 2] _ (by omega) (by omega) (HI5.out.nw (Nw.trans HN5_14.out ((by repeat (first | exact Xt.Nw.refl _ | refine Xt.Nw.drew ?_ | refine Xt.Nw.drewN ?_ _ | refine Xt.Nw.alloc ?_ _ | refine Xt.Nw.joined ?_ | refine Xt.Nw.drewd ?_ | refine Xt.Nw.drewdN ?_ | refine Xt.Nw.ext ?_ | refine Xt.Nw.ext_some ?_ (by assumption) | refine Xt.Nw.setCell ?_ (by simp [go_sem] <;> omega) _))))) (Is_built _ [0, 1, 3, 2] _ 4 _ rfl rfl)).mono ?_
  rintro e W15 ⟨rfl, hn15⟩
  have HN1_15 := Lib.hid (show Nw W1 W15 from Nw.trans (Nw.trans HN1_14.out ((by repeat (first | exact Xt.Nw.refl _ | refine Xt.Nw.drew ?_ | refine Xt.Nw.drewN ?_ _ | refine Xt.Nw.alloc ?_ _ | refine Xt.Nw.joined ?_ | refine Xt.Nw.drewd ?_ | refine Xt.Nw.drewdN ?_ | refine Xt.Nw.ext ?_ | refine Xt.Nw.ext_some ?_ (by assumption) | refine Xt.Nw.setCell ?_ (by simp [go_sem] <;> omega) _)))) hn15)
  have HN5_15 := Lib.hid (show Nw W5 W15 from Nw.trans (Nw.trans HN5_14.out ((by repeat (first | exact Xt.Nw.refl _ | refine Xt.Nw.drew ?_ | refine Xt.Nw.drewN ?_ _ | refine Xt.Nw.alloc ?_ _ | refine Xt.Nw.joined ?_ | refine Xt.Nw.drewd ?_ | refine Xt.Nw.drewdN ?_ | refine Xt.Nw.ext ?_ | refine Xt.Nw.ext_some ?_ (by assumption) | refine Xt.Nw.setCell ?_ (by simp [go_sem] <;> omega) _)))) hn15)
  have HN7_15 := Lib.hid (show Nw W7 W15 from Nw.trans (Nw.trans HN7_14.out ((by repeat (first | exact Xt.Nw.refl _ | refine Xt.Nw.drew ?_ | refine Xt.Nw.drewN ?_ _ | refine Xt.Nw.alloc ?_ _ | refine Xt.Nw.joined ?_ | refine Xt.Nw.drewd ?_ | refine Xt.Nw.drewdN ?_ | refine Xt.Nw.ext ?_ | refine Xt.Nw.ext_some ?_ (by assumption) | refine Xt.Nw.setCell ?_ (by simp [go_sem] <;> omega) _)))) hn15)
  have HN9_15 := Lib.hid (show Nw W9 W15 from Nw.trans (Nw.trans HN9_14.out ((by repeat (first | exact Xt.Nw.refl _ | refine Xt.Nw.drew ?_ | refine Xt.Nw.drewN ?_ _ | refine Xt.Nw.alloc ?_ _ | refine Xt.Nw.joined ?_ | refine Xt.Nw.drewd ?_ | refine Xt.Nw.drewdN ?_ | refine Xt.Nw.ext ?_ | refine Xt.Nw.ext_some ?_ (by assumption) | refine Xt.Nw.setCell ?_ (by simp [go_sem] <;> omega) _)))) hn15)
  have HN11_15 := Lib.hid (show Nw W11 W15 from Nw.trans (Nw.trans HN11_14.out ((by repeat (first | exact Xt.Nw.refl _ | refine Xt.Nw.drew ?_ | refine Xt.Nw.drewN ?_ _ | refine Xt.Nw.alloc ?_ _ | refine Xt.Nw.joined ?_ | refine Xt.Nw.drewd ?_ | refine Xt.Nw.drewdN ?_ | refine Xt.Nw.ext ?_ | refine Xt.Nw.ext_some ?_ (by assumption) | refine Xt.Nw.setCell ?_ (by simp [go_sem] <;> omega) _)))) hn15)
  have HN13_15 := Lib.hid (show Nw W13 W15 from Nw.trans (Nw.trans HN13_14.out ((by repeat (first | exact Xt.Nw.refl _ | refine Xt.Nw.drew ?_ | refine Xt.Nw.drewN ?_ _ | refine Xt.Nw.alloc ?_ _ | refine Xt.Nw.joined ?_ | refine Xt.Nw.drewd ?_ | refine Xt.Nw.drewdN ?_ | refine Xt.Nw.ext ?_ | refine Xt.Nw.ext_some ?_ (by assumption) | refine Xt.Nw.setCell ?_ (by simp [go_sem] <;> omega) _)))) hn15)
  have HN14_15 := Lib.hid (show Nw W14 W15 from Nw.trans ((by repeat (first | exact Xt.Nw.refl _ | refine Xt.Nw.drew ?_ | refine Xt.Nw.drewN ?_ _ | refine Xt.Nw.alloc ?_ _ | refine Xt.Nw.joined ?_ | refine Xt.Nw.drewd ?_ | refine Xt.Nw.drewdN ?_ | refine Xt.Nw.ext ?_ | refine Xt.Nw.ext_some ?_ (by assumption) | refine Xt.Nw.setCell ?_ (by simp [go_sem] <;> omega) _))) hn15)
  clear hn15
  clear HN1_14
  clear HN5_14
  clear HN7_14
  clear HN9_14
  clear HN11_14
  clear HN13_14
  clear HN5_15
  go_wp2_with fail
  refine (equalInts_any _ _ 4 4 _ _ [-1, -1, -1, 3] [-1, -1, -1, 3] _ (by omega) (by omega) (HI7.out.nw (Nw.trans HN7_15.out ((by repeat (first | exact Xt.Nw.refl _ | refine Xt.Nw.drew ?_ | refine Xt.Nw.drewN ?_ _ | refine Xt.Nw.alloc ?_ _ | refine Xt.Nw.joined ?_ | refine Xt.Nw.drewd ?_ | refine Xt.Nw.drewdN ?_ | refine Xt.Nw.ext ?_ | refine Xt.Nw.ext_some ?_ (by assumption) | refine Xt.Nw.setCell ?_ (by simp [go_sem] <;> omega) _))))) (Is_built _ [-1, -1, -1, 3] _ 4 _ rfl rfl)).mono ?_
  rintro e W16 ⟨rfl, hn16⟩
  have HN1_16 := Lib.hid (show Nw W1 W16 from Nw.trans (Nw.trans HN1_15.out ((by repeat (first | exact Xt.Nw.refl _ | refine Xt.Nw.drew ?_ | refine Xt.Nw.drewN ?_ _ | refine Xt.Nw.alloc ?_ _ | refine Xt.Nw.joined ?_ | refine Xt.Nw.drewd ?_ | refine Xt.Nw.drewdN ?_ | refine Xt.Nw.ext ?_ | refine Xt.Nw.ext_some ?_ (by assumption) | refine Xt.Nw.setCell ?_ (by simp [go_sem] <;> omega) _)))) hn16)
  have HN7_16 := Lib.hid (show Nw W7 W16 from Nw.trans (Nw.trans HN7_15.out ((by repeat (first | exact Xt.Nw.refl _ | refine Xt.Nw.drew ?_ | refine Xt.Nw.drewN ?_ _ | refine Xt.Nw.alloc ?_ _ | refine Xt.Nw.joined ?_ | refine Xt.Nw.drewd ?_ | refine Xt.Nw.drewdN ?_ | refine Xt.Nw.ext ?_ | refine Xt.Nw.ext_some ?_ (by assumption) | refine Xt.Nw.setCell ?_ (by simp [go_sem] <;> omega) _)))) hn16)
  have HN9_16 := Lib.hid (show Nw W9 W16 from Nw.trans (Nw.trans HN9_15.out ((by repeat (first | exact Xt.Nw.refl _ | refine Xt.Nw.drew ?_ | refine Xt.Nw.drewN ?_ _ | refine Xt.Nw.alloc ?_ _ | refine Xt.Nw.joined ?_ | refine Xt.Nw.drewd ?_ | refine Xt.Nw.drewdN ?_ | refine Xt.Nw.ext ?_ | refine Xt.Nw.ext_some ?_ (by assumption) | refine Xt.Nw.setCell ?_ (by simp [go_sem] <;> omega) _)))) hn16)
  have HN11_16 := Lib.hid (show Nw W11 W16 from Nw.trans (Nw.trans HN11_15.out ((by repeat (first | exact Xt.Nw.refl _ | refine Xt.Nw.drew ?_ | refine Xt.Nw.drewN ?_ _ | refine Xt.Nw.alloc ?_ _ | refine Xt.Nw.joined ?_ | refine Xt.Nw.drewd ?_ | refine Xt.Nw.drewdN ?_ | refine Xt.Nw.ext ?_ | refine Xt.Nw.ext_some ?_ (by assumption) | refine Xt.Nw.setCell ?_ (by simp [go_sem] <;> omega) _)))) hn16)
  have HN13_16 := Lib.hid (show Nw W13 W16 from Nw.trans (Nw.trans HN13_15.out ((by repeat (first | exact Xt.Nw.refl _ | refine Xt.Nw.drew ?_ | refine Xt.Nw.drewN ?_ _ | refine Xt.Nw.alloc ?_ _ | refine Xt.Nw.joined ?_ | refine Xt.Nw.drewd ?_ | refine Xt.Nw.drewdN ?_ | refine Xt.Nw.ext ?_ | refine Xt.Nw.ext_some ?_ (by assumption) | refine Xt.Nw.setCell ?_ (by simp [go_sem] <;> omega) _)))) hn16)
  have HN14_16 := Lib.hid (show Nw W14 W16 from Nw.trans (Nw.trans HN14_15.out ((by repeat (first | exact Xt.Nw.refl _ | refine Xt.Nw.drew ?_ | refine Xt.Nw.drewN ?_ _ | refine Xt.Nw.alloc ?_ _ | refine Xt.Nw.joined ?_ | refine Xt.Nw.drewd ?_ | refine Xt.Nw.drewdN ?_ | refine Xt.Nw.ext ?_ | refine Xt.Nw.ext_some ?_ (by assumption) | refine Xt.Nw.setCell ?_ (by simp [go_sem] <;> omega) _)))) hn16)
  clear hn16
  clear HN1_15
  clear HN7_15
  clear HN9_15
  clear HN11_15
  clear HN13_15
  clear HN14_15
  clear HN7_16
  go_wp2_with fail
  refine (eqPairs_any _ _ 1 1 _ _ [(5, 50)] [(5, 50)] _ (HP11.out.nw (Nw.trans HN11_16.out ((by repeat (first | exact Xt.Nw.refl _ | refine Xt.Nw.drew ?_ | refine Xt.Nw.drewN ?_ _ | refine Xt.Nw.alloc ?_ _ | refine Xt.Nw.joined ?_ | refine Xt.Nw.drewd ?_ | refine Xt.Nw.drewdN ?_ | refine Xt.Nw.ext ?_ | refine Xt.Nw.ext_some ?_ (by assumption) | refine Xt.Nw.setCell ?_ (by simp [go_sem] <;> omega) _))))) (HFV.out.nw (Nw.trans HN14_16.out ((by repeat (first | exact Xt.Nw.refl _ | refine Xt.Nw.drew ?_ | refine Xt.Nw.drewN ?_ _ | refine Xt.Nw.alloc ?_ _ | refine Xt.Nw.joined ?_ | refine Xt.Nw.drewd ?_ | refine Xt.Nw.drewdN ?_ | refine Xt.Nw.ext ?_ | refine Xt.Nw.ext_some ?_ (by assumption) | refine Xt.Nw.setCell ?_ (by simp [go_sem] <;> omega) _))))) (by omega) (by omega)).mono ?_
  rintro e W17 ⟨rfl, hn17⟩
  have HN1_17 := Lib.hid (show Nw W1 W17 from Nw.trans (Nw.trans HN1_16.out ((by repeat (first | exact Xt.Nw.refl _ | refine Xt.Nw.drew ?_ | refine Xt.Nw.drewN ?_ _ | refine Xt.Nw.alloc ?_ _ | refine Xt.Nw.joined ?_ | refine Xt.Nw.drewd ?_ | refine Xt.Nw.drewdN ?_ | refine Xt.Nw.ext ?_ | refine Xt.Nw.ext_some ?_ (by assumption) | refine Xt.Nw.setCell ?_ (by simp [go_sem] <;> omega) _)))) hn17)
  have HN9_17 := Lib.hid (show Nw W9 W17 from Nw.trans (Nw.trans HN9_16.out ((by repeat (first | exact Xt.Nw.refl _ | refine Xt.Nw.drew ?_ | refine Xt.Nw.drewN ?_ _ | refine Xt.Nw.alloc ?_ _ | refine Xt.Nw.joined ?_ | refine Xt.Nw.drewd ?_ | refine Xt.Nw.drewdN ?_ | refine Xt.Nw.ext ?_ | refine Xt.Nw.ext_some ?_ (by assumption) | refine Xt.Nw.setCell ?_ (by simp [go_sem] <;> omega) _)))) hn17)
  have HN11_17 := Lib.hid (show Nw W11 W17 from Nw.trans (Nw.trans HN11_16.out ((by repeat (first | exact Xt.Nw.refl _ | refine Xt.Nw.drew ?_ | refine Xt.Nw.drewN ?_ _ | refine Xt.Nw.alloc ?_ _ | refine Xt.Nw.joined ?_ | refine Xt.Nw.drewd ?_ | refine Xt.Nw.drewdN ?_ | refine Xt.Nw.ext ?_ | refine Xt.Nw.ext_some ?_ (by assumption) | refine Xt.Nw.setCell ?_ (by simp [go_sem] <;> omega) _)))) hn17)
  have HN13_17 := Lib.hid (show Nw W13 W17 from Nw.trans (Nw.trans HN13_16.out ((by repeat (first | exact Xt.Nw.refl _ | refine Xt.Nw.drew ?_ | refine Xt.Nw.drewN ?_ _ | refine Xt.Nw.alloc ?_ _ | refine Xt.Nw.joined ?_ | refine Xt.Nw.drewd ?_ | refine Xt.Nw.drewdN ?_ | refine Xt.Nw.ext ?_ | refine Xt.Nw.ext_some ?_ (by assumption) | refine Xt.Nw.setCell ?_ (by simp [go_sem] <;> omega) _)))) hn17)
  have HN14_17 := Lib.hid (show Nw W14 W17 from Nw.trans (Nw.trans HN14_16.out ((by repeat (first | exact Xt.Nw.refl _ | refine Xt.Nw.drew ?_ | refine Xt.Nw.drewN ?_ _ | refine Xt.Nw.alloc ?_ _ | refine Xt.Nw.joined ?_ | refine Xt.Nw.drewd ?_ | refine Xt.Nw.drewdN ?_ | refine Xt.Nw.ext ?_ | refine Xt.Nw.ext_some ?_ (by assumption) | refine Xt.Nw.setCell ?_ (by simp [go_sem] <;> omega) _)))) hn17)
  clear hn17
  clear HN1_16
  clear HN9_16
  clear HN11_16
  clear HN13_16
  clear HN14_16
  go_wp2_with fail
  refine (eqPairs_any _ _ 1 1 _ _ [(5, 50)] [(5, 50)] _ (HP13.out.nw (Nw.trans HN13_17.out ((by repeat (first | exact Xt.Nw.refl _ | refine Xt.Nw.drew ?_ | refine Xt.Nw.drewN ?_ _ | refine Xt.Nw.alloc ?_ _ | refine Xt.Nw.joined ?_ | refine Xt.Nw.drewd ?_ | refine Xt.Nw.drewdN ?_ | refine Xt.Nw.ext ?_ | refine Xt.Nw.ext_some ?_ (by assumption) | refine Xt.Nw.setCell ?_ (by simp [go_sem] <;> omega) _))))) (HFV.out.nw (Nw.trans HN14_17.out ((by repeat (first | exact Xt.Nw.refl _ | refine Xt.Nw.drew ?_ | refine Xt.Nw.drewN ?_ _ | refine Xt.Nw.alloc ?_ _ | refine Xt.Nw.joined ?_ | refine Xt.Nw.drewd ?_ | refine Xt.Nw.drewdN ?_ | refine Xt.Nw.ext ?_ | refine Xt.Nw.ext_some ?_ (by assumption) | refine Xt.Nw.setCell ?_ (by simp [go_sem] <;> omega) _))))) (by omega) (by omega)).mono ?_
  rintro e W18 ⟨rfl, hn18⟩
  have HN1_18 := Lib.hid (show Nw W1 W18 from Nw.trans (Nw.trans HN1_17.out ((by repeat (first | exact Xt.Nw.refl _ | refine Xt.Nw.drew ?_ | refine Xt.Nw.drewN ?_ _ | refine Xt.Nw.alloc ?_ _ | refine Xt.Nw.joined ?_ | refine Xt.Nw.drewd ?_ | refine Xt.Nw.drewdN ?_ | refine Xt.Nw.ext ?_ | refine Xt.Nw.ext_some ?_ (by assumption) | refine Xt.Nw.setCell ?_ (by simp [go_sem] <;> omega) _)))) hn18)
  have HN9_18 := Lib.hid (show Nw W9 W18 from Nw.trans (Nw.trans HN9_17.out ((by repeat (first | exact Xt.Nw.refl _ | refine Xt.Nw.drew ?_ | refine Xt.Nw.drewN ?_ _ | refine Xt.Nw.alloc ?_ _ | refine Xt.Nw.joined ?_ | refine Xt.Nw.drewd ?_ | refine Xt.Nw.drewdN ?_ | refine Xt.Nw.ext ?_ | refine Xt.Nw.ext_some ?_ (by assumption) | refine Xt.Nw.setCell ?_ (by simp [go_sem] <;> omega) _)))) hn18)
  have HN11_18 := Lib.hid (show Nw W11 W18 from Nw.trans (Nw.trans HN11_17.out ((by repeat (first | exact Xt.Nw.refl _ | refine Xt.Nw.drew ?_ | refine Xt.Nw.drewN ?_ _ | refine Xt.Nw.alloc ?_ _ | refine Xt.Nw.joined ?_ | refine Xt.Nw.drewd ?_ | refine Xt.Nw.drewdN ?_ | refine Xt.Nw.ext ?_ | refine Xt.Nw.ext_some ?_ (by assumption) | refine Xt.Nw.setCell ?_ (by simp [go_sem] <;> omega) _)))) hn18)
  have HN13_18 := Lib.hid (show Nw W13 W18 from Nw.trans (Nw.trans HN13_17.out ((by repeat (first | exact Xt.Nw.refl _ | refine Xt.Nw.drew ?_ | refine Xt.Nw.drewN ?_ _ | refine Xt.Nw.alloc ?_ _ | refine Xt.Nw.joined ?_ | refine Xt.Nw.drewd ?_ | refine Xt.Nw.drewdN ?_ | refine Xt.Nw.ext ?_ | refine Xt.Nw.ext_some ?_ (by assumption) | refine Xt.Nw.setCell ?_ (by simp [go_sem] <;> omega) _)))) hn18)
  have HN14_18 := Lib.hid (show Nw W14 W18 from Nw.trans (Nw.trans HN14_17.out ((by repeat (first | exact Xt.Nw.refl _ | refine Xt.Nw.drew ?_ | refine Xt.Nw.drewN ?_ _ | refine Xt.Nw.alloc ?_ _ | refine Xt.Nw.joined ?_ | refine Xt.Nw.drewd ?_ | refine Xt.Nw.drewdN ?_ | refine Xt.Nw.ext ?_ | refine Xt.Nw.ext_some ?_ (by assumption) | refine Xt.Nw.setCell ?_ (by simp [go_sem] <;> omega) _)))) hn18)
  clear hn18
  clear HN1_17
  clear HN9_17
  clear HN11_17
  clear HN13_17
  clear HN14_17
  clear HN9_18
  clear HN11_18
  clear HN13_18
  clear HN14_18
  have hC := HC1.out.nw HN1_18.out
  have j67 : W18.cell? ⟨g, 67, none⟩ = some (.int .i64 0) := hC.cell (i := 3) (j := 13) rfl rfl rfl
  have y67 : W18.frozen? ⟨g, 67, none⟩ = false := (frozen_nw ((by assumption : In g W1).lt) HN1_18.out).trans (HZ1.out 67)
  have j68 : W18.cell? ⟨g, 68, none⟩ = some (.bool false) := hC.cell (i := 3) (j := 14) rfl rfl rfl
  have y68 : W18.frozen? ⟨g, 68, none⟩ = false := (frozen_nw ((by assumption : In g W1).lt) HN1_18.out).trans (HZ1.out 68)
  have j69 : W18.cell? ⟨g, 69, none⟩ = some (.int .u64 0) := hC.cell (i := 3) (j := 15) rfl rfl rfl
  have y69 : W18.frozen? ⟨g, 69, none⟩ = false := (frozen_nw ((by assumption : In g W1).lt) HN1_18.out).trans (HZ1.out 69)
  have j70 : W18.cell? ⟨g, 70, none⟩ = some (.int .u64 0) := hC.cell (i := 3) (j := 16) rfl rfl rfl
  have y70 : W18.frozen? ⟨g, 70, none⟩ = false := (frozen_nw ((by assumption : In g W1).lt) HN1_18.out).trans (HZ1.out 70)
  have j71 : W18.cell? ⟨g, 71, none⟩ = some (.int .i64 0) := hC.cell (i := 3) (j := 17) rfl rfl rfl
  have y71 : W18.frozen? ⟨g, 71, none⟩ = false := (frozen_nw ((by assumption : In g W1).lt) HN1_18.out).trans (HZ1.out 71)
  haveI : In g W18 := ⟨hC.in_ (by omega)⟩
  obtain ⟨W50, hW50⟩ : ∃ W, W = (((((W18.setCell ⟨g, 67, none⟩ (.int .i64 0)).setCell ⟨g, 68, none⟩ (.bool true)).setCell ⟨g, 69, none⟩ (.int .u64 0)).setCell ⟨g, 70, none⟩ (.int .u64 50)).setCell ⟨g, 71, none⟩ (.int .i64 0)) := ⟨_, rfl⟩
  have hC50 : Cs W50 (some ⟨g, 0, none⟩) 4 (exV 0 true 50) := by
    rw [hW50]
    exact (Cs.setf (Cs.setf (Cs.setf (Cs.setf (Cs.setf hC (off := 67) (v := .int .i64 0) (i := 3) (j := 13) (c := exG false 0) (c' := ({ (exG false 0) with re := 0 } : Cl)) rfl (by omega) rfl rfl) (off := 68) (v := .bool true) (i := 3) (j := 14) (c := ({ (exG false 0) with re := 0 } : Cl)) (c' := ({ (({ (exG false 0) with re := 0 } : Cl)) with rf := true } : Cl)) rfl (by omega) rfl rfl) (off := 69) (v := .int .u64 0) (i := 3) (j := 15) (c := ({ (({ (exG false 0) with re := 0 } : Cl)) with rf := true } : Cl)) (c' := ({ (({ (({ (exG false 0) with re := 0 } : Cl)) with rf := true } : Cl)) with rk := 0 } : Cl)) rfl (by omega) rfl rfl) (off := 70) (v := .int .u64 50) (i := 3) (j := 16) (c := ({ (({ (({ (exG false 0) with re := 0 } : Cl)) with rf := true } : Cl)) with rk := 0 } : Cl)) (c' := ({ (({ (({ (({ (exG false 0) with re := 0 } : Cl)) with rf := true } : Cl)) with rk := 0 } : Cl)) with rv := 50 } : Cl)) rfl (by omega) rfl rfl) (off := 71) (v := .int .i64 0) (i := 3) (j := 17) (c := ({ (({ (({ (({ (exG false 0) with re := 0 } : Cl)) with rf := true } : Cl)) with rk := 0 } : Cl)) with rv := 50 } : Cl)) (c' := ({ (({ (({ (({ (({ (exG false 0) with re := 0 } : Cl)) with rf := true } : Cl)) with rk := 0 } : Cl)) with rv := 50 } : Cl)) with rc := 0 } : Cl)) rfl (by omega) rfl rfl)
  have HC50 := Lib.hid hC50
  have HZ50 := Lib.hid (show ∀ i, W50.frozen? ⟨g, i, none⟩ = false by
    intro i
    rw [hW50]
    simp only [World.frozen?_setCell]
    exact (frozen_nw ((by assumption : In g W1).lt) HN1_18.out).trans (HZ1.out i))
  have HNW50 := Lib.hid (show Nw w W50 by
    rw [hW50]
    have hg : w.heap.size ≤ g := HG.out
    exact (Nw.setCell (Nw.setCell (Nw.setCell (Nw.setCell (Nw.setCell (Nw.trans (HN1.out) HN1_18.out) (p := ⟨g, 67, none⟩) hg (.int .i64 0)) (p := ⟨g, 68, none⟩) hg (.bool true)) (p := ⟨g, 69, none⟩) hg (.int .u64 0)) (p := ⟨g, 70, none⟩) hg (.int .u64 50)) (p := ⟨g, 71, none⟩) hg (.int .i64 0)))
  have HW50 := Lib.hid hW50
  have HIN2 := Lib.hid (in3_ex hC50 (exV_wf 0 true 50 (by decide)))
  haveI : In g W50 := ⟨hC50.in_ (by omega)⟩
  clear hC50 hW50 hC
  go_wp2_with fail
  rw [← HW50.out]
  clear j67 y67 j68 y68 j69 y69 j70 y70 j71 y71
  go_wp2_with fail
  refine (config_any _).mono ?_
  rintro e W51 ⟨rfl, hn51⟩
  have HN50_51 := Lib.hid (show Nw W50 W51 from Nw.trans ((by repeat (first | exact Xt.Nw.refl _ | refine Xt.Nw.drew ?_ | refine Xt.Nw.drewN ?_ _ | refine Xt.Nw.alloc ?_ _ | refine Xt.Nw.joined ?_ | refine Xt.Nw.drewd ?_ | refine Xt.Nw.drewdN ?_ | refine Xt.Nw.ext ?_ | refine Xt.Nw.ext_some ?_ (by assumption) | refine Xt.Nw.setCell ?_ (by simp [go_sem] <;> omega) _))) hn51)
  clear hn51
  go_wp2_with fail
  refine (worder_any (HIN2.out.nw (Nw.trans HN50_51.out ((by repeat (first | exact Xt.Nw.refl _ | refine Xt.Nw.drew ?_ | refine Xt.Nw.drewN ?_ _ | refine Xt.Nw.alloc ?_ _ | refine Xt.Nw.joined ?_ | refine Xt.Nw.drewd ?_ | refine Xt.Nw.drewdN ?_ | refine Xt.Nw.ext ?_ | refine Xt.Nw.ext_some ?_ (by assumption) | refine Xt.Nw.setCell ?_ (by simp [go_sem] <;> omega) _))))) (by omega)).mono ?_
  intro e W52 hP
  obtain ⟨A52, c52, rfl, his, hn52⟩ := ex_order (z := [0, 1, 2, 3]) ex_rds50 (by decide) (by decide) (by decide) hP
  simp only [List.length_cons, List.length_nil, Nat.zero_add, Nat.reduceAdd] at his ⊢
  have HI52 := Lib.hid his
  clear his hP
  have HN50_52 := Lib.hid (show Nw W50 W52 from Nw.trans (Nw.trans HN50_51.out ((by repeat (first | exact Xt.Nw.refl _ | refine Xt.Nw.drew ?_ | refine Xt.Nw.drewN ?_ _ | refine Xt.Nw.alloc ?_ _ | refine Xt.Nw.joined ?_ | refine Xt.Nw.drewd ?_ | refine Xt.Nw.drewdN ?_ | refine Xt.Nw.ext ?_ | refine Xt.Nw.ext_some ?_ (by assumption) | refine Xt.Nw.setCell ?_ (by simp [go_sem] <;> omega) _)))) hn52)
  clear hn52
  clear HN50_51
  go_wp2_with fail
  refine (config_any _).mono ?_
  rintro e W53 ⟨rfl, hn53⟩
  have HN50_53 := Lib.hid (show Nw W50 W53 from Nw.trans (Nw.trans HN50_52.out ((by repeat (first | exact Xt.Nw.refl _ | refine Xt.Nw.drew ?_ | refine Xt.Nw.drewN ?_ _ | refine Xt.Nw.alloc ?_ _ | refine Xt.Nw.joined ?_ | refine Xt.Nw.drewd ?_ | refine Xt.Nw.drewdN ?_ | refine Xt.Nw.ext ?_ | refine Xt.Nw.ext_some ?_ (by assumption) | refine Xt.Nw.setCell ?_ (by simp [go_sem] <;> omega) _)))) hn53)
  have HN52_53 := Lib.hid (show Nw W52 W53 from Nw.trans ((by repeat (first | exact Xt.Nw.refl _ | refine Xt.Nw.drew ?_ | refine Xt.Nw.drewN ?_ _ | refine Xt.Nw.alloc ?_ _ | refine Xt.Nw.joined ?_ | refine Xt.Nw.drewd ?_ | refine Xt.Nw.drewdN ?_ | refine Xt.Nw.ext ?_ | refine Xt.Nw.ext_some ?_ (by assumption) | refine Xt.Nw.setCell ?_ (by simp [go_sem] <;> omega) _))) hn53)
  clear hn53
  clear HN50_52
  go_wp2_with fail
  refine (wreads_any (HIN2.out.nw (Nw.trans HN50_53.out ((by repeat (first | exact Xt.Nw.refl _ | refine Xt.Nw.drew ?_ | refine Xt.Nw.drewN ?_ _ | refine Xt.Nw.alloc ?_ _ | refine Xt.Nw.joined ?_ | refine Xt.Nw.drewd ?_ | refine Xt.Nw.drewdN ?_ | refine Xt.Nw.ext ?_ | refine Xt.Nw.ext_some ?_ (by assumption) | refine Xt.Nw.setCell ?_ (by simp [go_sem] <;> omega) _)))))).mono ?_
  intro e W54 hP
  unfold ReadsP at hP
  rw [ex_rds50] at hP
  obtain ⟨v, rfl, hown, hn54⟩ := hP
  obtain ⟨A54, c54, rfl, his⟩ := own_is hown
  simp only [List.length_cons, List.length_nil, Nat.zero_add, Nat.reduceAdd] at his ⊢
  have HI54 := Lib.hid his
  clear his hown
  have HN50_54 := Lib.hid (show Nw W50 W54 from Nw.trans (Nw.trans HN50_53.out ((by repeat (first | exact Xt.Nw.refl _ | refine Xt.Nw.drew ?_ | refine Xt.Nw.drewN ?_ _ | refine Xt.Nw.alloc ?_ _ | refine Xt.Nw.joined ?_ | refine Xt.Nw.drewd ?_ | refine Xt.Nw.drewdN ?_ | refine Xt.Nw.ext ?_ | refine Xt.Nw.ext_some ?_ (by assumption) | refine Xt.Nw.setCell ?_ (by simp [go_sem] <;> omega) _)))) hn54)
  have HN52_54 := Lib.hid (show Nw W52 W54 from Nw.trans (Nw.trans HN52_53.out ((by repeat (first | exact Xt.Nw.refl _ | refine Xt.Nw.drew ?_ | refine Xt.Nw.drewN ?_ _ | refine Xt.Nw.alloc ?_ _ | refine Xt.Nw.joined ?_ | refine Xt.Nw.drewd ?_ | refine Xt.Nw.drewdN ?_ | refine Xt.Nw.ext ?_ | refine Xt.Nw.ext_some ?_ (by assumption) | refine Xt.Nw.setCell ?_ (by simp [go_sem] <;> omega) _)))) hn54)
  clear hn54
  clear HN50_53
  clear HN52_53
  go_wp2_with fail
  refine (equalInts_any _ _ 4 4 _ _ [0, 1, 2, 3] [0, 1, 2, 3] _ (by omega) (by omega) (HI52.out.nw (Nw.trans HN52_54.out ((by repeat (first | exact Xt.Nw.refl _ | refine Xt.Nw.drew ?_ | refine Xt.Nw.drewN ?_ _ | refine Xt.Nw.alloc ?_ _ | refine Xt.Nw.joined ?_ | refine Xt.Nw.drewd ?_ | refine Xt.Nw.drewdN ?_ | refine Xt.Nw.ext ?_ | refine Xt.Nw.ext_some ?_ (by assumption) | refine Xt.Nw.setCell ?_ (by simp [go_sem] <;> omega) _))))) (Is_built _ [0, 1, 2, 3] _ 4 _ rfl rfl)).mono ?_
  rintro e W55 ⟨rfl, hn55⟩
  have HN50_55 := Lib.hid (show Nw W50 W55 from Nw.trans (Nw.trans HN50_54.out ((by repeat (first | exact Xt.Nw.refl _ | refine Xt.Nw.drew ?_ | refine Xt.Nw.drewN ?_ _ | refine Xt.Nw.alloc ?_ _ | refine Xt.Nw.joined ?_ | refine Xt.Nw.drewd ?_ | refine Xt.Nw.drewdN ?_ | refine Xt.Nw.ext ?_ | refine Xt.Nw.ext_some ?_ (by assumption) | refine Xt.Nw.setCell ?_ (by simp [go_sem] <;> omega) _)))) hn55)
  have HN52_55 := Lib.hid (show Nw W52 W55 from Nw.trans (Nw.trans HN52_54.out ((by repeat (first | exact Xt.Nw.refl _ | refine Xt.Nw.drew ?_ | refine Xt.Nw.drewN ?_ _ | refine Xt.Nw.alloc ?_ _ | refine Xt.Nw.joined ?_ | refine Xt.Nw.drewd ?_ | refine Xt.Nw.drewdN ?_ | refine Xt.Nw.ext ?_ | refine Xt.Nw.ext_some ?_ (by assumption) | refine Xt.Nw.setCell ?_ (by simp [go_sem] <;> omega) _)))) hn55)
  have HN54_55 := Lib.hid (show Nw W54 W55 from Nw.trans ((by repeat (first | exact Xt.Nw.refl _ | refine Xt.Nw.drew ?_ | refine Xt.Nw.drewN ?_ _ | refine Xt.Nw.alloc ?_ _ | refine Xt.Nw.joined ?_ | refine Xt.Nw.drewd ?_ | refine Xt.Nw.drewdN ?_ | refine Xt.Nw.ext ?_ | refine Xt.Nw.ext_some ?_ (by assumption) | refine Xt.Nw.setCell ?_ (by simp [go_sem] <;> omega) _))) hn55)
  clear hn55
  clear HN50_54
  clear HN52_54
  clear HN52_55
  go_wp2_with fail
  refine (equalInts_any _ _ 4 4 _ _ [-1, -1, -1, 20] [-1, -1, -1, 20] _ (by omega) (by omega) (HI54.out.nw (Nw.trans HN54_55.out ((by repeat (first | exact Xt.Nw.refl _ | refine Xt.Nw.drew ?_ | refine Xt.Nw.drewN ?_ _ | refine Xt.Nw.alloc ?_ _ | refine Xt.Nw.joined ?_ | refine Xt.Nw.drewd ?_ | refine Xt.Nw.drewdN ?_ | refine Xt.Nw.ext ?_ | refine Xt.Nw.ext_some ?_ (by assumption) | refine Xt.Nw.setCell ?_ (by simp [go_sem] <;> omega) _))))) (Is_built _ [-1, -1, -1, 20] _ 4 _ rfl rfl)).mono ?_
  rintro e W56 ⟨rfl, hn56⟩
  have HN50_56 := Lib.hid (show Nw W50 W56 from Nw.trans (Nw.trans HN50_55.out ((by repeat (first | exact Xt.Nw.refl _ | refine Xt.Nw.drew ?_ | refine Xt.Nw.drewN ?_ _ | refine Xt.Nw.alloc ?_ _ | refine Xt.Nw.joined ?_ | refine Xt.Nw.drewd ?_ | refine Xt.Nw.drewdN ?_ | refine Xt.Nw.ext ?_ | refine Xt.Nw.ext_some ?_ (by assumption) | refine Xt.Nw.setCell ?_ (by simp [go_sem] <;> omega) _)))) hn56)
  have HN54_56 := Lib.hid (show Nw W54 W56 from Nw.trans (Nw.trans HN54_55.out ((by repeat (first | exact Xt.Nw.refl _ | refine Xt.Nw.drew ?_ | refine Xt.Nw.drewN ?_ _ | refine Xt.Nw.alloc ?_ _ | refine Xt.Nw.joined ?_ | refine Xt.Nw.drewd ?_ | refine Xt.Nw.drewdN ?_ | refine Xt.Nw.ext ?_ | refine Xt.Nw.ext_some ?_ (by assumption) | refine Xt.Nw.setCell ?_ (by simp [go_sem] <;> omega) _)))) hn56)
  clear hn56
  clear HN50_55
  clear HN54_55
  clear HN54_56
  have hC := HC50.out.nw HN50_56.out
  have j70 : W56.cell? ⟨g, 70, none⟩ = some (.int .u64 50) := hC.cell (i := 3) (j := 16) rfl rfl rfl
  have y70 : W56.frozen? ⟨g, 70, none⟩ = false := (frozen_nw ((by assumption : In g W50).lt) HN50_56.out).trans (HZ50.out 70)
  haveI : In g W56 := ⟨hC.in_ (by omega)⟩
  obtain ⟨W70, hW70⟩ : ∃ W, W = (W56.setCell ⟨g, 70, none⟩ (.int .u64 51)) := ⟨_, rfl⟩
  have hC70 : Cs W70 (some ⟨g, 0, none⟩) 4 (exV 0 true 51) := by
    rw [hW70]
    exact (Cs.setf hC (off := 70) (v := .int .u64 51) (i := 3) (j := 16) (c := exG true 50) (c' := ({ (exG true 50) with rv := 51 } : Cl)) rfl (by omega) rfl rfl)
  have HC70 := Lib.hid hC70
  have HZ70 := Lib.hid (show ∀ i, W70.frozen? ⟨g, i, none⟩ = false by
    intro i
    rw [hW70]
    simp only [World.frozen?_setCell]
    exact (frozen_nw ((by assumption : In g W50).lt) HN50_56.out).trans (HZ50.out i))
  have HNW70 := Lib.hid (show Nw w W70 by
    rw [hW70]
    have hg : w.heap.size ≤ g := HG.out
    exact (Nw.setCell (Nw.trans (HNW50.out) HN50_56.out) (p := ⟨g, 70, none⟩) hg (.int .u64 51)))
  have HW70 := Lib.hid hW70
  have HIN3 := Lib.hid (in3_ex hC70 (exV_wf 0 true 51 (by decide)))
  haveI : In g W70 := ⟨hC70.in_ (by omega)⟩
  clear hC70 hW70 hC
  go_wp2_with fail
  rw [← HW70.out]
  clear j70 y70
  go_wp2_with fail
  refine (config_any _).mono ?_
  rintro e W71 ⟨rfl, hn71⟩
  have HN70_71 := Lib.hid (show Nw W70 W71 from Nw.trans ((by repeat (first | exact Xt.Nw.refl _ | refine Xt.Nw.drew ?_ | refine Xt.Nw.drewN ?_ _ | refine Xt.Nw.alloc ?_ _ | refine Xt.Nw.joined ?_ | refine Xt.Nw.drewd ?_ | refine Xt.Nw.drewdN ?_ | refine Xt.Nw.ext ?_ | refine Xt.Nw.ext_some ?_ (by assumption) | refine Xt.Nw.setCell ?_ (by simp [go_sem] <;> omega) _))) hn71)
  clear hn71
  go_wp2_with fail
  refine (wcheck_any (HIN3.out.nw (Nw.trans HN70_71.out ((by repeat (first | exact Xt.Nw.refl _ | refine Xt.Nw.drew ?_ | refine Xt.Nw.drewN ?_ _ | refine Xt.Nw.alloc ?_ _ | refine Xt.Nw.joined ?_ | refine Xt.Nw.drewd ?_ | refine Xt.Nw.drewdN ?_ | refine Xt.Nw.ext ?_ | refine Xt.Nw.ext_some ?_ (by assumption) | refine Xt.Nw.setCell ?_ (by simp [go_sem] <;> omega) _)))))).mono ?_
  rw [ex_chk51]
  rintro e W72 ⟨rfl, hn72⟩
  have HN70_72 := Lib.hid (show Nw W70 W72 from Nw.trans (Nw.trans HN70_71.out ((by repeat (first | exact Xt.Nw.refl _ | refine Xt.Nw.drew ?_ | refine Xt.Nw.drewN ?_ _ | refine Xt.Nw.alloc ?_ _ | refine Xt.Nw.joined ?_ | refine Xt.Nw.drewd ?_ | refine Xt.Nw.drewdN ?_ | refine Xt.Nw.ext ?_ | refine Xt.Nw.ext_some ?_ (by assumption) | refine Xt.Nw.setCell ?_ (by simp [go_sem] <;> omega) _)))) hn72)
  clear hn72
  clear HN70_71
  go_wp2_with fail
  refine (config_any _).mono ?_
  rintro e W73 ⟨rfl, hn73⟩
  have HN70_73 := Lib.hid (show Nw W70 W73 from Nw.trans (Nw.trans HN70_72.out ((by repeat (first | exact Xt.Nw.refl _ | refine Xt.Nw.drew ?_ | refine Xt.Nw.drewN ?_ _ | refine Xt.Nw.alloc ?_ _ | refine Xt.Nw.joined ?_ | refine Xt.Nw.drewd ?_ | refine Xt.Nw.drewdN ?_ | refine Xt.Nw.ext ?_ | refine Xt.Nw.ext_some ?_ (by assumption) | refine Xt.Nw.setCell ?_ (by simp [go_sem] <;> omega) _)))) hn73)
  clear hn73
  clear HN70_72
  go_wp2_with fail
  refine (worder_any (HIN3.out.nw (Nw.trans HN70_73.out ((by repeat (first | exact Xt.Nw.refl _ | refine Xt.Nw.drew ?_ | refine Xt.Nw.drewN ?_ _ | refine Xt.Nw.alloc ?_ _ | refine Xt.Nw.joined ?_ | refine Xt.Nw.drewd ?_ | refine Xt.Nw.drewdN ?_ | refine Xt.Nw.ext ?_ | refine Xt.Nw.ext_some ?_ (by assumption) | refine Xt.Nw.setCell ?_ (by simp [go_sem] <;> omega) _))))) (by omega)).mono ?_
  intro e W74 hP
  obtain ⟨rfl, hn74⟩ := ex_order51 hP
  clear hP
  have HN70_74 := Lib.hid (show Nw W70 W74 from Nw.trans (Nw.trans HN70_73.out ((by repeat (first | exact Xt.Nw.refl _ | refine Xt.Nw.drew ?_ | refine Xt.Nw.drewN ?_ _ | refine Xt.Nw.alloc ?_ _ | refine Xt.Nw.joined ?_ | refine Xt.Nw.drewd ?_ | refine Xt.Nw.drewdN ?_ | refine Xt.Nw.ext ?_ | refine Xt.Nw.ext_some ?_ (by assumption) | refine Xt.Nw.setCell ?_ (by simp [go_sem] <;> omega) _)))) hn74)
  clear hn74
  clear HN70_73
  go_wp2_with fail
  refine (example_any _).mono ?_
  rintro e W75 ⟨rfl, hcE, hzE, hn75⟩
  have HNW75 := Lib.hid (show Nw w W75 from Nw.trans (Nw.trans (HNW70.out) (Nw.trans HN70_74.out ((by repeat (first | exact Xt.Nw.refl _ | refine Xt.Nw.drew ?_ | refine Xt.Nw.drewN ?_ _ | refine Xt.Nw.alloc ?_ _ | refine Xt.Nw.joined ?_ | refine Xt.Nw.drewd ?_ | refine Xt.Nw.drewdN ?_ | refine Xt.Nw.ext ?_ | refine Xt.Nw.ext_some ?_ (by assumption) | refine Xt.Nw.setCell ?_ (by simp [go_sem] <;> omega) _))))) hn75)
  obtain ⟨gE, hgE⟩ : ∃ z, z = W74.heap.size := ⟨_, rfl⟩
  have HGE := Lib.hid (show w.heap.size ≤ gE by rw [hgE]; exact (Nw.trans (HNW70.out) HN70_74.out).grown.size)
  rw [← hgE] at hcE hzE ⊢
  have HC75 := Lib.hid hcE
  have HZ75 := Lib.hid hzE
  haveI : In gE W75 := ⟨hcE.in_ (by omega)⟩
  clear hcE hzE hgE hn75 HN70_74
  have hC := HC75.out
  have j49 : W75.cell? ⟨gE, 49, none⟩ = some (.int .i64 0) := hC.cell (i := 2) (j := 13) rfl rfl rfl
  have y49 : W75.frozen? ⟨gE, 49, none⟩ = false := (frozen_nw ((by assumption : In gE W75).lt) (Nw.refl W75)).trans (HZ75.out 49)
  haveI : In gE W75 := ⟨hC.in_ (by omega)⟩
  obtain ⟨W90, hW90⟩ : ∃ W, W = (W75.setCell ⟨gE, 49, none⟩ (.int .i64 11)) := ⟨_, rfl⟩
  have hC90 : Cs W90 (some ⟨gE, 0, none⟩) 4 (exV 11 false 0) := by
    rw [hW90]
    exact (Cs.setf hC (off := 49) (v := .int .i64 11) (i := 2) (j := 13) (c := exP 0) (c' := ({ (exP 0) with re := 11 } : Cl)) rfl (by omega) rfl rfl)
  have HC90 := Lib.hid hC90
  have HZ90 := Lib.hid (show ∀ i, W90.frozen? ⟨gE, i, none⟩ = false by
    intro i
    rw [hW90]
    simp only [World.frozen?_setCell]
    exact (frozen_nw ((by assumption : In gE W75).lt) (Nw.refl W75)).trans (HZ75.out i))
  have HNW90 := Lib.hid (show Nw w W90 by
    rw [hW90]
    have hg : w.heap.size ≤ gE := HGE.out
    exact (Nw.setCell (Nw.trans (HNW75.out) (Nw.refl W75)) (p := ⟨gE, 49, none⟩) hg (.int .i64 11)))
  have HW90 := Lib.hid hW90
  have HIN4 := Lib.hid (in3_ex hC90 (exV_wf 11 false 0 (by decide)))
  haveI : In gE W90 := ⟨hC90.in_ (by omega)⟩
  clear hC90 hW90 hC
  go_wp2_with fail
  rw [← HW90.out]
  clear j49 y49
  go_wp2_with fail
  refine (config_any _).mono ?_
  rintro e W91 ⟨rfl, hn91⟩
  have HN90_91 := Lib.hid (show Nw W90 W91 from Nw.trans ((by repeat (first | exact Xt.Nw.refl _ | refine Xt.Nw.drew ?_ | refine Xt.Nw.drewN ?_ _ | refine Xt.Nw.alloc ?_ _ | refine Xt.Nw.joined ?_ | refine Xt.Nw.drewd ?_ | refine Xt.Nw.drewdN ?_ | refine Xt.Nw.ext ?_ | refine Xt.Nw.ext_some ?_ (by assumption) | refine Xt.Nw.setCell ?_ (by simp [go_sem] <;> omega) _))) hn91)
  clear hn91
  go_wp2_with fail
  refine (wcheck_any (HIN4.out.nw (Nw.trans HN90_91.out ((by repeat (first | exact Xt.Nw.refl _ | refine Xt.Nw.drew ?_ | refine Xt.Nw.drewN ?_ _ | refine Xt.Nw.alloc ?_ _ | refine Xt.Nw.joined ?_ | refine Xt.Nw.drewd ?_ | refine Xt.Nw.drewdN ?_ | refine Xt.Nw.ext ?_ | refine Xt.Nw.ext_some ?_ (by assumption) | refine Xt.Nw.setCell ?_ (by simp [go_sem] <;> omega) _)))))).mono ?_
  rw [ex_chkR]
  rintro e W92 ⟨rfl, hn92⟩
  have HN90_92 := Lib.hid (show Nw W90 W92 from Nw.trans (Nw.trans HN90_91.out ((by repeat (first | exact Xt.Nw.refl _ | refine Xt.Nw.drew ?_ | refine Xt.Nw.drewN ?_ _ | refine Xt.Nw.alloc ?_ _ | refine Xt.Nw.joined ?_ | refine Xt.Nw.drewd ?_ | refine Xt.Nw.drewdN ?_ | refine Xt.Nw.ext ?_ | refine Xt.Nw.ext_some ?_ (by assumption) | refine Xt.Nw.setCell ?_ (by simp [go_sem] <;> omega) _)))) hn92)
  clear hn92
  clear HN90_91
  go_wp2
  go_ret
  exact ⟨rfl, (Nw.trans (HNW90.out) (Nw.trans HN90_92.out ((by repeat (first | exact Xt.Nw.refl _ | refine Xt.Nw.drew ?_ | refine Xt.Nw.drewN ?_ _ | refine Xt.Nw.alloc ?_ _ | refine Xt.Nw.joined ?_ | refine Xt.Nw.drewd ?_ | refine Xt.Nw.drewdN ?_ | refine Xt.Nw.ext ?_ | refine Xt.Nw.ext_some ?_ (by assumption) | refine Xt.Nw.setCell ?_ (by simp [go_sem] <;> omega) _)))))⟩
end Go.Proofs.YtfnapkfdocabcaaGreat
