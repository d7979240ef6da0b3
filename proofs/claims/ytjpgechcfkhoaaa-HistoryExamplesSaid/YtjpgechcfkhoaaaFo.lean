import Derived.Test.YtjpgechcfkhoaaaFi
import Derived.Test.YtjpgechcfkhoaaaFj
namespace Go.Proofs.Ytjpgechcfkhoaaa
open Go.RowKit Go.Xt
def xlg : Cl := ⟨63, 0, 0, 0, 0, 0, 0, 0, 0, 9223372036854775806, 9223372036854775807, 9223372036854775807, 2, 0, false, 0, 0, 0⟩
def xlt : Cl := ⟨64, 0, 0, 0, 0, 0, 0, 0, 0, 0, -1, -1, 0, 0, false, 0, 0, 0⟩
theorem xlg_wf : WfC xlg := ⟨by decide, by decide, by decide, by decide, by decide, by decide⟩
theorem xlt_wf : WfC xlt := ⟨by decide, by decide, by decide, by decide, by decide, by decide⟩
theorem Cs_nil (w : World) : Cs w none 0 [] := ⟨rfl, fun h => absurd h (by omega)⟩
theorem Is_nil (w : World) : Is w none 0 [] := ⟨rfl, fun h => absurd h (by omega)⟩
theorem Cs_one (w : World) (x : Cl) (t : TypeId) : Cs (w.alloc (.cells #[.int .i64 x.th, .int .i64 x.ix, .int .u8 x.kd, .int .u64 x.ka, .int .u64 x.kb, .int .u64 x.kc, .int .u64 x.kx, .int .u64 x.ky, .int .u64 x.kz, .int .i64 x.inv, .int .i64 x.took, .int .i64 x.ans, .int .i64 x.st, .int .i64 x.re, .bool x.rf, .int .u64 x.rk, .int .u64 x.rv, .int .i64 x.rc] t)) (some ⟨w.heap.size, 0, none⟩) 1 [x] := Cs_built w [x] t
set_option maxRecDepth 20000 in
set_option maxHeartbeats 8000000 in
theorem hexamples_any (w : World) : Calls Try.prog 5 #[] w fun e w' => e = .returned (.bool true) ∧ Nw w w' := by
  have st1 : ∀ W : World, _ := fun W => run_storeCall (w := W) (c := xlg) (z := #[.int .i64 0, .int .i64 0, .int .u8 0, .int .u64 0, .int .u64 0, .int .u64 0, .int .u64 0, .int .u64 0, .int .u64 0, .int .i64 0, .int .i64 0, .int .i64 0, .int .i64 0, .int .i64 0, .bool false, .int .u64 0, .int .u64 0, .int .i64 0]) rfl
  have st2 : ∀ W : World, _ := fun W => run_storeCall (w := W.alloc (.cells #[.int .i64 63, .int .i64 0, .int .u8 0, .int .u64 0, .int .u64 0, .int .u64 0, .int .u64 0, .int .u64 0, .int .u64 0, .int .i64 9223372036854775806, .int .i64 9223372036854775807, .int .i64 9223372036854775807, .int .i64 2, .int .i64 0, .bool false, .int .u64 0, .int .u64 0, .int .i64 0] 47)) (c := xlt) (z := #[.int .i64 0, .int .i64 0, .int .u8 0, .int .u64 0, .int .u64 0, .int .u64 0, .int .u64 0, .int .u64 0, .int .u64 0, .int .i64 0, .int .i64 0, .int .i64 0, .int .i64 0, .int .i64 0, .bool false, .int .u64 0, .int .u64 0, .int .i64 0]) rfl
  simp only [xlg, xlt, cv, World.size_alloc] at st1 st2
  have ST1 := Lib.hid st1
  have ST2 := Lib.hid st2
  clear st1 st2
  go_enter Try.func5, Try.ntmps5
  go_wp2_with fail
  go_loopw [1] (fun a wr => ∃ i : Nat, i ≤ 4 ∧ a = .int .i64 i ∧ Nw w wr) (fun a _ => 4 - (intOf a).toNat)
  case atStart => exact ⟨0, by omega, rfl, Nw.refl _⟩
  case round =>
    obtain ⟨i, hi, rfl, d, rfl⟩ := hrel
    go_wp2_with fail
    refine (example_any _).mono ?_
    rintro e w' ⟨rfl, -, -, d1, rfl⟩
    by_cases hlt : i < 4
    · have hi4 : (i : Int) < 4 := by omega
      have di4 : decide (i < 4) = true := by simpa using hlt
      go_wp2_with fail
      go_loopw [2] (fun a wr => ∃ z : Int, -2 ≤ z ∧ z ≤ 13 ∧ a = .int .i64 z ∧ Nw w wr) (fun a _ => (13 - intOf a).toNat)
      case atStart => exact ⟨-2, by omega, by omega, rfl, (by repeat (first | exact Xt.Nw.refl _ | refine Xt.Nw.drew ?_ | refine Xt.Nw.drewN ?_ _ | refine Xt.Nw.alloc ?_ _ | refine Xt.Nw.joined ?_ | refine Xt.Nw.drewd ?_ | refine Xt.Nw.drewdN ?_ | refine Xt.Nw.ext ?_ | refine Xt.Nw.ext_some ?_ (by assumption) | refine Xt.Nw.setCell ?_ (by simp [go_sem] <;> omega) _))⟩
      case round =>
        obtain ⟨z, hz1, hz2, rfl, d2, rfl⟩ := hrel
        by_cases hzl : z < 13
        · have dz : decide (z < 13) = true := by simpa using hzl
          go_wp2_with fail
          go_loopw [3] (fun a wr => ∃ f : Nat, f ≤ 7 ∧ a = .int .i64 f ∧ Nw w wr) (fun a _ => 7 - (intOf a).toNat)
          case atStart => exact ⟨0, by omega, rfl, (by repeat (first | exact Xt.Nw.refl _ | refine Xt.Nw.drew ?_ | refine Xt.Nw.drewN ?_ _ | refine Xt.Nw.alloc ?_ _ | refine Xt.Nw.joined ?_ | refine Xt.Nw.drewd ?_ | refine Xt.Nw.drewdN ?_ | refine Xt.Nw.ext ?_ | refine Xt.Nw.ext_some ?_ (by assumption) | refine Xt.Nw.setCell ?_ (by simp [go_sem] <;> omega) _))⟩
          case round =>
            obtain ⟨f, hf7, rfl, d3, rfl⟩ := hrel
            by_cases hfl : f < 7
            · have hf4 : (f : Int) < 7 := by omega
              have df4 : decide (f < 7) = true := by simpa using hfl
              go_wp2_with fail
              refine (example_any _).mono ?_
              rintro e W3 ⟨rfl, hc3, hz3, hn3⟩
              have hge : w.heap.size ≤ (w.ext none d3).heap.size := le_size _ _ _
              have hn3' : Nw w W3 := Nw.trans ⟨_, rfl⟩ hn3
              generalize (w.ext none d3).heap.size = g at *
              obtain ⟨b', o', e1, hg3, hcc⟩ := hc3.2 (by omega)
              obtain ⟨rfl, rfl⟩ : g = b' ∧ 0 = o' := by simpa using e1
              haveI : In g W3 := ⟨hg3⟩
              obtain ⟨x, hx⟩ : ∃ x, exL[i]? = some x := ⟨exL[i], List.getElem?_eq_getElem hlt⟩
              have HX := Lib.hid hx
              have HC3 := Lib.hid hc3
              have HZ3 := Lib.hid hz3
              have HN3 := Lib.hid hn3'
              have HG := Lib.hid hge
              have hzw : ∀ y ∈ [3, z], (Lit.int .i64 y).wf = true := by
                intro y hy
                simp only [List.mem_cons, List.not_mem_nil, or_false] at hy
                rcases hy with rfl | rfl
                · decide
                · simp [Lit.wf, IntKind.min, IntKind.max, IntKind.bits, IntKind.signed]; omega
              have HZW := Lib.hid hzw
              clear hx hc3 hz3 hn3' hge hzw e1 hn3
              rcases (by omega : f = 0 ∨ f = 1 ∨ f = 2 ∨ f = 3 ∨ f = 4 ∨ f = 5 ∨ f = 6) with hf | hf | hf | hf | hf | hf | hf
              · obtain rfl : f = 0 := hf
                have hcell : W3.cell? ⟨g, i * 18, none⟩ = some (.int .i64 x.th) := by have h := (hcc i x HX.out).range 0 _ rfl; rw [Nat.zero_add] at h; exact h
                have hfz := HZ3.out (i * 18)
                have hcs := Lib.hid (Cs.setf HC3.out (off := i * 18) (v := .int .i64 z) (i := i) (j := 0) (c := x) (c' := { x with th := z }) HX.out (by omega) rfl rfl)
                have hwl : ∀ y ∈ exL.set i { x with th := z }, WfC y := fun y hy => by
                  rcases List.mem_or_eq_of_mem_set hy with h | h
                  · exact ex_wf y h
                  · subst h
                    have hx := ex_wf x (List.mem_of_getElem? HX.out)
                    exact ⟨by first | exact hx.th | (show -9223372036854775808 ≤ z ∧ z ≤ 9223372036854775807; omega), by first | exact hx.ix | (show -9223372036854775808 ≤ z ∧ z ≤ 9223372036854775807; omega), by first | exact hx.inv | (show -9223372036854775808 ≤ z ∧ z ≤ 9223372036854775807; omega), by first | exact hx.took | (show -9223372036854775808 ≤ z ∧ z ≤ 9223372036854775807; omega), by first | exact hx.ans | (show -9223372036854775808 ≤ z ∧ z ≤ 9223372036854775807; omega), by first | exact hx.st | (show -9223372036854775808 ≤ z ∧ z ≤ 9223372036854775807; omega)⟩
                have HWL := Lib.hid hwl
                have hn5 := Lib.hid (Nw.setCell HN3.out (p := ⟨g, i * 18, none⟩) (by show w.heap.size ≤ g; have := HG.out; omega) (.int .i64 z))
                clear hcc hwl
                go_wp2_with fail
                refine (hmatches_any (some ⟨g, 0, none⟩) 4 4 (exL.set i { x with th := z }) z z _ (by omega) (by omega) (hcs.out.nw ((by repeat (first | exact Xt.Nw.refl _ | refine Xt.Nw.drew ?_ | refine Xt.Nw.drewN ?_ _ | refine Xt.Nw.alloc ?_ _ | refine Xt.Nw.joined ?_ | refine Xt.Nw.drewd ?_ | refine Xt.Nw.drewdN ?_ | refine Xt.Nw.ext ?_ | refine Xt.Nw.ext_some ?_ (by assumption) | refine Xt.Nw.setCell ?_ (by simp [go_sem] <;> omega) _)))) HWL.out).mono ?_
                rintro e w' ⟨rfl, dW, rfl⟩
                go_wp2_with fail
                refine (hagrees_any _ 3 3 [0, 1, 2] (some ⟨g, 0, none⟩) 4 4 (exL.set i { x with th := z }) _ (by omega) (by omega) (Is_built _ [0, 1, 2] _ 3 _ rfl rfl) (by decide) (by omega) (by omega) (hcs.out.nw ((by repeat (first | exact Xt.Nw.refl _ | refine Xt.Nw.drew ?_ | refine Xt.Nw.drewN ?_ _ | refine Xt.Nw.alloc ?_ _ | refine Xt.Nw.joined ?_ | refine Xt.Nw.drewd ?_ | refine Xt.Nw.drewdN ?_ | refine Xt.Nw.ext ?_ | refine Xt.Nw.ext_some ?_ (by assumption) | refine Xt.Nw.setCell ?_ (by simp [go_sem] <;> omega) _)))) HWL.out).mono ?_
                rintro e w' ⟨rfl, dW, rfl⟩
                go_wp2_with fail
                refine (hagrees_any _ 2 2 [3, z] (some ⟨g, 0, none⟩) 4 4 (exL.set i { x with th := z }) _ (by omega) (by omega) (Is_built _ [3, z] _ 2 _ rfl rfl) HZW.out (by omega) (by omega) (hcs.out.nw ((by repeat (first | exact Xt.Nw.refl _ | refine Xt.Nw.drew ?_ | refine Xt.Nw.drewN ?_ _ | refine Xt.Nw.alloc ?_ _ | refine Xt.Nw.joined ?_ | refine Xt.Nw.drewd ?_ | refine Xt.Nw.drewdN ?_ | refine Xt.Nw.ext ?_ | refine Xt.Nw.ext_some ?_ (by assumption) | refine Xt.Nw.setCell ?_ (by simp [go_sem] <;> omega) _)))) HWL.out).mono ?_
                rintro e w' ⟨rfl, dW, rfl⟩
                go_wp2
                refine ⟨⟨0 + 1, by omega, by go_num, hn5.out.trans ((by repeat (first | exact Xt.Nw.refl _ | refine Xt.Nw.drew ?_ | refine Xt.Nw.drewN ?_ _ | refine Xt.Nw.alloc ?_ _ | refine Xt.Nw.joined ?_ | refine Xt.Nw.drewd ?_ | refine Xt.Nw.drewdN ?_ | refine Xt.Nw.ext ?_ | refine Xt.Nw.ext_some ?_ (by assumption) | refine Xt.Nw.setCell ?_ (by simp [go_sem] <;> omega) _)))⟩, by first | (simp [intOf]; omega) | omega | decide⟩
              · obtain rfl : f = 1 := hf
                have hcell : W3.cell? ⟨g, i * 18 + 1, none⟩ = some (.int .i64 x.ix) := by have h := (hcc i x HX.out).range 1 _ rfl; rw [Nat.zero_add] at h; exact h
                have hfz := HZ3.out (i * 18 + 1)
                have hcs := Lib.hid (Cs.setf HC3.out (off := i * 18 + 1) (v := .int .i64 z) (i := i) (j := 1) (c := x) (c' := { x with ix := z }) HX.out (by omega) rfl rfl)
                have hwl : ∀ y ∈ exL.set i { x with ix := z }, WfC y := fun y hy => by
                  rcases List.mem_or_eq_of_mem_set hy with h | h
                  · exact ex_wf y h
                  · subst h
                    have hx := ex_wf x (List.mem_of_getElem? HX.out)
                    exact ⟨by first | exact hx.th | (show -9223372036854775808 ≤ z ∧ z ≤ 9223372036854775807; omega), by first | exact hx.ix | (show -9223372036854775808 ≤ z ∧ z ≤ 9223372036854775807; omega), by first | exact hx.inv | (show -9223372036854775808 ≤ z ∧ z ≤ 9223372036854775807; omega), by first | exact hx.took | (show -9223372036854775808 ≤ z ∧ z ≤ 9223372036854775807; omega), by first | exact hx.ans | (show -9223372036854775808 ≤ z ∧ z ≤ 9223372036854775807; omega), by first | exact hx.st | (show -9223372036854775808 ≤ z ∧ z ≤ 9223372036854775807; omega)⟩
                have HWL := Lib.hid hwl
                have hn5 := Lib.hid (Nw.setCell HN3.out (p := ⟨g, i * 18 + 1, none⟩) (by show w.heap.size ≤ g; have := HG.out; omega) (.int .i64 z))
                clear hcc hwl
                go_wp2_with fail
                refine (hmatches_any (some ⟨g, 0, none⟩) 4 4 (exL.set i { x with ix := z }) z z _ (by omega) (by omega) (hcs.out.nw ((by repeat (first | exact Xt.Nw.refl _ | refine Xt.Nw.drew ?_ | refine Xt.Nw.drewN ?_ _ | refine Xt.Nw.alloc ?_ _ | refine Xt.Nw.joined ?_ | refine Xt.Nw.drewd ?_ | refine Xt.Nw.drewdN ?_ | refine Xt.Nw.ext ?_ | refine Xt.Nw.ext_some ?_ (by assumption) | refine Xt.Nw.setCell ?_ (by simp [go_sem] <;> omega) _)))) HWL.out).mono ?_
                rintro e w' ⟨rfl, dW, rfl⟩
                go_wp2_with fail
                refine (hagrees_any _ 3 3 [0, 1, 2] (some ⟨g, 0, none⟩) 4 4 (exL.set i { x with ix := z }) _ (by omega) (by omega) (Is_built _ [0, 1, 2] _ 3 _ rfl rfl) (by decide) (by omega) (by omega) (hcs.out.nw ((by repeat (first | exact Xt.Nw.refl _ | refine Xt.Nw.drew ?_ | refine Xt.Nw.drewN ?_ _ | refine Xt.Nw.alloc ?_ _ | refine Xt.Nw.joined ?_ | refine Xt.Nw.drewd ?_ | refine Xt.Nw.drewdN ?_ | refine Xt.Nw.ext ?_ | refine Xt.Nw.ext_some ?_ (by assumption) | refine Xt.Nw.setCell ?_ (by simp [go_sem] <;> omega) _)))) HWL.out).mono ?_
                rintro e w' ⟨rfl, dW, rfl⟩
                go_wp2_with fail
                refine (hagrees_any _ 2 2 [3, z] (some ⟨g, 0, none⟩) 4 4 (exL.set i { x with ix := z }) _ (by omega) (by omega) (Is_built _ [3, z] _ 2 _ rfl rfl) HZW.out (by omega) (by omega) (hcs.out.nw ((by repeat (first | exact Xt.Nw.refl _ | refine Xt.Nw.drew ?_ | refine Xt.Nw.drewN ?_ _ | refine Xt.Nw.alloc ?_ _ | refine Xt.Nw.joined ?_ | refine Xt.Nw.drewd ?_ | refine Xt.Nw.drewdN ?_ | refine Xt.Nw.ext ?_ | refine Xt.Nw.ext_some ?_ (by assumption) | refine Xt.Nw.setCell ?_ (by simp [go_sem] <;> omega) _)))) HWL.out).mono ?_
                rintro e w' ⟨rfl, dW, rfl⟩
                go_wp2
                refine ⟨⟨1 + 1, by omega, by go_num, hn5.out.trans ((by repeat (first | exact Xt.Nw.refl _ | refine Xt.Nw.drew ?_ | refine Xt.Nw.drewN ?_ _ | refine Xt.Nw.alloc ?_ _ | refine Xt.Nw.joined ?_ | refine Xt.Nw.drewd ?_ | refine Xt.Nw.drewdN ?_ | refine Xt.Nw.ext ?_ | refine Xt.Nw.ext_some ?_ (by assumption) | refine Xt.Nw.setCell ?_ (by simp [go_sem] <;> omega) _)))⟩, by first | (simp [intOf]; omega) | omega | decide⟩
              · obtain rfl : f = 2 := hf
                have hcell : W3.cell? ⟨g, i * 18 + 9, none⟩ = some (.int .i64 x.inv) := by have h := (hcc i x HX.out).range 9 _ rfl; rw [Nat.zero_add] at h; exact h
                have hfz := HZ3.out (i * 18 + 9)
                have hcs := Lib.hid (Cs.setf HC3.out (off := i * 18 + 9) (v := .int .i64 z) (i := i) (j := 9) (c := x) (c' := { x with inv := z }) HX.out (by omega) rfl rfl)
                have hwl : ∀ y ∈ exL.set i { x with inv := z }, WfC y := fun y hy => by
                  rcases List.mem_or_eq_of_mem_set hy with h | h
                  · exact ex_wf y h
                  · subst h
                    have hx := ex_wf x (List.mem_of_getElem? HX.out)
                    exact ⟨by first | exact hx.th | (show -9223372036854775808 ≤ z ∧ z ≤ 9223372036854775807; omega), by first | exact hx.ix | (show -9223372036854775808 ≤ z ∧ z ≤ 9223372036854775807; omega), by first | exact hx.inv | (show -9223372036854775808 ≤ z ∧ z ≤ 9223372036854775807; omega), by first | exact hx.took | (show -9223372036854775808 ≤ z ∧ z ≤ 9223372036854775807; omega), by first | exact hx.ans | (show -9223372036854775808 ≤ z ∧ z ≤ 9223372036854775807; omega), by first | exact hx.st | (show -9223372036854775808 ≤ z ∧ z ≤ 9223372036854775807; omega)⟩
                have HWL := Lib.hid hwl
                have hn5 := Lib.hid (Nw.setCell HN3.out (p := ⟨g, i * 18 + 9, none⟩) (by show w.heap.size ≤ g; have := HG.out; omega) (.int .i64 z))
                clear hcc hwl
                go_wp2_with fail
                refine (hmatches_any (some ⟨g, 0, none⟩) 4 4 (exL.set i { x with inv := z }) z z _ (by omega) (by omega) (hcs.out.nw ((by repeat (first | exact Xt.Nw.refl _ | refine Xt.Nw.drew ?_ | refine Xt.Nw.drewN ?_ _ | refine Xt.Nw.alloc ?_ _ | refine Xt.Nw.joined ?_ | refine Xt.Nw.drewd ?_ | refine Xt.Nw.drewdN ?_ | refine Xt.Nw.ext ?_ | refine Xt.Nw.ext_some ?_ (by assumption) | refine Xt.Nw.setCell ?_ (by simp [go_sem] <;> omega) _)))) HWL.out).mono ?_
                rintro e w' ⟨rfl, dW, rfl⟩
                go_wp2_with fail
                refine (hagrees_any _ 3 3 [0, 1, 2] (some ⟨g, 0, none⟩) 4 4 (exL.set i { x with inv := z }) _ (by omega) (by omega) (Is_built _ [0, 1, 2] _ 3 _ rfl rfl) (by decide) (by omega) (by omega) (hcs.out.nw ((by repeat (first | exact Xt.Nw.refl _ | refine Xt.Nw.drew ?_ | refine Xt.Nw.drewN ?_ _ | refine Xt.Nw.alloc ?_ _ | refine Xt.Nw.joined ?_ | refine Xt.Nw.drewd ?_ | refine Xt.Nw.drewdN ?_ | refine Xt.Nw.ext ?_ | refine Xt.Nw.ext_some ?_ (by assumption) | refine Xt.Nw.setCell ?_ (by simp [go_sem] <;> omega) _)))) HWL.out).mono ?_
                rintro e w' ⟨rfl, dW, rfl⟩
                go_wp2_with fail
                refine (hagrees_any _ 2 2 [3, z] (some ⟨g, 0, none⟩) 4 4 (exL.set i { x with inv := z }) _ (by omega) (by omega) (Is_built _ [3, z] _ 2 _ rfl rfl) HZW.out (by omega) (by omega) (hcs.out.nw ((by repeat (first | exact Xt.Nw.refl _ | refine Xt.Nw.drew ?_ | refine Xt.Nw.drewN ?_ _ | refine Xt.Nw.alloc ?_ _ | refine Xt.Nw.joined ?_ | refine Xt.Nw.drewd ?_ | refine Xt.Nw.drewdN ?_ | refine Xt.Nw.ext ?_ | refine Xt.Nw.ext_some ?_ (by assumption) | refine Xt.Nw.setCell ?_ (by simp [go_sem] <;> omega) _)))) HWL.out).mono ?_
                rintro e w' ⟨rfl, dW, rfl⟩
                go_wp2
                refine ⟨⟨2 + 1, by omega, by go_num, hn5.out.trans ((by repeat (first | exact Xt.Nw.refl _ | refine Xt.Nw.drew ?_ | refine Xt.Nw.drewN ?_ _ | refine Xt.Nw.alloc ?_ _ | refine Xt.Nw.joined ?_ | refine Xt.Nw.drewd ?_ | refine Xt.Nw.drewdN ?_ | refine Xt.Nw.ext ?_ | refine Xt.Nw.ext_some ?_ (by assumption) | refine Xt.Nw.setCell ?_ (by simp [go_sem] <;> omega) _)))⟩, by first | (simp [intOf]; omega) | omega | decide⟩
              · obtain rfl : f = 3 := hf
                have hcell : W3.cell? ⟨g, i * 18 + 10, none⟩ = some (.int .i64 x.took) := by have h := (hcc i x HX.out).range 10 _ rfl; rw [Nat.zero_add] at h; exact h
                have hfz := HZ3.out (i * 18 + 10)
                have hcs := Lib.hid (Cs.setf HC3.out (off := i * 18 + 10) (v := .int .i64 z) (i := i) (j := 10) (c := x) (c' := { x with took := z }) HX.out (by omega) rfl rfl)
                have hwl : ∀ y ∈ exL.set i { x with took := z }, WfC y := fun y hy => by
                  rcases List.mem_or_eq_of_mem_set hy with h | h
                  · exact ex_wf y h
                  · subst h
                    have hx := ex_wf x (List.mem_of_getElem? HX.out)
                    exact ⟨by first | exact hx.th | (show -9223372036854775808 ≤ z ∧ z ≤ 9223372036854775807; omega), by first | exact hx.ix | (show -9223372036854775808 ≤ z ∧ z ≤ 9223372036854775807; omega), by first | exact hx.inv | (show -9223372036854775808 ≤ z ∧ z ≤ 9223372036854775807; omega), by first | exact hx.took | (show -9223372036854775808 ≤ z ∧ z ≤ 9223372036854775807; omega), by first | exact hx.ans | (show -9223372036854775808 ≤ z ∧ z ≤ 9223372036854775807; omega), by first | exact hx.st | (show -9223372036854775808 ≤ z ∧ z ≤ 9223372036854775807; omega)⟩
                have HWL := Lib.hid hwl
                have hn5 := Lib.hid (Nw.setCell HN3.out (p := ⟨g, i * 18 + 10, none⟩) (by show w.heap.size ≤ g; have := HG.out; omega) (.int .i64 z))
                clear hcc hwl
                go_wp2_with fail
                refine (hmatches_any (some ⟨g, 0, none⟩) 4 4 (exL.set i { x with took := z }) z z _ (by omega) (by omega) (hcs.out.nw ((by repeat (first | exact Xt.Nw.refl _ | refine Xt.Nw.drew ?_ | refine Xt.Nw.drewN ?_ _ | refine Xt.Nw.alloc ?_ _ | refine Xt.Nw.joined ?_ | refine Xt.Nw.drewd ?_ | refine Xt.Nw.drewdN ?_ | refine Xt.Nw.ext ?_ | refine Xt.Nw.ext_some ?_ (by assumption) | refine Xt.Nw.setCell ?_ (by simp [go_sem] <;> omega) _)))) HWL.out).mono ?_
                rintro e w' ⟨rfl, dW, rfl⟩
                go_wp2_with fail
                refine (hagrees_any _ 3 3 [0, 1, 2] (some ⟨g, 0, none⟩) 4 4 (exL.set i { x with took := z }) _ (by omega) (by omega) (Is_built _ [0, 1, 2] _ 3 _ rfl rfl) (by decide) (by omega) (by omega) (hcs.out.nw ((by repeat (first | exact Xt.Nw.refl _ | refine Xt.Nw.drew ?_ | refine Xt.Nw.drewN ?_ _ | refine Xt.Nw.alloc ?_ _ | refine Xt.Nw.joined ?_ | refine Xt.Nw.drewd ?_ | refine Xt.Nw.drewdN ?_ | refine Xt.Nw.ext ?_ | refine Xt.Nw.ext_some ?_ (by assumption) | refine Xt.Nw.setCell ?_ (by simp [go_sem] <;> omega) _)))) HWL.out).mono ?_
                rintro e w' ⟨rfl, dW, rfl⟩
                go_wp2_with fail
                refine (hagrees_any _ 2 2 [3, z] (some ⟨g, 0, none⟩) 4 4 (exL.set i { x with took := z }) _ (by omega) (by omega) (Is_built _ [3, z] _ 2 _ rfl rfl) HZW.out (by omega) (by omega) (hcs.out.nw ((by repeat (first | exact Xt.Nw.refl _ | refine Xt.Nw.drew ?_ | refine Xt.Nw.drewN ?_ _ | refine Xt.Nw.alloc ?_ _ | refine Xt.Nw.joined ?_ | refine Xt.Nw.drewd ?_ | refine Xt.Nw.drewdN ?_ | refine Xt.Nw.ext ?_ | refine Xt.Nw.ext_some ?_ (by assumption) | refine Xt.Nw.setCell ?_ (by simp [go_sem] <;> omega) _)))) HWL.out).mono ?_
                rintro e w' ⟨rfl, dW, rfl⟩
                go_wp2
                refine ⟨⟨3 + 1, by omega, by go_num, hn5.out.trans ((by repeat (first | exact Xt.Nw.refl _ | refine Xt.Nw.drew ?_ | refine Xt.Nw.drewN ?_ _ | refine Xt.Nw.alloc ?_ _ | refine Xt.Nw.joined ?_ | refine Xt.Nw.drewd ?_ | refine Xt.Nw.drewdN ?_ | refine Xt.Nw.ext ?_ | refine Xt.Nw.ext_some ?_ (by assumption) | refine Xt.Nw.setCell ?_ (by simp [go_sem] <;> omega) _)))⟩, by first | (simp [intOf]; omega) | omega | decide⟩
              · obtain rfl : f = 4 := hf
                have hcell : W3.cell? ⟨g, i * 18 + 11, none⟩ = some (.int .i64 x.ans) := by have h := (hcc i x HX.out).range 11 _ rfl; rw [Nat.zero_add] at h; exact h
                have hfz := HZ3.out (i * 18 + 11)
                have hcs := Lib.hid (Cs.setf HC3.out (off := i * 18 + 11) (v := .int .i64 z) (i := i) (j := 11) (c := x) (c' := { x with ans := z }) HX.out (by omega) rfl rfl)
                have hwl : ∀ y ∈ exL.set i { x with ans := z }, WfC y := fun y hy => by
                  rcases List.mem_or_eq_of_mem_set hy with h | h
                  · exact ex_wf y h
                  · subst h
                    have hx := ex_wf x (List.mem_of_getElem? HX.out)
                    exact ⟨by first | exact hx.th | (show -9223372036854775808 ≤ z ∧ z ≤ 9223372036854775807; omega), by first | exact hx.ix | (show -9223372036854775808 ≤ z ∧ z ≤ 9223372036854775807; omega), by first | exact hx.inv | (show -9223372036854775808 ≤ z ∧ z ≤ 9223372036854775807; omega), by first | exact hx.took | (show -9223372036854775808 ≤ z ∧ z ≤ 9223372036854775807; omega), by first | exact hx.ans | (show -9223372036854775808 ≤ z ∧ z ≤ 9223372036854775807; omega), by first | exact hx.st | (show -9223372036854775808 ≤ z ∧ z ≤ 9223372036854775807; omega)⟩
                have HWL := Lib.hid hwl
                have hn5 := Lib.hid (Nw.setCell HN3.out (p := ⟨g, i * 18 + 11, none⟩) (by show w.heap.size ≤ g; have := HG.out; omega) (.int .i64 z))
                clear hcc hwl
                go_wp2_with fail
                refine (hmatches_any (some ⟨g, 0, none⟩) 4 4 (exL.set i { x with ans := z }) z z _ (by omega) (by omega) (hcs.out.nw ((by repeat (first | exact Xt.Nw.refl _ | refine Xt.Nw.drew ?_ | refine Xt.Nw.drewN ?_ _ | refine Xt.Nw.alloc ?_ _ | refine Xt.Nw.joined ?_ | refine Xt.Nw.drewd ?_ | refine Xt.Nw.drewdN ?_ | refine Xt.Nw.ext ?_ | refine Xt.Nw.ext_some ?_ (by assumption) | refine Xt.Nw.setCell ?_ (by simp [go_sem] <;> omega) _)))) HWL.out).mono ?_
                rintro e w' ⟨rfl, dW, rfl⟩
                go_wp2_with fail
                refine (hagrees_any _ 3 3 [0, 1, 2] (some ⟨g, 0, none⟩) 4 4 (exL.set i { x with ans := z }) _ (by omega) (by omega) (Is_built _ [0, 1, 2] _ 3 _ rfl rfl) (by decide) (by omega) (by omega) (hcs.out.nw ((by repeat (first | exact Xt.Nw.refl _ | refine Xt.Nw.drew ?_ | refine Xt.Nw.drewN ?_ _ | refine Xt.Nw.alloc ?_ _ | refine Xt.Nw.joined ?_ | refine Xt.Nw.drewd ?_ | refine Xt.Nw.drewdN ?_ | refine Xt.Nw.ext ?_ | refine Xt.Nw.ext_some ?_ (by assumption) | refine Xt.Nw.setCell ?_ (by simp [go_sem] <;> omega) _)))) HWL.out).mono ?_
                rintro e w' ⟨rfl, dW, rfl⟩
                go_wp2_with fail
                refine (hagrees_any _ 2 2 [3, z] (some ⟨g, 0, none⟩) 4 4 (exL.set i { x with ans := z }) _ (by omega) (by omega) (Is_built _ [3, z] _ 2 _ rfl rfl) HZW.out (by omega) (by omega) (hcs.out.nw ((by repeat (first | exact Xt.Nw.refl _ | refine Xt.Nw.drew ?_ | refine Xt.Nw.drewN ?_ _ | refine Xt.Nw.alloc ?_ _ | refine Xt.Nw.joined ?_ | refine Xt.Nw.drewd ?_ | refine Xt.Nw.drewdN ?_ | refine Xt.Nw.ext ?_ | refine Xt.Nw.ext_some ?_ (by assumption) | refine Xt.Nw.setCell ?_ (by simp [go_sem] <;> omega) _)))) HWL.out).mono ?_
                rintro e w' ⟨rfl, dW, rfl⟩
                go_wp2
                refine ⟨⟨4 + 1, by omega, by go_num, hn5.out.trans ((by repeat (first | exact Xt.Nw.refl _ | refine Xt.Nw.drew ?_ | refine Xt.Nw.drewN ?_ _ | refine Xt.Nw.alloc ?_ _ | refine Xt.Nw.joined ?_ | refine Xt.Nw.drewd ?_ | refine Xt.Nw.drewdN ?_ | refine Xt.Nw.ext ?_ | refine Xt.Nw.ext_some ?_ (by assumption) | refine Xt.Nw.setCell ?_ (by simp [go_sem] <;> omega) _)))⟩, by first | (simp [intOf]; omega) | omega | decide⟩
              · obtain rfl : f = 5 := hf
                have hcell : W3.cell? ⟨g, i * 18 + 12, none⟩ = some (.int .i64 x.st) := by have h := (hcc i x HX.out).range 12 _ rfl; rw [Nat.zero_add] at h; exact h
                have hfz := HZ3.out (i * 18 + 12)
                have hcs := Lib.hid (Cs.setf HC3.out (off := i * 18 + 12) (v := .int .i64 z) (i := i) (j := 12) (c := x) (c' := { x with st := z }) HX.out (by omega) rfl rfl)
                have hwl : ∀ y ∈ exL.set i { x with st := z }, WfC y := fun y hy => by
                  rcases List.mem_or_eq_of_mem_set hy with h | h
                  · exact ex_wf y h
                  · subst h
                    have hx := ex_wf x (List.mem_of_getElem? HX.out)
                    exact ⟨by first | exact hx.th | (show -9223372036854775808 ≤ z ∧ z ≤ 9223372036854775807; omega), by first | exact hx.ix | (show -9223372036854775808 ≤ z ∧ z ≤ 9223372036854775807; omega), by first | exact hx.inv | (show -9223372036854775808 ≤ z ∧ z ≤ 9223372036854775807; omega), by first | exact hx.took | (show -9223372036854775808 ≤ z ∧ z ≤ 9223372036854775807; omega), by first | exact hx.ans | (show -9223372036854775808 ≤ z ∧ z ≤ 9223372036854775807; omega), by first | exact hx.st | (show -9223372036854775808 ≤ z ∧ z ≤ 9223372036854775807; omega)⟩
                have HWL := Lib.hid hwl
                have hn5 := Lib.hid (Nw.setCell HN3.out (p := ⟨g, i * 18 + 12, none⟩) (by show w.heap.size ≤ g; have := HG.out; omega) (.int .i64 z))
                clear hcc hwl
                go_wp2_with fail
                refine (hmatches_any (some ⟨g, 0, none⟩) 4 4 (exL.set i { x with st := z }) z z _ (by omega) (by omega) (hcs.out.nw ((by repeat (first | exact Xt.Nw.refl _ | refine Xt.Nw.drew ?_ | refine Xt.Nw.drewN ?_ _ | refine Xt.Nw.alloc ?_ _ | refine Xt.Nw.joined ?_ | refine Xt.Nw.drewd ?_ | refine Xt.Nw.drewdN ?_ | refine Xt.Nw.ext ?_ | refine Xt.Nw.ext_some ?_ (by assumption) | refine Xt.Nw.setCell ?_ (by simp [go_sem] <;> omega) _)))) HWL.out).mono ?_
                rintro e w' ⟨rfl, dW, rfl⟩
                go_wp2_with fail
                refine (hagrees_any _ 3 3 [0, 1, 2] (some ⟨g, 0, none⟩) 4 4 (exL.set i { x with st := z }) _ (by omega) (by omega) (Is_built _ [0, 1, 2] _ 3 _ rfl rfl) (by decide) (by omega) (by omega) (hcs.out.nw ((by repeat (first | exact Xt.Nw.refl _ | refine Xt.Nw.drew ?_ | refine Xt.Nw.drewN ?_ _ | refine Xt.Nw.alloc ?_ _ | refine Xt.Nw.joined ?_ | refine Xt.Nw.drewd ?_ | refine Xt.Nw.drewdN ?_ | refine Xt.Nw.ext ?_ | refine Xt.Nw.ext_some ?_ (by assumption) | refine Xt.Nw.setCell ?_ (by simp [go_sem] <;> omega) _)))) HWL.out).mono ?_
                rintro e w' ⟨rfl, dW, rfl⟩
                go_wp2_with fail
                refine (hagrees_any _ 2 2 [3, z] (some ⟨g, 0, none⟩) 4 4 (exL.set i { x with st := z }) _ (by omega) (by omega) (Is_built _ [3, z] _ 2 _ rfl rfl) HZW.out (by omega) (by omega) (hcs.out.nw ((by repeat (first | exact Xt.Nw.refl _ | refine Xt.Nw.drew ?_ | refine Xt.Nw.drewN ?_ _ | refine Xt.Nw.alloc ?_ _ | refine Xt.Nw.joined ?_ | refine Xt.Nw.drewd ?_ | refine Xt.Nw.drewdN ?_ | refine Xt.Nw.ext ?_ | refine Xt.Nw.ext_some ?_ (by assumption) | refine Xt.Nw.setCell ?_ (by simp [go_sem] <;> omega) _)))) HWL.out).mono ?_
                rintro e w' ⟨rfl, dW, rfl⟩
                go_wp2
                refine ⟨⟨5 + 1, by omega, by go_num, hn5.out.trans ((by repeat (first | exact Xt.Nw.refl _ | refine Xt.Nw.drew ?_ | refine Xt.Nw.drewN ?_ _ | refine Xt.Nw.alloc ?_ _ | refine Xt.Nw.joined ?_ | refine Xt.Nw.drewd ?_ | refine Xt.Nw.drewdN ?_ | refine Xt.Nw.ext ?_ | refine Xt.Nw.ext_some ?_ (by assumption) | refine Xt.Nw.setCell ?_ (by simp [go_sem] <;> omega) _)))⟩, by first | (simp [intOf]; omega) | omega | decide⟩
              · obtain rfl : f = 6 := hf
                have hcell : W3.cell? ⟨g, i * 18 + 17, none⟩ = some (.int .i64 x.rc) := by have h := (hcc i x HX.out).range 17 _ rfl; rw [Nat.zero_add] at h; exact h
                have hfz := HZ3.out (i * 18 + 17)
                have hcs := Lib.hid (Cs.setf HC3.out (off := i * 18 + 17) (v := .int .i64 z) (i := i) (j := 17) (c := x) (c' := { x with rc := z }) HX.out (by omega) rfl rfl)
                have hwl : ∀ y ∈ exL.set i { x with rc := z }, WfC y := fun y hy => by
                  rcases List.mem_or_eq_of_mem_set hy with h | h
                  · exact ex_wf y h
                  · subst h
                    have hx := ex_wf x (List.mem_of_getElem? HX.out)
                    exact ⟨by first | exact hx.th | (show -9223372036854775808 ≤ z ∧ z ≤ 9223372036854775807; omega), by first | exact hx.ix | (show -9223372036854775808 ≤ z ∧ z ≤ 9223372036854775807; omega), by first | exact hx.inv | (show -9223372036854775808 ≤ z ∧ z ≤ 9223372036854775807; omega), by first | exact hx.took | (show -9223372036854775808 ≤ z ∧ z ≤ 9223372036854775807; omega), by first | exact hx.ans | (show -9223372036854775808 ≤ z ∧ z ≤ 9223372036854775807; omega), by first | exact hx.st | (show -9223372036854775808 ≤ z ∧ z ≤ 9223372036854775807; omega)⟩
                have HWL := Lib.hid hwl
                have hn5 := Lib.hid (Nw.setCell HN3.out (p := ⟨g, i * 18 + 17, none⟩) (by show w.heap.size ≤ g; have := HG.out; omega) (.int .i64 z))
                clear hcc hwl
                go_wp2_with fail
                refine (hmatches_any (some ⟨g, 0, none⟩) 4 4 (exL.set i { x with rc := z }) z z _ (by omega) (by omega) (hcs.out.nw ((by repeat (first | exact Xt.Nw.refl _ | refine Xt.Nw.drew ?_ | refine Xt.Nw.drewN ?_ _ | refine Xt.Nw.alloc ?_ _ | refine Xt.Nw.joined ?_ | refine Xt.Nw.drewd ?_ | refine Xt.Nw.drewdN ?_ | refine Xt.Nw.ext ?_ | refine Xt.Nw.ext_some ?_ (by assumption) | refine Xt.Nw.setCell ?_ (by simp [go_sem] <;> omega) _)))) HWL.out).mono ?_
                rintro e w' ⟨rfl, dW, rfl⟩
                go_wp2_with fail
                refine (hagrees_any _ 3 3 [0, 1, 2] (some ⟨g, 0, none⟩) 4 4 (exL.set i { x with rc := z }) _ (by omega) (by omega) (Is_built _ [0, 1, 2] _ 3 _ rfl rfl) (by decide) (by omega) (by omega) (hcs.out.nw ((by repeat (first | exact Xt.Nw.refl _ | refine Xt.Nw.drew ?_ | refine Xt.Nw.drewN ?_ _ | refine Xt.Nw.alloc ?_ _ | refine Xt.Nw.joined ?_ | refine Xt.Nw.drewd ?_ | refine Xt.Nw.drewdN ?_ | refine Xt.Nw.ext ?_ | refine Xt.Nw.ext_some ?_ (by assumption) | refine Xt.Nw.setCell ?_ (by simp [go_sem] <;> omega) _)))) HWL.out).mono ?_
                rintro e w' ⟨rfl, dW, rfl⟩
                go_wp2_with fail
                refine (hagrees_any _ 2 2 [3, z] (some ⟨g, 0, none⟩) 4 4 (exL.set i { x with rc := z }) _ (by omega) (by omega) (Is_built _ [3, z] _ 2 _ rfl rfl) HZW.out (by omega) (by omega) (hcs.out.nw ((by repeat (first | exact Xt.Nw.refl _ | refine Xt.Nw.drew ?_ | refine Xt.Nw.drewN ?_ _ | refine Xt.Nw.alloc ?_ _ | refine Xt.Nw.joined ?_ | refine Xt.Nw.drewd ?_ | refine Xt.Nw.drewdN ?_ | refine Xt.Nw.ext ?_ | refine Xt.Nw.ext_some ?_ (by assumption) | refine Xt.Nw.setCell ?_ (by simp [go_sem] <;> omega) _)))) HWL.out).mono ?_
                rintro e w' ⟨rfl, dW, rfl⟩
                go_wp2
                refine ⟨⟨6 + 1, by omega, by go_num, hn5.out.trans ((by repeat (first | exact Xt.Nw.refl _ | refine Xt.Nw.drew ?_ | refine Xt.Nw.drewN ?_ _ | refine Xt.Nw.alloc ?_ _ | refine Xt.Nw.joined ?_ | refine Xt.Nw.drewd ?_ | refine Xt.Nw.drewdN ?_ | refine Xt.Nw.ext ?_ | refine Xt.Nw.ext_some ?_ (by assumption) | refine Xt.Nw.setCell ?_ (by simp [go_sem] <;> omega) _)))⟩, by first | (simp [intOf]; omega) | omega | decide⟩
            · have hf4 : ¬ (f : Int) < 7 := by omega
              have df4 : decide (f < 7) = false := by simpa using hfl
              go_wp2
              refine ⟨⟨z + 1, by omega, by omega, by go_num, (by repeat (first | exact Xt.Nw.refl _ | refine Xt.Nw.drew ?_ | refine Xt.Nw.drewN ?_ _ | refine Xt.Nw.alloc ?_ _ | refine Xt.Nw.joined ?_ | refine Xt.Nw.drewd ?_ | refine Xt.Nw.drewdN ?_ | refine Xt.Nw.ext ?_ | refine Xt.Nw.ext_some ?_ (by assumption) | refine Xt.Nw.setCell ?_ (by simp [go_sem] <;> omega) _))⟩, by first | (simp [intOf]; omega) | omega⟩
        · have dz : decide (z < 13) = false := by simpa using hzl
          go_wp2
          refine ⟨⟨i + 1, by omega, by go_num, (by repeat (first | exact Xt.Nw.refl _ | refine Xt.Nw.drew ?_ | refine Xt.Nw.drewN ?_ _ | refine Xt.Nw.alloc ?_ _ | refine Xt.Nw.joined ?_ | refine Xt.Nw.drewd ?_ | refine Xt.Nw.drewdN ?_ | refine Xt.Nw.ext ?_ | refine Xt.Nw.ext_some ?_ (by assumption) | refine Xt.Nw.setCell ?_ (by simp [go_sem] <;> omega) _))⟩, by first | (simp [intOf]; omega) | omega⟩
    · have hi4 : ¬ (i : Int) < 4 := by omega
      have di4 : decide (i < 4) = false := by simpa using hlt
      have st1 := ST1.out
      have st2 := ST2.out
      go_upto_region 29 with (fail)
      obtain ⟨W9, hW9⟩ : ∃ W9, W9 = (((w.ext none d).ext none d1).alloc (.cells #[.int .i64 63, .int .i64 0, .int .u8 0, .int .u64 0, .int .u64 0, .int .u64 0, .int .u64 0, .int .u64 0, .int .u64 0, .int .i64 9223372036854775806, .int .i64 9223372036854775807, .int .i64 9223372036854775807, .int .i64 2, .int .i64 0, .bool false, .int .u64 0, .int .u64 0, .int .i64 0] 47)).alloc (.cells #[.int .i64 64, .int .i64 0, .int .u8 0, .int .u64 0, .int .u64 0, .int .u64 0, .int .u64 0, .int .u64 0, .int .u64 0, .int .i64 0, .int .i64 (-1), .int .i64 (-1), .int .i64 0, .int .i64 0, .bool false, .int .u64 0, .int .u64 0, .int .i64 0] 47) := ⟨_, rfl⟩
      rw [← hW9]
      have hg9 : w.heap.size ≤ ((w.ext none d).ext none d1).heap.size := Nat.le_trans (le_size _ _ _) (le_size _ _ _)
      have hn9 : Nw w W9 := by rw [hW9]; exact (by repeat (first | exact Xt.Nw.refl _ | refine Xt.Nw.drew ?_ | refine Xt.Nw.drewN ?_ _ | refine Xt.Nw.alloc ?_ _ | refine Xt.Nw.joined ?_ | refine Xt.Nw.drewd ?_ | refine Xt.Nw.drewdN ?_ | refine Xt.Nw.ext ?_ | refine Xt.Nw.ext_some ?_ (by assumption) | refine Xt.Nw.setCell ?_ (by simp [go_sem] <;> omega) _))
      have hb5 : CallAt W9 ((w.ext none d).ext none d1).heap.size 0 xlg := by
        rw [hW9]; exact ⟨(boxed ((w.ext none d).ext none d1) xlg 47).alloc (by simp) _, by simp only [World.size_alloc]; omega⟩
      have hb6 : CallAt W9 (((w.ext none d).ext none d1).heap.size + 1) 0 xlt := by
        rw [hW9]
        have h := boxed (((w.ext none d).ext none d1).alloc (.cells #[.int .i64 63, .int .i64 0, .int .u8 0, .int .u64 0, .int .u64 0, .int .u64 0, .int .u64 0, .int .u64 0, .int .u64 0, .int .i64 9223372036854775806, .int .i64 9223372036854775807, .int .i64 9223372036854775807, .int .i64 2, .int .i64 0, .bool false, .int .u64 0, .int .u64 0, .int .i64 0] 47)) xlt 47
        rw [World.size_alloc] at h
        exact ⟨h, by simp only [World.size_alloc]; omega⟩
      generalize ((w.ext none d).ext none d1).heap.size = g5 at *
      have HN9 := Lib.hid hn9
      haveI := hb5
      haveI := hb6
      clear hW9 hn9 st1 st2
      go_wp2_with fail
      refine (hmatches_any _ 1 1 [xlg] 63 9223372036854775807 _ (by omega) (by omega) (Cs_one _ xlg _) (by intro y hy; simp at hy; subst hy; exact xlg_wf)).mono ?_
      rintro e w' ⟨rfl, dW, rfl⟩
      go_wp2_with fail
      refine (hmatches_any _ 1 1 [xlt] 64 (-1) _ (by omega) (by omega) (Cs_one _ xlt _) (by intro y hy; simp at hy; subst hy; exact xlt_wf)).mono ?_
      rintro e w' ⟨rfl, dW, rfl⟩
      go_wp2_with fail
      refine (hmatches_any none 0 0 [] 0 (-2) _ (by omega) (by omega) (Cs_nil _) (by simp)).mono ?_
      rintro e w' ⟨rfl, dW, rfl⟩
      go_wp2_with fail
      refine (hagrees_any none 0 0 [] none 0 0 [] _ (by omega) (by omega) (Is_nil _) (by simp) (by omega) (by omega) (Cs_nil _) (by simp)).mono ?_
      rintro e w' ⟨rfl, dW, rfl⟩
      go_wp2_with fail
      refine (hagrees_any _ 1 1 [0] none 0 0 [] _ (by omega) (by omega) (Is_built _ [0] _ 1 _ rfl rfl) (by decide) (by omega) (by omega) (Cs_nil _) (by simp)).mono ?_
      rintro e w' ⟨rfl, dW, rfl⟩
      go_wp2_with fail
      refine (hpairs_any xlg xlt _).mono ?_
      rintro e w' ⟨rfl, dW, rfl⟩
      go_wp2_with fail
      refine (awake_any _).mono ?_
      rintro e w' ⟨rfl, dW, rfl⟩
      go_wp2
      go_ret
      exact ⟨rfl, HN9.out.trans ((by repeat (first | exact Xt.Nw.refl _ | refine Xt.Nw.drew ?_ | refine Xt.Nw.drewN ?_ _ | refine Xt.Nw.alloc ?_ _ | refine Xt.Nw.joined ?_ | refine Xt.Nw.drewd ?_ | refine Xt.Nw.drewdN ?_ | refine Xt.Nw.ext ?_ | refine Xt.Nw.ext_some ?_ (by assumption) | refine Xt.Nw.setCell ?_ (by simp [go_sem] <;> omega) _)))⟩
end Go.Proofs.Ytjpgechcfkhoaaa
