import Derived.Test.YtkikdpdainmlcaaGreatGLib
import Derived.Test.YtkikdpdainmlcaaGreatGVe
set_option linter.unusedVariables false
set_option linter.unusedSimpArgs false
set_option linter.unnecessarySimpa false
namespace Go.Proofs.YtkikdpdainmlcaaGreat
open Go.ChangeShapes Go.WideShapes Go.ChangeAt Go.RowKit Go.Joins Go.Xt
/-! A configuration opened. -/
section
variable {H : Type} {enc : TypeId × Value → H} {w : World} {base : Nat} {spare : Nat → Bool} {held : Bool}
theorem cInt : Tryz.prog.cellsOf 3 = 1 := by kernel_rfl
theorem cU8 : Tryz.prog.cellsOf 5 = 1 := by kernel_rfl
theorem cU64 : Tryz.prog.cellsOf 39 = 1 := by kernel_rfl
theorem cSl : Tryz.prog.cellsOf 22 = 1 := by kernel_rfl
theorem cDom : Tryz.prog.cellsOf 24 = 3 := by kernel_rfl
theorem cArr : Tryz.prog.cellsOf 25 = 6 := by kernel_rfl
theorem cConf : Tryz.prog.cellsOf 27 = 16 := by kernel_rfl
theorem int_of {k : IntKind} {t : TypeId} {fuel : Nat} {v : Value} {x : Option (DataW H × List MemPlace)} (ht : Tryz.prog.underlying t = some (.int k)) (h : DataW.trod enc Tryz.prog w base spare held fuel t [v] = x) (hx : x.isSome = true) : ∃ n, v = .int k n ∧ (Lit.int k n).wf = true := by
  obtain ⟨y, hy⟩ := Option.isSome_iff_exists.1 hx
  rw [hy] at h
  obtain ⟨n, e, _, hw⟩ := DataW.trod_int ht h
  simp at e
  exact ⟨n, e, hw⟩
theorem some_of {α : Type} {xs : List α} {n i : Nat} (h : xs.length = n) (hi : i < n) : (xs[i]?).isSome = true := by
  rw [List.getElem?_eq_getElem (by omega)]; rfl
set_option maxRecDepth 100000 in
theorem open_conf {v : Value} {d : DataW H} {p : List MemPlace} {r : Reach} {b0 : Nat} (hv : Value.okWide Tryz.prog w r b0 27 v) (h : DataW.Trod enc Tryz.prog w base (fun _ => true) held 27 v d p) :
    ∃ (c : Cf) (cuts : List Nat), v = confV c ∧ c.cn = cuts.length ∧ Rd w 1 c.cA cuts.length (nums cuts) ∧ (0 ≤ c.eng ∧ c.eng < 256) ∧ c.cc ≤ maxLen ∧ c.cn ≤ c.cc := by
  obtain ⟨cs, rfl, _⟩ := okWide_struct Tryz.underlying27 hv
  obtain ⟨fuel, hf⟩ := h
  have hf : DataW.trod enc Tryz.prog w base (fun _ => true) held fuel 27 cs.toList = some (d, p) := by simpa [Value.cells] using hf
  obtain ⟨xs, m, -, -, hl, hxl, hfi⟩ := DataW.trod_struct Tryz.underlying27 hf
  rw [cConf] at hl
  obtain ⟨v0, v1, v2, v3, v4, v5, v6, v7, v8, v9, v10, v11, v12, v13, v14, v15, hL⟩ : ∃ v0 v1 v2 v3 v4 v5 v6 v7 v8 v9 v10 v11 v12 v13 v14 v15, cs.toList = [v0, v1, v2, v3, v4, v5, v6, v7, v8, v9, v10, v11, v12, v13, v14, v15] := by
    match cs.toList, hl with
    | [v0, v1, v2, v3, v4, v5, v6, v7, v8, v9, v10, v11, v12, v13, v14, v15], _ => exact ⟨v0, v1, v2, v3, v4, v5, v6, v7, v8, v9, v10, v11, v12, v13, v14, v15, rfl⟩
  have hcs : cs = #[v0, v1, v2, v3, v4, v5, v6, v7, v8, v9, v10, v11, v12, v13, v14, v15] := by cases cs; simp at hL; rw [hL]
  have hxl : xs.length = 9 := hxl
  have g0 : DataW.trod enc Tryz.prog w base (fun _ => true) held m 3 ((cs.toList.drop 0).take (Tryz.prog.cellsOf 3)) = xs[0]? := hfi 0 _ rfl
  have g1 : DataW.trod enc Tryz.prog w base (fun _ => true) held m 3 ((cs.toList.drop 1).take (Tryz.prog.cellsOf 3)) = xs[1]? := hfi 1 _ rfl
  have g2 : DataW.trod enc Tryz.prog w base (fun _ => true) held m 5 ((cs.toList.drop 2).take (Tryz.prog.cellsOf 5)) = xs[2]? := hfi 2 _ rfl
  have g3 : DataW.trod enc Tryz.prog w base (fun _ => true) held m 3 ((cs.toList.drop 3).take (Tryz.prog.cellsOf 3)) = xs[3]? := hfi 3 _ rfl
  have g4 : DataW.trod enc Tryz.prog w base (fun _ => true) held m 24 ((cs.toList.drop 4).take (Tryz.prog.cellsOf 24)) = xs[4]? := hfi 4 _ rfl
  have g5 : DataW.trod enc Tryz.prog w base (fun _ => true) held m 25 ((cs.toList.drop 7).take (Tryz.prog.cellsOf 25)) = xs[5]? := hfi 5 _ rfl
  have g6 : DataW.trod enc Tryz.prog w base (fun _ => true) held m 3 ((cs.toList.drop 13).take (Tryz.prog.cellsOf 3)) = xs[6]? := hfi 6 _ rfl
  have g7 : DataW.trod enc Tryz.prog w base (fun _ => true) held m 3 ((cs.toList.drop 14).take (Tryz.prog.cellsOf 3)) = xs[7]? := hfi 7 _ rfl
  have g8 : DataW.trod enc Tryz.prog w base (fun _ => true) held m 3 ((cs.toList.drop 15).take (Tryz.prog.cellsOf 3)) = xs[8]? := hfi 8 _ rfl
  simp only [hL, cInt, cU8, cDom, cArr, List.drop_zero, List.drop_succ_cons, List.take_succ_cons, List.take_zero] at g0 g1 g2 g3 g4 g5 g6 g7 g8
  obtain ⟨thr, rfl, -⟩ := int_of Tryz.underlying3 g0 (some_of hxl (by decide))
  obtain ⟨sl, rfl, -⟩ := int_of Tryz.underlying3 g1 (some_of hxl (by decide))
  obtain ⟨eng, rfl, weng⟩ := int_of Tryz.underlying5 g2 (some_of hxl (by decide))
  obtain ⟨bk, rfl, -⟩ := int_of Tryz.underlying3 g3 (some_of hxl (by decide))
  obtain ⟨lk, rfl, -⟩ := int_of Tryz.underlying3 g6 (some_of hxl (by decide))
  obtain ⟨tr, rfl, -⟩ := int_of Tryz.underlying3 g7 (some_of hxl (by decide))
  obtain ⟨ba, rfl, -⟩ := int_of Tryz.underlying3 g8 (some_of hxl (by decide))
  -- the towers
  obtain ⟨x5, hx5⟩ := Option.isSome_iff_exists.1 (some_of (i := 5) hxl (by decide))
  rw [hx5] at g5
  obtain ⟨L5, hL5⟩ : ∃ L5, L5 = [v7, v8, v9, v10, v11, v12] := ⟨_, rfl⟩
  rw [← hL5] at g5
  obtain ⟨ys, m5, -, -, -, hyl, hyi⟩ := DataW.trod_array Tryz.underlying25 g5
  have a0 : DataW.trod enc Tryz.prog w base (fun _ => true) held m5 3 ((L5.drop (0 * Tryz.prog.cellsOf 3)).take (Tryz.prog.cellsOf 3)) = ys[0]? := hyi 0 (by decide)
  have a1 : DataW.trod enc Tryz.prog w base (fun _ => true) held m5 3 ((L5.drop (1 * Tryz.prog.cellsOf 3)).take (Tryz.prog.cellsOf 3)) = ys[1]? := hyi 1 (by decide)
  have a2 : DataW.trod enc Tryz.prog w base (fun _ => true) held m5 3 ((L5.drop (2 * Tryz.prog.cellsOf 3)).take (Tryz.prog.cellsOf 3)) = ys[2]? := hyi 2 (by decide)
  have a3 : DataW.trod enc Tryz.prog w base (fun _ => true) held m5 3 ((L5.drop (3 * Tryz.prog.cellsOf 3)).take (Tryz.prog.cellsOf 3)) = ys[3]? := hyi 3 (by decide)
  have a4 : DataW.trod enc Tryz.prog w base (fun _ => true) held m5 3 ((L5.drop (4 * Tryz.prog.cellsOf 3)).take (Tryz.prog.cellsOf 3)) = ys[4]? := hyi 4 (by decide)
  have a5 : DataW.trod enc Tryz.prog w base (fun _ => true) held m5 3 ((L5.drop (5 * Tryz.prog.cellsOf 3)).take (Tryz.prog.cellsOf 3)) = ys[5]? := hyi 5 (by decide)
  simp only [hL5, cInt, Nat.zero_mul, Nat.one_mul, Nat.mul_one, List.drop_zero, List.drop_succ_cons, List.take_succ_cons, List.take_zero] at a0 a1 a2 a3 a4 a5
  obtain ⟨t1, rfl, -⟩ := int_of Tryz.underlying3 a0 (some_of hyl (by decide))
  obtain ⟨t2, rfl, -⟩ := int_of Tryz.underlying3 a1 (some_of hyl (by decide))
  obtain ⟨t3, rfl, -⟩ := int_of Tryz.underlying3 a2 (some_of hyl (by decide))
  obtain ⟨t4, rfl, -⟩ := int_of Tryz.underlying3 a3 (some_of hyl (by decide))
  obtain ⟨t5, rfl, -⟩ := int_of Tryz.underlying3 a4 (some_of hyl (by decide))
  obtain ⟨t6, rfl, -⟩ := int_of Tryz.underlying3 a5 (some_of hyl (by decide))
  -- the domain
  obtain ⟨x4, hx4⟩ := Option.isSome_iff_exists.1 (some_of (i := 4) hxl (by decide))
  rw [hx4] at g4
  obtain ⟨L4, hL4⟩ : ∃ L4, L4 = [v4, v5, v6] := ⟨_, rfl⟩
  rw [← hL4] at g4
  obtain ⟨zs, m4, -, -, -, hzl, hzi⟩ := DataW.trod_struct Tryz.underlying24 g4
  have hzl : zs.length = 3 := hzl
  have e0 : DataW.trod enc Tryz.prog w base (fun _ => true) held m4 5 ((L4.drop 0).take (Tryz.prog.cellsOf 5)) = zs[0]? := hzi 0 _ rfl
  have e1 : DataW.trod enc Tryz.prog w base (fun _ => true) held m4 3 ((L4.drop 1).take (Tryz.prog.cellsOf 3)) = zs[1]? := hzi 1 _ rfl
  have e2 : DataW.trod enc Tryz.prog w base (fun _ => true) held m4 22 ((L4.drop 2).take (Tryz.prog.cellsOf 22)) = zs[2]? := hzi 2 _ rfl
  simp only [hL4, cInt, cU8, cSl, List.drop_zero, List.drop_succ_cons, List.take_succ_cons, List.take_zero] at e0 e1 e2
  obtain ⟨dk, rfl, -⟩ := int_of Tryz.underlying5 e0 (some_of hzl (by decide))
  obtain ⟨dn, rfl, -⟩ := int_of Tryz.underlying3 e1 (some_of hzl (by decide))
  obtain ⟨z2, hz2⟩ := Option.isSome_iff_exists.1 (some_of (i := 2) hzl (by decide))
  rw [hz2] at e2
  have he : 0 ≤ eng ∧ eng < 256 := WfU8 weng
  rcases Deep.open_slice1 Tryz.underlying22 cU64 e2 with ⟨hcs6, _⟩ | ⟨a, len, cap, mm, k, V, D, Pl, hcs6, _, hlc, hcm, hmm, _, hi⟩
  · simp only [List.cons.injEq, and_true] at hcs6
    subst hcs6
    exact ⟨⟨thr, sl, eng, bk, dk, dn, none, 0, 0, t1, t2, t3, t4, t5, t6, lk, tr, ba⟩, [], by rw [hcs]; rfl, rfl, ⟨rfl, fun h => absurd h (by simp)⟩, he, Nat.zero_le _, Nat.zero_le _⟩
  · simp only [List.cons.injEq, and_true] at hcs6
    subst hcs6
    simp only [if_true] at hmm
    have get : ∀ i, i < len → ∃ n : Nat, w.cell? (a.add i) = some (.int .u64 (n : Int)) := fun i hil => by
      obtain ⟨h1, h2⟩ := hi i (by omega)
      obtain ⟨n, h3, hw⟩ := int_of Tryz.underlying39 h2 rfl
      have := WfU64 hw
      exact ⟨n.toNat, by rw [h1, h3]; congr 2; omega⟩
    let cuts := (List.range len).map fun i => if h : i < len then Classical.choose (get i h) else 0
    have hcut : ∀ i (hil : i < len), cuts[i]? = some (Classical.choose (get i hil)) := by
      intro i hil
      simp only [cuts, List.getElem?_map, List.getElem?_range hil, Option.map_some, dif_pos hil]
    have hcl : cuts.length = len := by simp [cuts]
    refine ⟨⟨thr, sl, eng, bk, dk, dn, some a, len, cap, t1, t2, t3, t4, t5, t6, lk, tr, ba⟩, cuts, by rw [hcs]; rfl, hcl.symm, ⟨by simp [nums], fun h0 => ?_⟩, he, hcm, hlc⟩
    have h00 := Classical.choose_spec (get 0 (by omega))
    have hsp : a.spot = none := by
      have := spot_of_cell h00
      rwa [add_zero] at this
    have hb := World.block_lt_of_cell? w _ h00
    rw [add_block] at hb
    refine ⟨a.block, a.off, by cases a; simp at hsp; subst hsp; rfl, hb, fun j u hu => ?_⟩
    have hj : j < len := by have := (List.getElem?_eq_some_iff.1 hu).1; simp [nums] at this; omega
    have h1 := (congrArg w.cell? (add_spot hsp)).symm.trans (Classical.choose_spec (get j hj))
    have h2 := nums_at (hcut j hj)
    rw [hu] at h2
    injection h2 with h2
    rw [h2]
    exact h1
end
end Go.Proofs.YtkikdpdainmlcaaGreat
