import Derived.Test.YtahagplegmcaaaaGreatDoorGYb
import Derived.Test.YtahagplegmcaaaaGreatDoorGYd1
import Derived.Test.YtahagplegmcaaaaGreatDoorGYd2
import Derived.Test.YtahagplegmcaaaaGreatDoorGLaw
import Derived.Test.YtahagplegmcaaaaGreatDoorGWp
import Derived.Test.YtahagplegmcaaaaGreatDoorGVm
import Derived.Test.YtahagplegmcaaaaGreatDoorGQl
set_option linter.unusedVariables false
set_option linter.unusedSimpArgs false
set_option linter.unnecessarySimpa false
namespace Go.Proofs.YtahagplegmcaaaaGreatDoor
open Go.RowKit Go.Xt
/-! The law ModelKeys. -/
/-- The law. -/
theorem keys_M (c d : Cf) (cc cd : List Nat) (A B : Option Addr) (n m ca cb : Nat) (sm : Bool) (ds es : List Dd) (w : World) (hc : Rd w 1 c.cA cc.length (nums cc)) (hcn : c.cn = cc.length) (hcr : 0 ≤ c.eng ∧ c.eng < 256) (hd : Rd w 1 d.cA cd.length (nums cd)) (hdn : d.cn = cd.length) (hdr : 0 ≤ d.eng ∧ d.eng < 256) (hA : Rd w 15 A n (dcells ds)) (hB : Rd w 15 B m (dcells es)) (hoA : ∀ x ∈ ds, DdOk x) (hoB : ∀ x ∈ es, DdOk x) (HF : FmtAt w) :
    Calls Tryz.prog 3 #[confV c, confV d, .agg #[.slice A n ca, .slice B m cb, .bool sm]] w fun e w' => e = .returned (.bool true) ∧ Nw w w' := by
  cases h1 : (decide (n ≤ 80) && decide (c.cn ≤ 70)) with
  | false =>
    cases h2 : (decide (m ≤ 80) && decide (d.cn ≤ 70)) with
    | false => exact keys_ff c d A B n m ca cb sm w h1 h2
    | true => exact keys_ft c d A B n m ca cb sm w h1 h2
  | true =>
    cases h2 : (decide (m ≤ 80) && decide (d.cn ≤ 70)) with
    | false => exact keys_tf c d A B n m ca cb sm w h1 h2
    | true =>
      cases sm with
      | false => exact keys_two c d cc cd A B n m ca cb ds es w hc hcn hcr hd hdn hdr hA hB hoA hoB HF h1 h2
      | true => exact keys_same c d cc cd A B n m ca cb ds es w hc hcn hcr hd hdn hdr hA hB hoA hoB HF h1 h2
end Go.Proofs.YtahagplegmcaaaaGreatDoor
namespace Go.Proofs.YtahagplegmcaaaaGreatDoor
open Go.ChangeShapes Go.WideShapes Go.ChangeAt Go.RowKit Go.Joins Go.Xt
/-! The deeds opened. -/
abbrev ddLeaves : List Leaf := [Leaf.int .i64, Leaf.int .u8, Leaf.int .u64, Leaf.int .u64, Leaf.int .u64, Leaf.int .u64, Leaf.int .u64, Leaf.int .u64, Leaf.bool, Leaf.int .u8, Leaf.int .i64, Leaf.bool, Leaf.int .u64, Leaf.int .u64, Leaf.int .i64]
def decD : List Value → Dd
  | [.int _ t, .int _ k, .int _ a, .int _ b, .int _ c, .int _ d, .int _ e, .int _ f, .bool j, .int _ y, .int _ er, .bool fd, .int _ rk, .int _ rv, .int _ rc] => ⟨t, ⟨k, a, b, c, d, e, f⟩, j, y, ⟨er, fd, rk, rv, rc⟩⟩
  | _ => ⟨0, ⟨0, 0, 0, 0, 0, 0, 0⟩, false, 0, ⟨0, false, 0, 0, 0⟩⟩
theorem decD_ok {cs : List Value} (h : All2 ddLeaves cs) : dc (decD cs) = cs ∧ DdOk (decD cs) := by
  obtain ⟨_, l1, rfl, ⟨t, rfl, wt⟩, h1⟩ := All2.cons h
  obtain ⟨_, l2, rfl, ⟨k, rfl, wk⟩, h2⟩ := All2.cons h1
  obtain ⟨_, l3, rfl, ⟨a, rfl, wa⟩, h3⟩ := All2.cons h2
  obtain ⟨_, l4, rfl, ⟨b, rfl, wb⟩, h4⟩ := All2.cons h3
  obtain ⟨_, l5, rfl, ⟨c, rfl, wc⟩, h5⟩ := All2.cons h4
  obtain ⟨_, l6, rfl, ⟨d, rfl, wd⟩, h6⟩ := All2.cons h5
  obtain ⟨_, l7, rfl, ⟨e, rfl, we⟩, h7⟩ := All2.cons h6
  obtain ⟨_, l8, rfl, ⟨f, rfl, wf⟩, h8⟩ := All2.cons h7
  obtain ⟨_, l9, rfl, ⟨j, rfl⟩, h9⟩ := All2.cons h8
  obtain ⟨_, l10, rfl, ⟨y, rfl, wy⟩, h10⟩ := All2.cons h9
  obtain ⟨_, l11, rfl, ⟨er, rfl, wer⟩, h11⟩ := All2.cons h10
  obtain ⟨_, l12, rfl, ⟨fd, rfl⟩, h12⟩ := All2.cons h11
  obtain ⟨_, l13, rfl, ⟨rk, rfl, wrk⟩, h13⟩ := All2.cons h12
  obtain ⟨_, l14, rfl, ⟨rv, rfl, wrv⟩, h14⟩ := All2.cons h13
  obtain ⟨_, l15, rfl, ⟨rc, rfl, wrc⟩, h15⟩ := All2.cons h14
  obtain rfl := All2.nil h15
  exact ⟨rfl, ⟨WfU8 wk, WfU64 wa, WfU64 wb, WfU64 wc, WfU64 wd, WfU64 we, WfU64 wf⟩, WfU64 wrk, (WfU8 wy).1⟩
theorem deeds_of {W : World} {A : Option Addr} {len : Nat} {L : List (List Value)} (hn : L.length = len) (hall : ∀ cs ∈ L, All2 ddLeaves cs)
    (hrd : 0 < len → ∃ b o, A = some ⟨b, o, none⟩ ∧ b < W.heap.size ∧ ∀ i cs, L[i]? = some cs → ∀ j u, cs[j]? = some u → W.cell? ⟨b, o + (i * 15 + j), none⟩ = some u) : ∃ ds, Rd W 15 A len (dcells ds) ∧ ∀ d ∈ ds, DdOk d := by
  refine ⟨L.map decD, ⟨by rw [dcells_len, List.length_map, hn], fun hp => ?_⟩, fun d hd => ?_⟩
  · obtain ⟨b, o, rfl, hb, hc⟩ := hrd hp
    refine ⟨b, o, rfl, hb, fun j u hu => ?_⟩
    have hj : j < (dcells (L.map decD)).length := (List.getElem?_eq_some_iff.1 hu).1
    rw [dcells_len, List.length_map] at hj
    obtain ⟨cs, hcs⟩ : ∃ cs, L[j / 15]? = some cs := ⟨_, List.getElem?_eq_getElem (by omega)⟩
    have h1 := (decD_ok (hall cs (List.mem_of_getElem? hcs))).1
    have hl : (dc (decD cs)).length = 15 := rfl
    obtain ⟨v, hv⟩ : ∃ v, (dc (decD cs))[j % 15]? = some v := ⟨_, List.getElem?_eq_getElem (by omega)⟩
    have h2 := dcells_get (L.map decD) (j / 15) (decD cs) (by rw [List.getElem?_map, hcs]; rfl) (j % 15) v hv
    have e : j / 15 * 15 + j % 15 = j := by omega
    rw [e, hu] at h2
    cases h2
    rw [h1] at hv
    have h3 := hc _ _ hcs _ _ hv
    rw [e] at h3
    exact h3
  · obtain ⟨cs, hcs, rfl⟩ := List.mem_map.1 hd
    exact (decD_ok (hall cs hcs)).2
end Go.Proofs.YtahagplegmcaaaaGreatDoor
namespace Go.Proofs.YtahagplegmcaaaaGreatDoor
open Go.ChangeShapes Go.WideShapes Go.ChangeAt Go.RowKit Go.Joins Go.Xt
/-! A configuration opened. -/
section
variable {H : Type} {enc : TypeId × Value → H} {w : World} {base : Nat} {spare : Nat → Bool} {held : Bool}
theorem cInt : Tryz.prog.cellsOf 3 = 1 := by kernel_rfl
theorem cU8 : Tryz.prog.cellsOf 5 = 1 := by kernel_rfl
theorem cU64 : Tryz.prog.cellsOf 40 = 1 := by kernel_rfl
theorem cSl : Tryz.prog.cellsOf 22 = 1 := by kernel_rfl
theorem cDom : Tryz.prog.cellsOf 24 = 3 := by kernel_rfl
theorem cArr : Tryz.prog.cellsOf 25 = 6 := by kernel_rfl
theorem cConf : Tryz.prog.cellsOf 27 = 16 := by kernel_rfl
theorem int_of {k : IntKind} {t : TypeId} {fuel : Nat} {v : Value} {x : Option (DataW H × List MemPlace)} (ht : Tryz.prog.underlying t = some (.int k)) (h : DataW.trod enc Tryz.prog w base spare held fuel t [v] = x) (hx : x.isSome = true) : ∃ n, v = .int k n ∧ (Lit.int k n).wf = true := by
  obtain ⟨y, hy⟩ := Option.isSome_iff_exists.1 hx
  rw [hy] at h
  obtain ⟨n, e, _, hw⟩ := DataW.trod_int ht h
  simp at e
  exact ⟨n, e, hw⟩
theorem some_of {α : Type} {xs : List α} {n i : Nat} (h : xs.length = n) (hi : i < n) : (xs[i]?).isSome = true := by
  rw [List.getElem?_eq_getElem (by omega)]; rfl
set_option maxRecDepth 100000 in
/-- A configuration by value. -/
theorem open_conf {v : Value} {d : DataW H} {p : List MemPlace} {r : Reach} {b0 : Nat} (hv : Value.okWide Tryz.prog w r b0 27 v) (h : DataW.Trod enc Tryz.prog w base (fun _ => true) held 27 v d p) :
    ∃ (c : Cf) (cuts : List Nat), v = confV c ∧ c.cn = cuts.length ∧ Rd w 1 c.cA cuts.length (nums cuts) ∧ (0 ≤ c.eng ∧ c.eng < 256) ∧ c.cc ≤ maxLen := by
  obtain ⟨cs, rfl, _⟩ := okWide_struct Tryz.underlying27 hv
  obtain ⟨fuel, hf⟩ := h
  have hf : DataW.trod enc Tryz.prog w base (fun _ => true) held fuel 27 cs.toList = some (d, p) := by simpa [Value.cells] using hf
  obtain ⟨xs, m, -, -, hl, hxl, hfi⟩ := DataW.trod_struct Tryz.underlying27 hf
  rw [cConf] at hl
  obtain ⟨v0, v1, v2, v3, v4, v5, v6, v7, v8, v9, v10, v11, v12, v13, v14, v15, hL⟩ : ∃ v0 v1 v2 v3 v4 v5 v6 v7 v8 v9 v10 v11 v12 v13 v14 v15, cs.toList = [v0, v1, v2, v3, v4, v5, v6, v7, v8, v9, v10, v11, v12, v13, v14, v15] := by
    match cs.toList, hl with
    | [v0, v1, v2, v3, v4, v5, v6, v7, v8, v9, v10, v11, v12, v13, v14, v15], _ => exact ⟨v0, v1, v2, v3, v4, v5, v6, v7, v8, v9, v10, v11, v12, v13, v14, v15, rfl⟩
  have hcs : cs = #[v0, v1, v2, v3, v4, v5, v6, v7, v8, v9, v10, v11, v12, v13, v14, v15] := by cases cs; simp at hL; rw [hL]
  have hxl : xs.length = 9 := hxl
  have g0 : DataW.trod enc Tryz.prog w base (fun _ => true) held m 3 ((cs.toList.drop 0).take (Tryz.prog.cellsOf 3)) = xs[0]? := hfi 0 _ rfl
  have g1 : DataW.trod enc Tryz.prog w base (fun _ => true) held m 3 ((cs.toList.drop 1).take (Tryz.prog.cellsOf 3)) = xs[1]? := hfi 1 _ rfl
  have g2 : DataW.trod enc Tryz.prog w base (fun _ => true) held m 5 ((cs.toList.drop 2).take (Tryz.prog.cellsOf 5)) = xs[2]? := hfi 2 _ rfl
  have g3 : DataW.trod enc Tryz.prog w base (fun _ => true) held m 3 ((cs.toList.drop 3).take (Tryz.prog.cellsOf 3)) = xs[3]? := hfi 3 _ rfl
  have g4 : DataW.trod enc Tryz.prog w base (fun _ => true) held m 24 ((cs.toList.drop 4).take (Tryz.prog.cellsOf 24)) = xs[4]? := hfi 4 _ rfl
  have g5 : DataW.trod enc Tryz.prog w base (fun _ => true) held m 25 ((cs.toList.drop 7).take (Tryz.prog.cellsOf 25)) = xs[5]? := hfi 5 _ rfl
  have g6 : DataW.trod enc Tryz.prog w base (fun _ => true) held m 3 ((cs.toList.drop 13).take (Tryz.prog.cellsOf 3)) = xs[6]? := hfi 6 _ rfl
  have g7 : DataW.trod enc Tryz.prog w base (fun _ => true) held m 3 ((cs.toList.drop 14).take (Tryz.prog.cellsOf 3)) = xs[7]? := hfi 7 _ rfl
  have g8 : DataW.trod enc Tryz.prog w base (fun _ => true) held m 3 ((cs.toList.drop 15).take (Tryz.prog.cellsOf 3)) = xs[8]? := hfi 8 _ rfl
  simp only [hL, cInt, cU8, cDom, cArr, List.drop_zero, List.drop_succ_cons, List.take_succ_cons, List.take_zero] at g0 g1 g2 g3 g4 g5 g6 g7 g8
  obtain ⟨thr, rfl, -⟩ := int_of Tryz.underlying3 g0 (some_of hxl (by decide))
  obtain ⟨sl, rfl, -⟩ := int_of Tryz.underlying3 g1 (some_of hxl (by decide))
  obtain ⟨eng, rfl, weng⟩ := int_of Tryz.underlying5 g2 (some_of hxl (by decide))
  obtain ⟨bk, rfl, -⟩ := int_of Tryz.underlying3 g3 (some_of hxl (by decide))
  obtain ⟨lk, rfl, -⟩ := int_of Tryz.underlying3 g6 (some_of hxl (by decide))
  obtain ⟨tr, rfl, -⟩ := int_of Tryz.underlying3 g7 (some_of hxl (by decide))
  obtain ⟨ba, rfl, -⟩ := int_of Tryz.underlying3 g8 (some_of hxl (by decide))
  -- the towers
  obtain ⟨x5, hx5⟩ := Option.isSome_iff_exists.1 (some_of (i := 5) hxl (by decide))
  rw [hx5] at g5
  obtain ⟨L5, hL5⟩ : ∃ L5, L5 = [v7, v8, v9, v10, v11, v12] := ⟨_, rfl⟩
  rw [← hL5] at g5
  obtain ⟨ys, m5, -, -, -, hyl, hyi⟩ := DataW.trod_array Tryz.underlying25 g5
  have a0 : DataW.trod enc Tryz.prog w base (fun _ => true) held m5 3 ((L5.drop (0 * Tryz.prog.cellsOf 3)).take (Tryz.prog.cellsOf 3)) = ys[0]? := hyi 0 (by decide)
  have a1 : DataW.trod enc Tryz.prog w base (fun _ => true) held m5 3 ((L5.drop (1 * Tryz.prog.cellsOf 3)).take (Tryz.prog.cellsOf 3)) = ys[1]? := hyi 1 (by decide)
  have a2 : DataW.trod enc Tryz.prog w base (fun _ => true) held m5 3 ((L5.drop (2 * Tryz.prog.cellsOf 3)).take (Tryz.prog.cellsOf 3)) = ys[2]? := hyi 2 (by decide)
  have a3 : DataW.trod enc Tryz.prog w base (fun _ => true) held m5 3 ((L5.drop (3 * Tryz.prog.cellsOf 3)).take (Tryz.prog.cellsOf 3)) = ys[3]? := hyi 3 (by decide)
  have a4 : DataW.trod enc Tryz.prog w base (fun _ => true) held m5 3 ((L5.drop (4 * Tryz.prog.cellsOf 3)).take (Tryz.prog.cellsOf 3)) = ys[4]? := hyi 4 (by decide)
  have a5 : DataW.trod enc Tryz.prog w base (fun _ => true) held m5 3 ((L5.drop (5 * Tryz.prog.cellsOf 3)).take (Tryz.prog.cellsOf 3)) = ys[5]? := hyi 5 (by decide)
  simp only [hL5, cInt, Nat.zero_mul, Nat.one_mul, Nat.mul_one, List.drop_zero, List.drop_succ_cons, List.take_succ_cons, List.take_zero] at a0 a1 a2 a3 a4 a5
  obtain ⟨t1, rfl, -⟩ := int_of Tryz.underlying3 a0 (some_of hyl (by decide))
  obtain ⟨t2, rfl, -⟩ := int_of Tryz.underlying3 a1 (some_of hyl (by decide))
  obtain ⟨t3, rfl, -⟩ := int_of Tryz.underlying3 a2 (some_of hyl (by decide))
  obtain ⟨t4, rfl, -⟩ := int_of Tryz.underlying3 a3 (some_of hyl (by decide))
  obtain ⟨t5, rfl, -⟩ := int_of Tryz.underlying3 a4 (some_of hyl (by decide))
  obtain ⟨t6, rfl, -⟩ := int_of Tryz.underlying3 a5 (some_of hyl (by decide))
  -- the domain
  obtain ⟨x4, hx4⟩ := Option.isSome_iff_exists.1 (some_of (i := 4) hxl (by decide))
  rw [hx4] at g4
  obtain ⟨L4, hL4⟩ : ∃ L4, L4 = [v4, v5, v6] := ⟨_, rfl⟩
  rw [← hL4] at g4
  obtain ⟨zs, m4, -, -, -, hzl, hzi⟩ := DataW.trod_struct Tryz.underlying24 g4
  have hzl : zs.length = 3 := hzl
  have e0 : DataW.trod enc Tryz.prog w base (fun _ => true) held m4 5 ((L4.drop 0).take (Tryz.prog.cellsOf 5)) = zs[0]? := hzi 0 _ rfl
  have e1 : DataW.trod enc Tryz.prog w base (fun _ => true) held m4 3 ((L4.drop 1).take (Tryz.prog.cellsOf 3)) = zs[1]? := hzi 1 _ rfl
  have e2 : DataW.trod enc Tryz.prog w base (fun _ => true) held m4 22 ((L4.drop 2).take (Tryz.prog.cellsOf 22)) = zs[2]? := hzi 2 _ rfl
  simp only [hL4, cInt, cU8, cSl, List.drop_zero, List.drop_succ_cons, List.take_succ_cons, List.take_zero] at e0 e1 e2
  obtain ⟨dk, rfl, -⟩ := int_of Tryz.underlying5 e0 (some_of hzl (by decide))
  obtain ⟨dn, rfl, -⟩ := int_of Tryz.underlying3 e1 (some_of hzl (by decide))
  obtain ⟨z2, hz2⟩ := Option.isSome_iff_exists.1 (some_of (i := 2) hzl (by decide))
  rw [hz2] at e2
  have he : 0 ≤ eng ∧ eng < 256 := WfU8 weng
  rcases Deep.open_slice1 Tryz.underlying22 cU64 e2 with ⟨hcs6, _⟩ | ⟨a, len, cap, mm, k, V, D, Pl, hcs6, _, hlc, hcm, hmm, _, hi⟩
  · simp only [List.cons.injEq, and_true] at hcs6
    subst hcs6
    exact ⟨⟨thr, sl, eng, bk, dk, dn, none, 0, 0, t1, t2, t3, t4, t5, t6, lk, tr, ba⟩, [], by rw [hcs]; rfl, rfl, ⟨rfl, fun h => absurd h (by simp)⟩, he, Nat.zero_le _⟩
  · simp only [List.cons.injEq, and_true] at hcs6
    subst hcs6
    simp only [if_true] at hmm
    have get : ∀ i, i < len → ∃ n : Nat, w.cell? (a.add i) = some (.int .u64 (n : Int)) := fun i hil => by
      obtain ⟨h1, h2⟩ := hi i (by omega)
      obtain ⟨n, h3, hw⟩ := int_of Tryz.underlying40 h2 rfl
      have := WfU64 hw
      exact ⟨n.toNat, by rw [h1, h3]; congr 2; omega⟩
    let cuts := (List.range len).map fun i => if h : i < len then Classical.choose (get i h) else 0
    have hcut : ∀ i (hil : i < len), cuts[i]? = some (Classical.choose (get i hil)) := by
      intro i hil
      simp only [cuts, List.getElem?_map, List.getElem?_range hil, Option.map_some, dif_pos hil]
    have hcl : cuts.length = len := by simp [cuts]
    refine ⟨⟨thr, sl, eng, bk, dk, dn, some a, len, cap, t1, t2, t3, t4, t5, t6, lk, tr, ba⟩, cuts, by rw [hcs]; rfl, hcl.symm, ⟨by simp [nums], fun h0 => ?_⟩, he, hcm⟩
    have h00 := Classical.choose_spec (get 0 (by omega))
    have hsp : a.spot = none := by
      have := spot_of_cell h00
      rwa [add_zero] at this
    have hb := World.block_lt_of_cell? w _ h00
    rw [add_block] at hb
    refine ⟨a.block, a.off, by cases a; simp at hsp; subst hsp; rfl, hb, fun j u hu => ?_⟩
    have hj : j < len := by have := (List.getElem?_eq_some_iff.1 hu).1; simp [nums] at this; omega
    have h1 := (congrArg w.cell? (add_spot hsp)).symm.trans (Classical.choose_spec (get j hj))
    have h2 := nums_at (hcut j hj)
    rw [hu] at h2
    injection h2 with h2
    rw [h2]
    exact h1
end
end Go.Proofs.YtahagplegmcaaaaGreatDoor
namespace Go.Proofs.YtahagplegmcaaaaGreatDoor
open Go.ChangeShapes Go.WideShapes Go.ChangeAt Go.RowKit Go.Joins Go.Xt
/-! The runs of two models opened: a struct of two slices of deeds and a bool. -/
theorem flats_at {P : Program} {H : Type} {enc : TypeId × Value → H} {w : World} {base : Nat} {held : Bool} {t e : TypeId} {ks : List Leaf} {n fuel : Nat} {v : Value} {x : Option (DataW H × List MemPlace)} (ht : P.underlying t = some (.slice e)) (hk : leaves P n e = some ks) (hC : P.cellsOf e = ks.length) (hpos : 0 < ks.length)
    (h : DataW.trod enc P w base (fun _ => true) held fuel t [v] = x) (hx : x.isSome = true) :
    ∃ (A : Option Addr) (len cap : Nat) (L : List (List Value)), v = .slice A len cap ∧ L.length = len ∧ (∀ cs ∈ L, All2 ks cs) ∧
      (0 < len → ∃ b o, A = some ⟨b, o, none⟩ ∧ b < w.heap.size ∧ ∀ i cs, L[i]? = some cs → ∀ j u, cs[j]? = some u → w.cell? ⟨b, o + (i * ks.length + j), none⟩ = some u) := by
  obtain ⟨y, hy⟩ := Option.isSome_iff_exists.1 hx
  rw [hy] at h
  rcases Deep.open_slice ht h with ⟨hcs, _⟩ | ⟨a, len0, cap0, m, k, D, Pl, hcs, _, hl, hm, hmm, _, hi⟩
  · simp only [List.cons.injEq, and_true] at hcs
    subst hcs
    exact ⟨none, 0, 0, [], rfl, rfl, by simp, fun h => absurd h (by omega)⟩
  · simp only [List.cons.injEq, and_true] at hcs
    subst hcs
    simp only [if_true] at hmm
    subst hmm
    have get : ∀ i, i < len0 → ∃ cs, All2 ks cs ∧ ∀ j u, cs[j]? = some u → w.cell? ((a.add (i * ks.length)).add j) = some u := by
      intro i hil
      obtain ⟨cs, hc, hx⟩ := hi i (by omega)
      obtain ⟨_, hlen, hcell⟩ := World.cells?_some hc
      rw [hC] at hlen hcell
      exact ⟨cs, leaves_ok hk _ _ _ hx, fun j u hu => by
        have hj : j < ks.length := by have := (List.getElem?_eq_some_iff.1 hu).1; omega
        have := hcell j hj
        rw [this, hu]⟩
    let L := (List.range len0).map fun i => if h : i < len0 then Classical.choose (get i h) else []
    have hL : ∀ i (hil : i < len0), L[i]? = some (Classical.choose (get i hil)) := by
      intro i hil
      simp only [L, List.getElem?_map, List.getElem?_range hil, Option.map_some, dif_pos hil]
    refine ⟨_, _, _, L, rfl, by simp [L], ?_, ?_⟩
    · intro cs hcs
      obtain ⟨i, hil, rfl⟩ := List.mem_iff_getElem.1 hcs
      have hil' : i < len0 := by simpa [L] using hil
      have h1 := hL i hil'
      rw [List.getElem?_eq_getElem hil] at h1
      injection h1 with h1
      rw [h1]
      exact (Classical.choose_spec (get i hil')).1
    · intro hpos0
      have h0 := get 0 hpos0
      obtain ⟨cs, hall, hcell⟩ := h0
      have hcl := hall.length
      have h00 := hcell 0 (cs[0]'(by omega)) (List.getElem?_eq_getElem (by omega))
      have hsp : a.spot = none := by
        have := spot_of_cell h00
        rwa [Nat.zero_mul, add_zero, add_zero] at this
      have hb := World.block_lt_of_cell? w _ h00
      rw [add_block, add_block] at hb
      refine ⟨a.block, a.off, by cases a; simp at hsp; subst hsp; rfl, hb, fun i cs' hi' j u hu => ?_⟩
      have hil : i < len0 := by have := (List.getElem?_eq_some_iff.1 hi').1; simpa [L] using this
      have h1 := hL i hil
      rw [hi'] at h1
      injection h1 with h1
      subst h1
      have := (Classical.choose_spec (get i hil)).2 j u hu
      rw [add_spot (by rw [add_spot hsp]), add_spot hsp] at this
      simpa [Nat.add_assoc] using this
theorem cDeeds : Tryz.prog.cellsOf 28 = 1 := by kernel_rfl
theorem cBool : Tryz.prog.cellsOf 4 = 1 := by kernel_rfl
theorem cTwo : Tryz.prog.cellsOf 30 = 3 := by kernel_rfl
theorem lvD : leaves Tryz.prog 9 47 = some ddLeaves := by kernel_rfl
theorem cDd : Tryz.prog.cellsOf 47 = ddLeaves.length := by kernel_rfl
theorem bool_of {H : Type} {enc : TypeId × Value → H} {w : World} {base fuel : Nat} {spare : Nat → Bool} {held : Bool} {t : TypeId} {v : Value} {x : Option (DataW H × List MemPlace)} (ht : Tryz.prog.underlying t = some .bool) (h : DataW.trod enc Tryz.prog w base spare held fuel t [v] = x) (hx : x.isSome = true) : ∃ b, v = .bool b := by
  obtain ⟨y, hy⟩ := Option.isSome_iff_exists.1 hx
  rw [hy] at h
  obtain ⟨b, e, _⟩ := DataW.trod_bool ht h
  simp at e
  exact ⟨b, e⟩
set_option maxRecDepth 100000 in
theorem open_two {H : Type} {enc : TypeId × Value → H} {w : World} {base : Nat} {held : Bool} {v : Value} {d : DataW H} {p : List MemPlace} {r : Reach} {b0 : Nat} (hv : Value.okWide Tryz.prog w r b0 30 v) (h : DataW.Trod enc Tryz.prog w base (fun _ => true) held 30 v d p) :
    ∃ (A B : Option Addr) (n m ca cb : Nat) (sm : Bool) (ds es : List Dd), v = .agg #[.slice A n ca, .slice B m cb, .bool sm] ∧ Rd w 15 A n (dcells ds) ∧ Rd w 15 B m (dcells es) ∧ (∀ d ∈ ds, DdOk d) ∧ (∀ d ∈ es, DdOk d) := by
  obtain ⟨cs, rfl, _⟩ := okWide_struct Tryz.underlying30 hv
  obtain ⟨fuel, hf⟩ := h
  have hf : DataW.trod enc Tryz.prog w base (fun _ => true) held fuel 30 cs.toList = some (d, p) := by simpa [Value.cells] using hf
  obtain ⟨xs, m, -, -, hl, hxl, hfi⟩ := DataW.trod_struct Tryz.underlying30 hf
  rw [cTwo] at hl
  obtain ⟨v0, v1, v2, hL⟩ : ∃ v0 v1 v2, cs.toList = [v0, v1, v2] := by
    match cs.toList, hl with
    | [v0, v1, v2], _ => exact ⟨v0, v1, v2, rfl⟩
  have hcs : cs = #[v0, v1, v2] := by cases cs; simp at hL; rw [hL]
  have hxl : xs.length = 3 := hxl
  have g0 : DataW.trod enc Tryz.prog w base (fun _ => true) held m 28 ((cs.toList.drop 0).take (Tryz.prog.cellsOf 28)) = xs[0]? := hfi 0 _ rfl
  have g1 : DataW.trod enc Tryz.prog w base (fun _ => true) held m 28 ((cs.toList.drop 1).take (Tryz.prog.cellsOf 28)) = xs[1]? := hfi 1 _ rfl
  have g2 : DataW.trod enc Tryz.prog w base (fun _ => true) held m 4 ((cs.toList.drop 2).take (Tryz.prog.cellsOf 4)) = xs[2]? := hfi 2 _ rfl
  simp only [hL, cDeeds, cBool, List.drop_zero, List.drop_succ_cons, List.take_succ_cons, List.take_zero] at g0 g1 g2
  obtain ⟨A, n, ca, L, rfl, hn, hall, hrd⟩ := flats_at Tryz.underlying28 lvD cDd (by decide) g0 (some_of hxl (by decide))
  obtain ⟨B, k, cb, M, rfl, hk, hallM, hrdM⟩ := flats_at Tryz.underlying28 lvD cDd (by decide) g1 (some_of hxl (by decide))
  obtain ⟨sm, rfl⟩ := bool_of Tryz.underlying4 g2 (some_of hxl (by decide))
  obtain ⟨ds, h1, h2⟩ := deeds_of hn hall hrd
  obtain ⟨es, h3, h4⟩ := deeds_of hk hallM hrdM
  exact ⟨A, B, n, k, ca, cb, sm, ds, es, by rw [hcs], h1, h3, h2, h4⟩
end Go.Proofs.YtahagplegmcaaaaGreatDoor
