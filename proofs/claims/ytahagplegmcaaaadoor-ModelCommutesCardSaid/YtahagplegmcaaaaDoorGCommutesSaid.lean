/- The law ModelCommutes: after any deeds of three threads (the law itself cuts at 80), whatever two operations of different threads that change neither the pairs nor the sessions: they have the same results in either order and lead to the same state. No condition. -/
import Derived.Test.YtahagplegmcaaaaDoorRows
import Derived.Test.YtahagplegmcaaaaDoorCards
import Derived.Test.YtahagplegmcaaaaDoorTie
import Derived.LaidMore
import Derived.SevenTiedAt
import Derived.MakeChecks
import Derived.Stop.Joined
import Derived.Test.YtahagplegmcaaaaDoorLaw
import Derived.Test.YtahagplegmcaaaaDoorGTd
import Derived.Test.YtahagplegmcaaaaDoorGQr
set_option linter.unusedVariables false
set_option linter.unusedSimpArgs false
set_option linter.unnecessarySimpa false
namespace Go.Proofs.YtahagplegmcaaaaDoor.modelCommutesSaid
open Go.ChangeShapes Go.WideShapes Go.ChangeAt Go.RowKit Go.Joins Go.Xt 
theorem own : ownKnob Tryd.prog.godebug = none := by kernel_rfl
theorem door_met (os : Os) (args : Array Value) : laidMetH Tryd.prog Rows.modelCommutesRow.laid ((World.doorLaid Tryd.prog 2000 os).forCall (fun _ _ => 0) ⟨#[], args, []⟩).memory :=
  laidMetH_of_parts3 (fuel := 8) (laidMet_of_run' 8 (by kernel_rfl) (by kernel_rfl)) (by kernel_rfl) (by kernel_rfl)
theorem gTab : Tryd.prog.globalNamed "internal/strconv.uint64pow10" = some 0 := by kernel_rfl
theorem tTab : (Tryd.prog.globals[0]?).map (·.type) = some 127 := by kernel_rfl
theorem dTab : (Rows.laid_internal_strconv_uint64pow10 : DataW Unit) = Lib.tabData .u64 Lib.pow10Tab := by kernel_rfl
theorem tab_of {W : World} (h : laidMetH Tryd.prog Rows.modelCommutesRow.laid W) : Lib.TabIs Tryd.prog W "internal/strconv.uint64pow10" .u64 Lib.pow10Tab := by
  rw [MakeChecks.laidMetH_plain _ _ _ (by kernel_rfl)] at h
  obtain ⟨ps, ⟨g0, t0, cs0, f0, p0, q0, hg0, ht0, hv0, hd0, ⟨g1, t1, cs1, f1, p1, q1, hg1, ht1, hv1, hd1, ⟨g2, t2, cs2, f2, p2, q2, hg2, ht2, hv2, hd2, _, _⟩, _⟩, _⟩, _⟩ := h
  obtain rfl := Option.some.inj (gTab.symm.trans hg2)
  obtain rfl := Option.some.inj (tTab.symm.trans ht2)
  rw [dTab] at hd2
  unfold Lib.TabIs
  rw [hv2, ← Lib.cells_of_tab Tryd.underlying127 Tryd.underlying23 (by kernel_rfl) (by kernel_rfl) hd2]
theorem laidOut : laidOutB Tryd.prog = true := by kernel_rfl
theorem readable : (Tryd.f3.params.toList.all fun t => Tryd.prog.readableRec t && decide (t < Tryd.prog.types.size)) = true := by kernel_rfl
theorem lv1 : leaves Tryd.prog 9 30 = some [Leaf.int .i64, Leaf.int .u8, Leaf.int .u64, Leaf.int .u64, Leaf.int .u64, Leaf.int .u64, Leaf.int .u64, Leaf.int .u64, Leaf.bool, Leaf.int .u8, Leaf.int .i64, Leaf.bool, Leaf.int .u64, Leaf.int .u64, Leaf.int .i64] := by kernel_rfl
theorem lv1C : Tryd.prog.cellsOf 30 = 15 := by kernel_rfl
set_option maxRecDepth 100000 in
theorem lifted (os : Os) (started : os.Started) (H : Type) (enc : TypeId × Value → H) :
    ReturnsInHanded {} Tryd.checked os 3 .any (fun w args => (Rows.modelCommutesSpec.pre enc Tryd.prog Tryd.f3 [] false w args ∧ laidMetH Tryd.prog Rows.modelCommutesRow.laid w) ∧ sizedMet enc Tryd.prog Tryd.f3 (OpenSpec.ofChange Rows.modelCommutesSpec) false w args) (Rows.modelCommutesSpec.post enc Tryd.prog Tryd.f3 false true false false) := by
  refine returnsInHanded_of_change_and (C := Tryd.checked) (X := fun w _ => laidMetH Tryd.prog Rows.modelCommutesRow.laid w) (fun _ _ _ hh h => h.of_heap hh) own started (by kernel_rfl) Tryd.func3
    (ChangeSpec.witness_shaped (enc := enc) (C := Tryd.checked) (os := os) (X := fun w _ => laidMetH Tryd.prog Rows.modelCommutesRow.laid w) false (World.doorLaid Tryd.prog 2000 os) #[.slice none 0 0, .agg #[.int .i64 0, .int .u8 0, .int .u64 0, .int .u64 0, .int .u64 0, .int .u64 0, .int .u64 0, .int .u64 0, .bool false, .int .u8 0, .int .i64 0, .bool false, .int .u64 0, .int .u64 0, .int .i64 0], .agg #[.int .i64 0, .int .u8 0, .int .u64 0, .int .u64 0, .int .u64 0, .int .u64 0, .int .u64 0, .int .u64 0, .bool false, .int .u8 0, .int .i64 0, .bool false, .int .u64 0, .int .u64 0, .int .i64 0]] 8 rfl (World.shaped_of_RefB (by kernel_rfl) (by kernel_rfl)) (by kernel_rfl) (by kernel_rfl) (by kernel_rfl) (door_met os _)) ?_
  intro W base args ds gs before hval0 hW _ _ hL _
  have hval : ∀ (j : Nat) t v, Tryd.f3.params[j]? = some t → args[j]? = some v → Value.okWide Tryd.prog W .any base t v := hval0
  have hW' : DataW.Whole enc Tryd.prog Tryd.f3.params.toList Rows.modelCommutesSpec.vars false W args.toList ds gs before := hW
  obtain ⟨p, q, hA0, hV, hbe, hfz, hnd⟩ := hW
  have hA : DataW.TrodAll enc Tryd.prog W 0 (fun _ => true) true Tryd.f3.params.toList args.toList ds p := hA0
  rw [Tryd.params3] at hA hval
  obtain ⟨rfl, hq⟩ := trodVars_none hV
  obtain ⟨v0, vs0, d0, ds0, p0, q0, ha0, hd0, hp0, h0, r0⟩ := trodAll_cons hA
  obtain ⟨v1, vs1, d1, ds1, p1, q1, ha1, hd1, hp1, h1, r1⟩ := trodAll_cons r0
  obtain ⟨v2, vs2, d2, ds2, p2, q2, ha2, hd2, hp2, h2, r2⟩ := trodAll_cons r1
  obtain ⟨rfl, rfl, rfl⟩ := trodAll_nil r2
  subst ha2 hd2 hp2
  subst ha1 hd1 hp1
  subst hd0 hp0
  obtain rfl : args = #[v0, v1, v2] := by cases args; simp_all
  obtain ⟨A_l, n_l, c_l, L_l, rfl, hn_l, hc_l, hm_l, hz_l, hall_l, hrd_l⟩ := open_flats Tryd.underlying22 lv1 (lv1C) (by decide) (hval 0 _ _ rfl rfl) h0
  obtain ⟨⟨l1⟩, rfl, hl1⟩ := open_flat Tryd.underlying30 lv1 (hval 1 _ _ rfl rfl) h1
  obtain ⟨_, l1_0, rfl, ⟨xt, rfl, w_xt⟩, hl1_0⟩ := All2.cons hl1
  have b_xt := WfI64 w_xt
  obtain ⟨_, l1_1, rfl, ⟨xk, rfl, w_xk⟩, hl1_1⟩ := All2.cons hl1_0
  have b_xk := WfU8 w_xk
  obtain ⟨_, l1_2, rfl, ⟨xa, rfl, w_xa⟩, hl1_2⟩ := All2.cons hl1_1
  have b_xa := WfU64 w_xa
  obtain ⟨_, l1_3, rfl, ⟨xb, rfl, w_xb⟩, hl1_3⟩ := All2.cons hl1_2
  have b_xb := WfU64 w_xb
  obtain ⟨_, l1_4, rfl, ⟨xc, rfl, w_xc⟩, hl1_4⟩ := All2.cons hl1_3
  have b_xc := WfU64 w_xc
  obtain ⟨_, l1_5, rfl, ⟨xd, rfl, w_xd⟩, hl1_5⟩ := All2.cons hl1_4
  have b_xd := WfU64 w_xd
  obtain ⟨_, l1_6, rfl, ⟨xe, rfl, w_xe⟩, hl1_6⟩ := All2.cons hl1_5
  have b_xe := WfU64 w_xe
  obtain ⟨_, l1_7, rfl, ⟨xf, rfl, w_xf⟩, hl1_7⟩ := All2.cons hl1_6
  have b_xf := WfU64 w_xf
  obtain ⟨_, l1_8, rfl, ⟨xj, rfl⟩, hl1_8⟩ := All2.cons hl1_7
  obtain ⟨_, l1_9, rfl, ⟨xy, rfl, w_xy⟩, hl1_9⟩ := All2.cons hl1_8
  have b_xy := WfU8 w_xy
  obtain ⟨_, l1_10, rfl, ⟨xr, rfl, w_xr⟩, hl1_10⟩ := All2.cons hl1_9
  have b_xr := WfI64 w_xr
  obtain ⟨_, l1_11, rfl, ⟨xu, rfl⟩, hl1_11⟩ := All2.cons hl1_10
  obtain ⟨_, l1_12, rfl, ⟨xv, rfl, w_xv⟩, hl1_12⟩ := All2.cons hl1_11
  have b_xv := WfU64 w_xv
  obtain ⟨_, l1_13, rfl, ⟨xz, rfl, w_xz⟩, hl1_13⟩ := All2.cons hl1_12
  have b_xz := WfU64 w_xz
  obtain ⟨_, l1_14, rfl, ⟨xn, rfl, w_xn⟩, hl1_14⟩ := All2.cons hl1_13
  have b_xn := WfI64 w_xn
  obtain rfl := All2.nil hl1_14
  obtain ⟨⟨l2⟩, rfl, hl2⟩ := open_flat Tryd.underlying30 lv1 (hval 2 _ _ rfl rfl) h2
  obtain ⟨_, l2_0, rfl, ⟨yt, rfl, w_yt⟩, hl2_0⟩ := All2.cons hl2
  have b_yt := WfI64 w_yt
  obtain ⟨_, l2_1, rfl, ⟨yk, rfl, w_yk⟩, hl2_1⟩ := All2.cons hl2_0
  have b_yk := WfU8 w_yk
  obtain ⟨_, l2_2, rfl, ⟨ya, rfl, w_ya⟩, hl2_2⟩ := All2.cons hl2_1
  have b_ya := WfU64 w_ya
  obtain ⟨_, l2_3, rfl, ⟨yb, rfl, w_yb⟩, hl2_3⟩ := All2.cons hl2_2
  have b_yb := WfU64 w_yb
  obtain ⟨_, l2_4, rfl, ⟨yc, rfl, w_yc⟩, hl2_4⟩ := All2.cons hl2_3
  have b_yc := WfU64 w_yc
  obtain ⟨_, l2_5, rfl, ⟨yd, rfl, w_yd⟩, hl2_5⟩ := All2.cons hl2_4
  have b_yd := WfU64 w_yd
  obtain ⟨_, l2_6, rfl, ⟨ye, rfl, w_ye⟩, hl2_6⟩ := All2.cons hl2_5
  have b_ye := WfU64 w_ye
  obtain ⟨_, l2_7, rfl, ⟨yf, rfl, w_yf⟩, hl2_7⟩ := All2.cons hl2_6
  have b_yf := WfU64 w_yf
  obtain ⟨_, l2_8, rfl, ⟨yj, rfl⟩, hl2_8⟩ := All2.cons hl2_7
  obtain ⟨_, l2_9, rfl, ⟨yy, rfl, w_yy⟩, hl2_9⟩ := All2.cons hl2_8
  have b_yy := WfU8 w_yy
  obtain ⟨_, l2_10, rfl, ⟨yr, rfl, w_yr⟩, hl2_10⟩ := All2.cons hl2_9
  have b_yr := WfI64 w_yr
  obtain ⟨_, l2_11, rfl, ⟨yu, rfl⟩, hl2_11⟩ := All2.cons hl2_10
  obtain ⟨_, l2_12, rfl, ⟨yv, rfl, w_yv⟩, hl2_12⟩ := All2.cons hl2_11
  have b_yv := WfU64 w_yv
  obtain ⟨_, l2_13, rfl, ⟨yz, rfl, w_yz⟩, hl2_13⟩ := All2.cons hl2_12
  have b_yz := WfU64 w_yz
  obtain ⟨_, l2_14, rfl, ⟨yn, rfl, w_yn⟩, hl2_14⟩ := All2.cons hl2_13
  have b_yn := WfI64 w_yn
  obtain rfl := All2.nil hl2_14
  obtain ⟨g, hg, hwf⟩ := deeds_of hn_l hall_l hrd_l
  refine (commutes_M A_l n_l c_l g ⟨xt, ⟨xk, xa, xb, xc, xd, xe, xf⟩, xj, xy, ⟨xr, xu, xv, xz, xn⟩⟩ ⟨yt, ⟨yk, ya, yb, yc, yd, ye, yf⟩, yj, yy, ⟨yr, yu, yv, yz, yn⟩⟩ W hg hwf ⟨b_xk, b_xa, b_xb, b_xc, b_xd, b_xe, b_xf⟩ ⟨b_yk, b_ya, b_yb, b_yc, b_yd, b_ye, b_yf⟩ (fmtAt W (tab_of hL))).mono fun e W' ⟨he, hg⟩ => ?_
  subst he
  exact ⟨_, rfl, law_post laidOut readable rfl Tryd.underlying4 rfl hW' rfl rfl rfl hg⟩
theorem row_holds : Rows.ModelCommutesSaid :=
  OpenClaim.holds_of_wide 3 Tryd.f3 rfl rfl rfl rfl rfl rfl rfl ⟨rfl, rfl, rfl, rfl, rfl⟩ rfl rfl rfl rfl rfl (by kernel_rfl) Tryd.func3 (by kernel_rfl)
    (of_decide_eq_true (by kernel_rfl)) (by unfold Func.isWrapper; rw [if_neg (of_decide_eq_false (by kernel_rfl))]; exact ⟨rfl, rfl⟩)
    (fun os started H enc _ => lifted os started H enc)
theorem proved : Rows.ModelCommutesCardSaid :=
  Claim7.holds_tied_plain_at .later [] [.data, .data, .data] true (true, "9220c8789c2d3680690976a8fe1fa1603de8d083025a192ddec51a4b7989e33e") false
    row_holds (fun _ h => by cases h) (by kernel_rfl) (fun _ h => by cases h) modelCommutes_row_tie rfl ⟨rfl, rfl⟩ (by kernel_rfl) rfl
    (fun f fn hf hfn => by
      obtain rfl : f = 3 := Option.some.inj ((show Tryd.prog.funcNamed "leapfrog/leapfroglaw38.ModelCommutes" = some 3 by kernel_rfl).symm.trans hf) |>.symm
      obtain rfl : fn = Tryd.f3 := (Option.some.inj (Tryd.func3.symm.trans hfn)).symm
      exact ⟨by kernel_rfl, fun j t ht => by
        have hm : t ∈ Tryd.f3.params.toList := by simpa using Array.mem_of_getElem? ht
        have hall : (Tryd.f3.params.toList.all fun u => !Tryd.prog.wantsStandIn u) = true := by kernel_rfl
        exact (show Tryd.prog.wantsStandIn t = false by simpa using List.all_eq_true.1 hall t hm)⟩)
    (by kernel_rfl)
#print axioms proved
end Go.Proofs.YtahagplegmcaaaaDoor.modelCommutesSaid
