/- The law TextOps: whatever the operation and the string of at most 300 bytes, Op and ParseOp return what the specification returns. -/
import Derived.Test.YtnldlkkmjabenaaDoorRows
import Derived.Test.YtnldlkkmjabenaaDoorCards
import Derived.Test.YtnldlkkmjabenaaDoorTie
import Derived.Lay
import Derived.ChangeMaps5
import Derived.SevenTiedAt
import Derived.MakeChecks
import Derived.Stop.Joined
import Derived.Test.YtnldlkkmjabenaaDoorLaw
import Derived.Test.YtnldlkkmjabenaaDoorShape
import Derived.Test.YtnldlkkmjabenaaDoorOps
namespace Go.Proofs.YtnldlkkmjabenaaDoor.textOpsSaid
open Go.ChangeShapes Go.WideShapes Go.ChangeAt Go.RowKit Go.Joins Go.Xt 
theorem own : ownKnob Tryd.prog.godebug = none := by kernel_rfl
theorem door_met (os : Os) (args : Array Value) : laidMetH Tryd.prog Rows.textOpsRow.laid ((World.laidAll Tryd.prog os Rows.textOpsRow.laid).forCall (fun _ _ => 0) ⟨#[], args, []⟩).memory := by
  rw [MakeChecks.laidMetH_plain _ _ _ (by kernel_rfl)]; exact laidMet_laidAll _ (by kernel_rfl) (by kernel_rfl)
theorem laidOut : laidOutB Tryd.prog = true := by kernel_rfl
theorem readable : (Tryd.f3.params.toList.all fun t => Tryd.prog.readableRec t && decide (t < Tryd.prog.types.size)) = true := by kernel_rfl
theorem lv1 : leaves Tryd.prog 9 24 = some [Leaf.int .u8, Leaf.int .u64, Leaf.int .u64, Leaf.int .u64, Leaf.int .u64, Leaf.int .u64, Leaf.int .u64] := by kernel_rfl
theorem lv1C : Tryd.prog.cellsOf 24 = 7 := by kernel_rfl
set_option maxRecDepth 100000 in
theorem lifted (os : Os) (started : os.Started) (H : Type) (enc : TypeId × Value → H) :
    ReturnsInHanded {} Tryd.checked os 3 .any (fun w args => (Rows.textOpsSpec.pre enc Tryd.prog Tryd.f3 [] false w args ∧ laidMetH Tryd.prog Rows.textOpsRow.laid w) ∧ sizedMet enc Tryd.prog Tryd.f3 (OpenSpec.ofChange Rows.textOpsSpec) false w args) (Rows.textOpsSpec.post enc Tryd.prog Tryd.f3 false true false false) := by
  refine wrap_shaped (C := Tryd.checked) (X := fun w _ => laidMetH Tryd.prog Rows.textOpsRow.laid w) (fun _ _ _ hh h => h.of_heap hh) own started (by kernel_rfl) Tryd.func3
    (ChangeSpec.witness_shaped (enc := enc) (C := Tryd.checked) (os := os) (X := fun w _ => laidMetH Tryd.prog Rows.textOpsRow.laid w) false (World.laidAll Tryd.prog os Rows.textOpsRow.laid) #[.agg #[.int .u8 0, .int .u64 0, .int .u64 0, .int .u64 0, .int .u64 0, .int .u64 0, .int .u64 0], .string ByteArray.empty] 8 (World.laidAll_os _ _ _) (World.shaped_of_ZipB (by kernel_rfl) (by kernel_rfl)) (by kernel_rfl) (by kernel_rfl) (by kernel_rfl) (door_met os _)) ?_
  intro W base args ds gs before hval0 hW hL hS
  obtain ⟨HF, HP⟩ := laid_facts (show laidMetH Tryd.prog Rows.textTellsRow.laid W from hL)
  have hval : ∀ (j : Nat) t v, Tryd.f3.params[j]? = some t → args[j]? = some v → Value.okWide Tryd.prog W .any base t v := hval0
  have hW' : DataW.Whole enc Tryd.prog Tryd.f3.params.toList Rows.textOpsSpec.vars false W args.toList ds gs before := hW
  obtain ⟨p, q, hA0, hV, hbe, hfz, hnd⟩ := hW
  have hA : DataW.TrodAll enc Tryd.prog W 0 (fun _ => true) true Tryd.f3.params.toList args.toList ds p := hA0
  rw [Tryd.params3] at hA hval
  obtain ⟨rfl, hq⟩ := trodVars_none hV
  obtain ⟨v0, vs0, d0, ds0, p0, q0, ha0, hd0, hp0, h0, r0⟩ := trodAll_cons hA
  obtain ⟨v1, vs1, d1, ds1, p1, q1, ha1, hd1, hp1, h1, r1⟩ := trodAll_cons r0
  obtain ⟨rfl, rfl, rfl⟩ := trodAll_nil r1
  subst ha1 hd1 hp1
  subst hd0 hp0
  obtain rfl : args = #[v0, v1] := by cases args; simp_all
  obtain ⟨⟨l0⟩, rfl, hl0⟩ := open_flat Tryd.underlying24 lv1 (hval 0 _ _ rfl rfl) h0
  obtain ⟨_, l0_0, rfl, ⟨xk, rfl, w_xk⟩, hl0_0⟩ := All2.cons hl0
  have b_xk := WfU8 w_xk
  obtain ⟨_, l0_1, rfl, ⟨xy, rfl, w_xy⟩, hl0_1⟩ := All2.cons hl0_0
  have b_xy := WfU64 w_xy
  obtain ⟨_, l0_2, rfl, ⟨xh, rfl, w_xh⟩, hl0_2⟩ := All2.cons hl0_1
  have b_xh := WfU64 w_xh
  obtain ⟨_, l0_3, rfl, ⟨xv, rfl, w_xv⟩, hl0_3⟩ := All2.cons hl0_2
  have b_xv := WfU64 w_xv
  obtain ⟨_, l0_4, rfl, ⟨xo, rfl, w_xo⟩, hl0_4⟩ := All2.cons hl0_3
  have b_xo := WfU64 w_xo
  obtain ⟨_, l0_5, rfl, ⟨xt, rfl, w_xt⟩, hl0_5⟩ := All2.cons hl0_4
  have b_xt := WfU64 w_xt
  obtain ⟨_, l0_6, rfl, ⟨xr, rfl, w_xr⟩, hl0_6⟩ := All2.cons hl0_5
  have b_xr := WfU64 w_xr
  obtain rfl := All2.nil hl0_6
  obtain ⟨s, rfl, -, -, w_s⟩ := ChangeMaps.open_string Tryd.underlying9 (hval 1 _ _ rfl rfl) h1
  refine (ops_any ⟨xk, xy, xh, xv, xo, xt, xr⟩ s W HF HP (split_at hS) ⟨b_xk, b_xy, b_xh, b_xv, b_xo, b_xt, b_xr⟩).mono fun e W' ⟨he, hg⟩ => ?_
  subst he
  exact ⟨_, rfl, law_post laidOut readable rfl Tryd.underlying4 rfl hW' rfl rfl rfl hg⟩
theorem row_holds : Rows.TextOpsSaid :=
  OpenClaim.holds_of_wide 3 Tryd.f3 rfl rfl rfl rfl rfl rfl rfl ⟨rfl, rfl, rfl, rfl, rfl⟩ rfl rfl rfl rfl rfl (by kernel_rfl) Tryd.func3 (by kernel_rfl)
    (of_decide_eq_true (by kernel_rfl)) (by unfold Func.isWrapper; rw [if_neg (of_decide_eq_false (by kernel_rfl))]; exact ⟨rfl, rfl⟩)
    (fun os started H enc _ => lifted os started H enc)
theorem proved : Rows.TextOpsCardSaid :=
  Claim7.holds_tied_plain_at .later [] [.data, .data, .data, .data, .sentinel, .sentinel, .pinned] true (true, "e774e45c05a58a68a58848937b94373301145d456c7a8731464289afab6fa682") true
    row_holds (fun _ h => by cases h) (by kernel_rfl) (fun _ h => by cases h) textOps_row_tie rfl ⟨rfl, rfl⟩ (by kernel_rfl) rfl
    (fun f fn hf hfn => by
      obtain rfl : f = 3 := Option.some.inj ((show Tryd.prog.funcNamed "leapfrog/leapfroglaw44.TextOps" = some 3 by kernel_rfl).symm.trans hf) |>.symm
      obtain rfl : fn = Tryd.f3 := (Option.some.inj (Tryd.func3.symm.trans hfn)).symm
      exact ⟨by kernel_rfl, fun j t ht => by
        have hm : t ∈ Tryd.f3.params.toList := by simpa using Array.mem_of_getElem? ht
        have hall : (Tryd.f3.params.toList.all fun u => !Tryd.prog.wantsStandIn u) = true := by kernel_rfl
        exact (show Tryd.prog.wantsStandIn t = false by simpa using List.all_eq_true.1 hall t hm)⟩)
    (by kernel_rfl)
#print axioms proved
end Go.Proofs.YtnldlkkmjabenaaDoor.textOpsSaid
