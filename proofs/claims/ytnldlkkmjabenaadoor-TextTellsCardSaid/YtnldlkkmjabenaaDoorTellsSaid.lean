/- The law TextTells: whatever the two results, their lines are different exactly if the results are, and a line says whether there was an error. -/
import Derived.Test.YtnldlkkmjabenaaDoorRows
import Derived.Test.YtnldlkkmjabenaaDoorCards
import Derived.Test.YtnldlkkmjabenaaDoorTie
import Derived.Lay
import Derived.SevenTiedAt
import Derived.MakeChecks
import Derived.Stop.Joined
import Derived.Test.YtnldlkkmjabenaaDoorLaw
import Derived.Test.YtnldlkkmjabenaaDoorShape
import Derived.Test.YtnldlkkmjabenaaDoorTells
namespace Go.Proofs.YtnldlkkmjabenaaDoor.textTellsSaid
open Go.ChangeShapes Go.WideShapes Go.ChangeAt Go.RowKit Go.Joins Go.Xt 
theorem own : ownKnob Tryd.prog.godebug = none := by kernel_rfl
theorem door_met (os : Os) (args : Array Value) : laidMetH Tryd.prog Rows.textTellsRow.laid ((World.laidAll Tryd.prog os Rows.textTellsRow.laid).forCall (fun _ _ => 0) ⟨#[], args, []⟩).memory := by
  rw [MakeChecks.laidMetH_plain _ _ _ (by kernel_rfl)]; exact laidMet_laidAll _ (by kernel_rfl) (by kernel_rfl)
theorem laidOut : laidOutB Tryd.prog = true := by kernel_rfl
theorem readable : (Tryd.f5.params.toList.all fun t => Tryd.prog.readableRec t && decide (t < Tryd.prog.types.size)) = true := by kernel_rfl
theorem lv1 : leaves Tryd.prog 9 35 = some [Leaf.int .i64, Leaf.bool, Leaf.int .u64, Leaf.int .u64, Leaf.int .i64] := by kernel_rfl
theorem lv1C : Tryd.prog.cellsOf 35 = 5 := by kernel_rfl
set_option maxRecDepth 100000 in
theorem lifted (os : Os) (started : os.Started) (H : Type) (enc : TypeId × Value → H) :
    ReturnsInHanded {} Tryd.checked os 5 .any (fun w args => (Rows.textTellsSpec.pre enc Tryd.prog Tryd.f5 [] false w args ∧ laidMetH Tryd.prog Rows.textTellsRow.laid w) ∧ sizedMet enc Tryd.prog Tryd.f5 (OpenSpec.ofChange Rows.textTellsSpec) false w args) (Rows.textTellsSpec.post enc Tryd.prog Tryd.f5 false true false false) := by
  refine wrap_shaped (C := Tryd.checked) (X := fun w _ => laidMetH Tryd.prog Rows.textTellsRow.laid w) (fun _ _ _ hh h => h.of_heap hh) own started (by kernel_rfl) Tryd.func5
    (ChangeSpec.witness_shaped (enc := enc) (C := Tryd.checked) (os := os) (X := fun w _ => laidMetH Tryd.prog Rows.textTellsRow.laid w) false (World.laidAll Tryd.prog os Rows.textTellsRow.laid) #[.agg #[.int .i64 0, .bool false, .int .u64 0, .int .u64 0, .int .i64 0], .agg #[.int .i64 0, .bool false, .int .u64 0, .int .u64 0, .int .i64 0]] 8 (World.laidAll_os _ _ _) (World.shaped_of_ZipB (by kernel_rfl) (by kernel_rfl)) (by kernel_rfl) (by kernel_rfl) (by kernel_rfl) (door_met os _)) ?_
  intro W base args ds gs before hval0 hW hL hS
  obtain ⟨HF, HP⟩ := laid_facts hL
  have hval : ∀ (j : Nat) t v, Tryd.f5.params[j]? = some t → args[j]? = some v → Value.okWide Tryd.prog W .any base t v := hval0
  have hW' : DataW.Whole enc Tryd.prog Tryd.f5.params.toList Rows.textTellsSpec.vars false W args.toList ds gs before := hW
  obtain ⟨p, q, hA0, hV, hbe, hfz, hnd⟩ := hW
  have hA : DataW.TrodAll enc Tryd.prog W 0 (fun _ => true) true Tryd.f5.params.toList args.toList ds p := hA0
  rw [Tryd.params5] at hA hval
  obtain ⟨rfl, hq⟩ := trodVars_none hV
  obtain ⟨v0, vs0, d0, ds0, p0, q0, ha0, hd0, hp0, h0, r0⟩ := trodAll_cons hA
  obtain ⟨v1, vs1, d1, ds1, p1, q1, ha1, hd1, hp1, h1, r1⟩ := trodAll_cons r0
  obtain ⟨rfl, rfl, rfl⟩ := trodAll_nil r1
  subst ha1 hd1 hp1
  subst hd0 hp0
  obtain rfl : args = #[v0, v1] := by cases args; simp_all
  obtain ⟨⟨l0⟩, rfl, hl0⟩ := open_flat Tryd.underlying35 lv1 (hval 0 _ _ rfl rfl) h0
  obtain ⟨_, l0_0, rfl, ⟨e1, rfl, w_e1⟩, hl0_0⟩ := All2.cons hl0
  have b_e1 := WfI64 w_e1
  obtain ⟨_, l0_1, rfl, ⟨f1, rfl⟩, hl0_1⟩ := All2.cons hl0_0
  obtain ⟨_, l0_2, rfl, ⟨k1, rfl, w_k1⟩, hl0_2⟩ := All2.cons hl0_1
  have b_k1 := WfU64 w_k1
  obtain ⟨_, l0_3, rfl, ⟨v1, rfl, w_v1⟩, hl0_3⟩ := All2.cons hl0_2
  have b_v1 := WfU64 w_v1
  obtain ⟨_, l0_4, rfl, ⟨c1, rfl, w_c1⟩, hl0_4⟩ := All2.cons hl0_3
  have b_c1 := WfI64 w_c1
  obtain rfl := All2.nil hl0_4
  obtain ⟨⟨l1⟩, rfl, hl1⟩ := open_flat Tryd.underlying35 lv1 (hval 1 _ _ rfl rfl) h1
  obtain ⟨_, l1_0, rfl, ⟨e2, rfl, w_e2⟩, hl1_0⟩ := All2.cons hl1
  have b_e2 := WfI64 w_e2
  obtain ⟨_, l1_1, rfl, ⟨f2, rfl⟩, hl1_1⟩ := All2.cons hl1_0
  obtain ⟨_, l1_2, rfl, ⟨k2, rfl, w_k2⟩, hl1_2⟩ := All2.cons hl1_1
  have b_k2 := WfU64 w_k2
  obtain ⟨_, l1_3, rfl, ⟨v2, rfl, w_v2⟩, hl1_3⟩ := All2.cons hl1_2
  have b_v2 := WfU64 w_v2
  obtain ⟨_, l1_4, rfl, ⟨c2, rfl, w_c2⟩, hl1_4⟩ := All2.cons hl1_3
  have b_c2 := WfI64 w_c2
  obtain rfl := All2.nil hl1_4
  refine (tells_any ⟨e1, f1, k1, v1, c1⟩ ⟨e2, f2, k2, v2, c2⟩ W HF HP (split_at hS) ⟨b_k1, b_v1, b_c1.2⟩ ⟨b_k2, b_v2, b_c2.2⟩).mono fun e W' ⟨he, hg⟩ => ?_
  subst he
  exact ⟨_, rfl, law_post laidOut readable rfl Tryd.underlying4 rfl hW' rfl rfl rfl hg⟩
theorem row_holds : Rows.TextTellsSaid :=
  OpenClaim.holds_of_wide 5 Tryd.f5 rfl rfl rfl rfl rfl rfl rfl ⟨rfl, rfl, rfl, rfl, rfl⟩ rfl rfl rfl rfl rfl (by kernel_rfl) Tryd.func5 (by kernel_rfl)
    (of_decide_eq_true (by kernel_rfl)) (by unfold Func.isWrapper; rw [if_neg (of_decide_eq_false (by kernel_rfl))]; exact ⟨rfl, rfl⟩)
    (fun os started H enc _ => lifted os started H enc)
theorem proved : Rows.TextTellsCardSaid :=
  Claim7.holds_tied_plain_at .later [] [.data, .data, .data, .data, .sentinel, .sentinel, .pinned] true (true, "e774e45c05a58a68a58848937b94373301145d456c7a8731464289afab6fa682") true
    row_holds (fun _ h => by cases h) (by kernel_rfl) (fun _ h => by cases h) textTells_row_tie rfl ⟨rfl, rfl⟩ (by kernel_rfl) rfl
    (fun f fn hf hfn => by
      obtain rfl : f = 5 := Option.some.inj ((show Tryd.prog.funcNamed "leapfrog/leapfroglaw44.TextTells" = some 5 by kernel_rfl).symm.trans hf) |>.symm
      obtain rfl : fn = Tryd.f5 := (Option.some.inj (Tryd.func5.symm.trans hfn)).symm
      exact ⟨by kernel_rfl, fun j t ht => by
        have hm : t ∈ Tryd.f5.params.toList := by simpa using Array.mem_of_getElem? ht
        have hall : (Tryd.f5.params.toList.all fun u => !Tryd.prog.wantsStandIn u) = true := by kernel_rfl
        exact (show Tryd.prog.wantsStandIn t = false by simpa using List.all_eq_true.1 hall t hm)⟩)
    (by kernel_rfl)
#print axioms proved
end Go.Proofs.YtnldlkkmjabenaaDoor.textTellsSaid
