/- The law PassageParts: whatever calls (the law itself cuts at 30): the calls of different iterators are different, and what they consist of. No condition. -/
import Derived.Test.YtkikdpdainmlcaaGreatRows
import Derived.Test.YtkikdpdainmlcaaGreatGLib
import Derived.Test.YtkikdpdainmlcaaGreatGYh
import Derived.Test.YtkikdpdainmlcaaGreatGOp
set_option linter.unusedVariables false
set_option linter.unusedSimpArgs false
set_option linter.unnecessarySimpa false
namespace Go.Proofs.YtkikdpdainmlcaaGreat.passagePartsSaid
open Go.ChangeShapes Go.WideShapes Go.ChangeAt Go.RowKit Go.Joins Go.Xt 
theorem own : ownKnob Tryz.prog.godebug = none := by kernel_rfl
theorem laidOut : laidOutB Tryz.prog = true := by kernel_rfl
theorem readable : (Tryz.f5.params.toList.all fun t => Tryz.prog.readableRec t && decide (t < Tryz.prog.types.size)) = true := by kernel_rfl
theorem lv1 : leaves Tryz.prog 9 45 = some [Leaf.int .i64, Leaf.int .i64, Leaf.int .u8, Leaf.int .u64, Leaf.int .u64, Leaf.int .u64, Leaf.int .u64, Leaf.int .u64, Leaf.int .u64, Leaf.int .i64, Leaf.int .i64, Leaf.int .i64, Leaf.int .i64, Leaf.int .i64, Leaf.bool, Leaf.int .u64, Leaf.int .u64, Leaf.int .i64] := by kernel_rfl
theorem lv1C : Tryz.prog.cellsOf 45 = 18 := by kernel_rfl
set_option maxRecDepth 100000 in
theorem lifted (os : Os) (started : os.Started) (H : Type) (enc : TypeId × Value → H) :
    ReturnsInHanded {} Tryz.checked os 5 .any (Rows.passagePartsSpec.pre6 enc Tryz.prog Tryz.f5 Rows.passagePartsRow.domain false) (Rows.passagePartsSpec.post enc Tryz.prog Tryz.f5 false true false false) := by
  refine returnsInHanded_of_change (C := Tryz.checked) own started (by kernel_rfl) Tryz.func5
    (ChangeSpec.witness6 (enc := enc) (C := Tryz.checked) false ⟨#[], #[.slice none 0 0], []⟩ 8 (by kernel_rfl) (by kernel_rfl) (by kernel_rfl) (by kernel_rfl)) ?_
  intro W base args ds gs before hval0 hW hcnd _
  have hval : ∀ (j : Nat) t v, Tryz.f5.params[j]? = some t → args[j]? = some v → Value.okWide Tryz.prog W .any base t v := hval0
  have hW' : DataW.Whole enc Tryz.prog Tryz.f5.params.toList Rows.passagePartsSpec.vars false W args.toList ds gs before := hW
  obtain ⟨p, q, hA0, hV, hbe, hfz, hnd⟩ := hW
  have hA : DataW.TrodAll enc Tryz.prog W 0 (fun _ => true) true Tryz.f5.params.toList args.toList ds p := hA0
  rw [Tryz.params5] at hA hval
  obtain ⟨rfl, hq⟩ := trodVars_none hV
  obtain ⟨v0, vs0, d0, ds0, p0, q0, ha0, hd0, hp0, h0, r0⟩ := trodAll_cons hA
  obtain ⟨rfl, rfl, rfl⟩ := trodAll_nil r0
  subst hd0 hp0
  obtain rfl : args = #[v0] := by cases args; simp_all
  obtain ⟨A_x, n_x, c_x, L_x, rfl, hn_x, hc_x, hm_x, hz_x, hall_x, hrd_x⟩ := open_flats Tryz.underlying28 lv1 (lv1C) (by decide) (hval 0 _ _ rfl rfl) h0
  obtain ⟨l, hcs, hwf⟩ := calls_of2 hn_x hall_x hrd_x
  have hcx : c_x ≤ 9223372036854775807 := by unfold maxLen at hm_x; omega
  refine (parts_M A_x n_x c_x l W hc_x hcx hcs hwf).mono fun e W' ⟨he, hg⟩ => ?_
  subst he
  exact ⟨_, rfl, law_post laidOut readable rfl Tryz.underlying4 rfl hW' rfl rfl rfl hg⟩
theorem proved : Rows.PassagePartsSaid :=
  OpenClaim.holds_of_wide 5 Tryz.f5 rfl rfl rfl rfl rfl rfl rfl ⟨rfl, rfl, rfl, rfl, rfl⟩ rfl rfl rfl rfl rfl (by kernel_rfl) Tryz.func5 (by kernel_rfl)
    (of_decide_eq_true (by kernel_rfl)) (by unfold Func.isWrapper; rw [if_neg (of_decide_eq_false (by kernel_rfl))]; exact ⟨rfl, rfl⟩)
    (fun os started H enc _ => lifted os started H enc)
#print axioms proved
end Go.Proofs.YtkikdpdainmlcaaGreat.passagePartsSaid
