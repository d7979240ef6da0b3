/- SpanSizes: the sizes of two ranges that touch add up to those of their hull and of what they have in common, for any two ranges. No condition. -/
import Derived.Test.YtdhinclpmmpkhaaRows
import Derived.Test.YtdhinclpmmpkhaaLaw
import Derived.Test.YtdhinclpmmpkhaaW
namespace Go.Proofs.Ytdhinclpmmpkhaa.spanSizesSaid
open Go.ChangeShapes Go.WideShapes Go.ChangeAt Go.RowKit Go.Joins Go.Xt 
theorem own : ownKnob Try.prog.godebug = none := by kernel_rfl
theorem laidOut : laidOutB Try.prog = true := by kernel_rfl
theorem readable : (Try.f9.params.toList.all fun t => Try.prog.readableRec t && decide (t < Try.prog.types.size)) = true := by kernel_rfl
theorem lv1 : leaves Try.prog 9 24 = some [Leaf.int .u64, Leaf.int .u64] := by kernel_rfl
theorem lv1C : Try.prog.cellsOf 24 = 2 := by kernel_rfl
set_option maxRecDepth 100000 in
theorem lifted (os : Os) (started : os.Started) (H : Type) (enc : TypeId × Value → H) :
    ReturnsInHanded {} Try.checked os 9 .any (Rows.spanSizesSpec.pre6 enc Try.prog Try.f9 Rows.spanSizesRow.domain false) (Rows.spanSizesSpec.post enc Try.prog Try.f9 false true false false) := by
  refine returnsInHanded_of_change (C := Try.checked) own started (by kernel_rfl) Try.func9
    (ChangeSpec.witness6 (enc := enc) (C := Try.checked) false ⟨#[], #[.agg #[.int .u64 0, .int .u64 0], .agg #[.int .u64 0, .int .u64 0]], []⟩ 8 (by kernel_rfl) (by kernel_rfl) (by kernel_rfl) (by kernel_rfl)) ?_
  intro W base args ds gs before hval0 hW hcnd _
  have hval : ∀ (j : Nat) t v, Try.f9.params[j]? = some t → args[j]? = some v → Value.okWide Try.prog W .any base t v := hval0
  have hW' : DataW.Whole enc Try.prog Try.f9.params.toList Rows.spanSizesSpec.vars false W args.toList ds gs before := hW
  obtain ⟨p, q, hA0, hV, hbe, hfz, hnd⟩ := hW
  have hA : DataW.TrodAll enc Try.prog W 0 (fun _ => true) true Try.f9.params.toList args.toList ds p := hA0
  rw [Try.params9] at hA hval
  obtain ⟨rfl, hq⟩ := trodVars_none hV
  obtain ⟨v0, vs0, d0, ds0, p0, q0, ha0, hd0, hp0, h0, r0⟩ := trodAll_cons hA
  obtain ⟨v1, vs1, d1, ds1, p1, q1, ha1, hd1, hp1, h1, r1⟩ := trodAll_cons r0
  obtain ⟨rfl, rfl, rfl⟩ := trodAll_nil r1
  subst ha1 hd1 hp1
  subst hd0 hp0
  obtain rfl : args = #[v0, v1] := by cases args; simp_all
  obtain ⟨⟨l0⟩, rfl, hl0⟩ := open_flat Try.underlying24 lv1 (hval 0 _ _ rfl rfl) h0
  obtain ⟨_, l0_0, rfl, ⟨s1, rfl, w_s1⟩, hl0_0⟩ := All2.cons hl0
  have b_s1 := WfU64 w_s1
  obtain ⟨_, l0_1, rfl, ⟨s2, rfl, w_s2⟩, hl0_1⟩ := All2.cons hl0_0
  have b_s2 := WfU64 w_s2
  obtain rfl := All2.nil hl0_1
  obtain ⟨⟨l1⟩, rfl, hl1⟩ := open_flat Try.underlying24 lv1 (hval 1 _ _ rfl rfl) h1
  obtain ⟨_, l1_0, rfl, ⟨t1, rfl, w_t1⟩, hl1_0⟩ := All2.cons hl1
  have b_t1 := WfU64 w_t1
  obtain ⟨_, l1_1, rfl, ⟨t2, rfl, w_t2⟩, hl1_1⟩ := All2.cons hl1_0
  have b_t2 := WfU64 w_t2
  obtain rfl := All2.nil hl1_1
  refine (sizes_any s1 s2 t1 t2 W b_s1.1 b_s2.1 (by omega) b_t1.1 b_t2.1 (by omega)).mono fun e W' ⟨he, hg⟩ => ?_
  subst he
  exact ⟨_, rfl, law_post laidOut readable rfl Try.underlying4 rfl hW' rfl rfl rfl hg⟩
theorem proved : Rows.SpanSizesSaid :=
  OpenClaim.holds_of_wide 9 Try.f9 rfl rfl rfl rfl rfl rfl rfl ⟨rfl, rfl, rfl, rfl, rfl⟩ rfl rfl rfl rfl rfl (by kernel_rfl) Try.func9 (by kernel_rfl)
    (of_decide_eq_true (by kernel_rfl)) (by unfold Func.isWrapper; rw [if_neg (of_decide_eq_false (by kernel_rfl))]; exact ⟨rfl, rfl⟩)
    (fun os started H enc _ => lifted os started H enc)
#print axioms proved
end Go.Proofs.Ytdhinclpmmpkhaa.spanSizesSaid
