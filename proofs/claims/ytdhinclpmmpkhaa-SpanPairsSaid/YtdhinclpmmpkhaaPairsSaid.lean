/- SpanPairs: Overlap, Meet, Hull and Shift of the program return what the specification returns, for any two ranges and any number. No condition. -/
import Derived.Test.YtdhinclpmmpkhaaRows
import Derived.Test.YtdhinclpmmpkhaaLaw
import Derived.Test.YtdhinclpmmpkhaaPairs
namespace Go.Proofs.Ytdhinclpmmpkhaa.spanPairsSaid
open Go.ChangeShapes Go.WideShapes Go.ChangeAt Go.RowKit Go.Joins Go.Xt 
theorem own : ownKnob Try.prog.godebug = none := by kernel_rfl
theorem laidOut : laidOutB Try.prog = true := by kernel_rfl
theorem readable : (Try.f4.params.toList.all fun t => Try.prog.readableRec t && decide (t < Try.prog.types.size)) = true := by kernel_rfl
theorem lv1 : leaves Try.prog 9 24 = some [Leaf.int .u64, Leaf.int .u64] := by kernel_rfl
theorem lv1C : Try.prog.cellsOf 24 = 2 := by kernel_rfl
set_option maxRecDepth 100000 in
theorem lifted (os : Os) (started : os.Started) (H : Type) (enc : TypeId × Value → H) :
    ReturnsInHanded {} Try.checked os 4 .any (Rows.spanPairsSpec.pre6 enc Try.prog Try.f4 Rows.spanPairsRow.domain false) (Rows.spanPairsSpec.post enc Try.prog Try.f4 false true false false) := by
  refine returnsInHanded_of_change (C := Try.checked) own started (by kernel_rfl) Try.func4
    (ChangeSpec.witness6 (enc := enc) (C := Try.checked) false ⟨#[], #[.agg #[.int .u64 0, .int .u64 0], .agg #[.int .u64 0, .int .u64 0], .int .u64 0], []⟩ 8 (by kernel_rfl) (by kernel_rfl) (by kernel_rfl) (by kernel_rfl)) ?_
  intro W base args ds gs before hval0 hW hcnd _
  have hval : ∀ (j : Nat) t v, Try.f4.params[j]? = some t → args[j]? = some v → Value.okWide Try.prog W .any base t v := hval0
  have hW' : DataW.Whole enc Try.prog Try.f4.params.toList Rows.spanPairsSpec.vars false W args.toList ds gs before := hW
  obtain ⟨p, q, hA0, hV, hbe, hfz, hnd⟩ := hW
  have hA : DataW.TrodAll enc Try.prog W 0 (fun _ => true) true Try.f4.params.toList args.toList ds p := hA0
  rw [Try.params4] at hA hval
  obtain ⟨rfl, hq⟩ := trodVars_none hV
  obtain ⟨v0, vs0, d0, ds0, p0, q0, ha0, hd0, hp0, h0, r0⟩ := trodAll_cons hA
  obtain ⟨v1, vs1, d1, ds1, p1, q1, ha1, hd1, hp1, h1, r1⟩ := trodAll_cons r0
  obtain ⟨v2, vs2, d2, ds2, p2, q2, ha2, hd2, hp2, h2, r2⟩ := trodAll_cons r1
  obtain ⟨rfl, rfl, rfl⟩ := trodAll_nil r2
  subst ha2 hd2 hp2
  subst ha1 hd1 hp1
  subst hd0 hp0
  obtain rfl : args = #[v0, v1, v2] := by cases args; simp_all
  obtain ⟨⟨l0⟩, rfl, hl0⟩ := open_flat Try.underlying24 lv1 (hval 0 _ _ rfl rfl) h0
  obtain ⟨_, l0_0, rfl, ⟨a, rfl, w_a⟩, hl0_0⟩ := All2.cons hl0
  have b_a := WfU64 w_a
  obtain ⟨_, l0_1, rfl, ⟨b, rfl, w_b⟩, hl0_1⟩ := All2.cons hl0_0
  have b_b := WfU64 w_b
  obtain rfl := All2.nil hl0_1
  obtain ⟨⟨l1⟩, rfl, hl1⟩ := open_flat Try.underlying24 lv1 (hval 1 _ _ rfl rfl) h1
  obtain ⟨_, l1_0, rfl, ⟨c, rfl, w_c⟩, hl1_0⟩ := All2.cons hl1
  have b_c := WfU64 w_c
  obtain ⟨_, l1_1, rfl, ⟨d, rfl, w_d⟩, hl1_1⟩ := All2.cons hl1_0
  have b_d := WfU64 w_d
  obtain rfl := All2.nil hl1_1
  obtain ⟨n, rfl, -, -, w_n⟩ := open_int Try.underlying22 (hval 2 _ _ rfl rfl) h2
  have b_n := WfU64 w_n
  refine (pairs_walk a b c d n W b_a.1 b_b.1 (by omega) b_n.1).mono fun e W' ⟨he, hg⟩ => ?_
  subst he
  exact ⟨_, rfl, law_post laidOut readable rfl Try.underlying4 rfl hW' rfl rfl rfl hg⟩
theorem proved : Rows.SpanPairsSaid :=
  OpenClaim.holds_of_wide 4 Try.f4 rfl rfl rfl rfl rfl rfl rfl ⟨rfl, rfl, rfl, rfl, rfl⟩ rfl rfl rfl rfl rfl (by kernel_rfl) Try.func4 (by kernel_rfl)
    (of_decide_eq_true (by kernel_rfl)) (by unfold Func.isWrapper; rw [if_neg (of_decide_eq_false (by kernel_rfl))]; exact ⟨rfl, rfl⟩)
    (fun os started H enc _ => lifted os started H enc)
#print axioms proved
end Go.Proofs.Ytdhinclpmmpkhaa.spanPairsSaid
