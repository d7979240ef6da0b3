/- HistoryPrefixes: a prefix of a well-formed history is well formed, its effects are the first ones of the whole, and the prefix of a prefix is the one with the lesser step; for any calls (the law itself cuts at 40) and any two steps. No condition. -/
import Derived.Test.YtjpgechcfkhoaaaRows
import Derived.Test.YtjpgechcfkhoaaaLaw
import Derived.Test.YtjpgechcfkhoaaaFl
namespace Go.Proofs.Ytjpgechcfkhoaaa.historyPrefixesSaid
open Go.ChangeShapes Go.WideShapes Go.ChangeAt Go.RowKit Go.Joins Go.Xt 
theorem own : ownKnob Try.prog.godebug = none := by kernel_rfl
theorem laidOut : laidOutB Try.prog = true := by kernel_rfl
theorem readable : (Try.f7.params.toList.all fun t => Try.prog.readableRec t && decide (t < Try.prog.types.size)) = true := by kernel_rfl
theorem lv1 : leaves Try.prog 9 47 = some [Leaf.int .i64, Leaf.int .i64, Leaf.int .u8, Leaf.int .u64, Leaf.int .u64, Leaf.int .u64, Leaf.int .u64, Leaf.int .u64, Leaf.int .u64, Leaf.int .i64, Leaf.int .i64, Leaf.int .i64, Leaf.int .i64, Leaf.int .i64, Leaf.bool, Leaf.int .u64, Leaf.int .u64, Leaf.int .i64] := by kernel_rfl
theorem lv1C : Try.prog.cellsOf 47 = 18 := by kernel_rfl
set_option maxRecDepth 100000 in
theorem lifted (os : Os) (started : os.Started) (H : Type) (enc : TypeId × Value → H) :
    ReturnsInHanded {} Try.checked os 7 .any (Rows.historyPrefixesSpec.pre6 enc Try.prog Try.f7 Rows.historyPrefixesRow.domain false) (Rows.historyPrefixesSpec.post enc Try.prog Try.f7 false true false false) := by
  refine returnsInHanded_of_change (C := Try.checked) own started (by kernel_rfl) Try.func7
    (ChangeSpec.witness6 (enc := enc) (C := Try.checked) false ⟨#[], #[.slice none 0 0, .int .i64 0, .int .i64 0], []⟩ 8 (by kernel_rfl) (by kernel_rfl) (by kernel_rfl) (by kernel_rfl)) ?_
  intro W base args ds gs before hval0 hW hcnd _
  have hval : ∀ (j : Nat) t v, Try.f7.params[j]? = some t → args[j]? = some v → Value.okWide Try.prog W .any base t v := hval0
  have hW' : DataW.Whole enc Try.prog Try.f7.params.toList Rows.historyPrefixesSpec.vars false W args.toList ds gs before := hW
  obtain ⟨p, q, hA0, hV, hbe, hfz, hnd⟩ := hW
  have hA : DataW.TrodAll enc Try.prog W 0 (fun _ => true) true Try.f7.params.toList args.toList ds p := hA0
  rw [Try.params7] at hA hval
  obtain ⟨rfl, hq⟩ := trodVars_none hV
  obtain ⟨v0, vs0, d0, ds0, p0, q0, ha0, hd0, hp0, h0, r0⟩ := trodAll_cons hA
  obtain ⟨v1, vs1, d1, ds1, p1, q1, ha1, hd1, hp1, h1, r1⟩ := trodAll_cons r0
  obtain ⟨v2, vs2, d2, ds2, p2, q2, ha2, hd2, hp2, h2, r2⟩ := trodAll_cons r1
  obtain ⟨rfl, rfl, rfl⟩ := trodAll_nil r2
  subst ha2 hd2 hp2
  subst ha1 hd1 hp1
  subst hd0 hp0
  obtain rfl : args = #[v0, v1, v2] := by cases args; simp_all
  obtain ⟨A_x, n_x, c_x, L_x, rfl, hn_x, hc_x, hm_x, hz_x, hall_x, hrd_x⟩ := open_flats Try.underlying22 lv1 (lv1C) (by decide) (hval 0 _ _ rfl rfl) h0
  obtain ⟨s, rfl, -, -, w_s⟩ := open_int Try.underlying3 (hval 1 _ _ rfl rfl) h1
  have b_s := WfI64 w_s
  obtain ⟨t, rfl, -, -, w_t⟩ := open_int Try.underlying3 (hval 2 _ _ rfl rfl) h2
  have b_t := WfI64 w_t
  obtain ⟨l, hcs, hwf⟩ := calls_of hn_x hall_x hrd_x
  have hcx : c_x ≤ 9223372036854775807 := by unfold maxLen at hm_x; omega
  refine (hprefixes_any A_x n_x c_x l s t W hc_x hcx hcs hwf).mono fun e W' ⟨he, hg⟩ => ?_
  subst he
  exact ⟨_, rfl, law_post laidOut readable rfl Try.underlying4 rfl hW' rfl rfl rfl hg⟩
theorem proved : Rows.HistoryPrefixesSaid :=
  OpenClaim.holds_of_wide 7 Try.f7 rfl rfl rfl rfl rfl rfl rfl ⟨rfl, rfl, rfl, rfl, rfl⟩ rfl rfl rfl rfl rfl (by kernel_rfl) Try.func7 (by kernel_rfl)
    (of_decide_eq_true (by kernel_rfl)) (by unfold Func.isWrapper; rw [if_neg (of_decide_eq_false (by kernel_rfl))]; exact ⟨rfl, rfl⟩)
    (fun os started H enc _ => lifted os started H enc)
#print axioms proved
end Go.Proofs.Ytjpgechcfkhoaaa.historyPrefixesSaid
