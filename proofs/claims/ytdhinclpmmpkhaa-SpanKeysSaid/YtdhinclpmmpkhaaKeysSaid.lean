/- SpanKeys: Normalize returns ascending ranges with gaps between them that have exactly the keys of its arguments, whatever their order and repetition, and is idempotent; for any list (the law itself passes bad lists over) and any key. No condition. -/
import Derived.Test.YtdhinclpmmpkhaaRows
import Derived.Test.YtdhinclpmmpkhaaLaw
import Derived.Test.YtdhinclpmmpkhaaKeys
namespace Go.Proofs.Ytdhinclpmmpkhaa.spanKeysSaid
open Go.ChangeShapes Go.WideShapes Go.ChangeAt Go.RowKit Go.Joins Go.Xt 
theorem own : ownKnob Try.prog.godebug = none := by kernel_rfl
theorem laidOut : laidOutB Try.prog = true := by kernel_rfl
theorem readable : (Try.f6.params.toList.all fun t => Try.prog.readableRec t && decide (t < Try.prog.types.size)) = true := by kernel_rfl
theorem lv1 : leaves Try.prog 9 24 = some [Leaf.int .u64, Leaf.int .u64] := by kernel_rfl
theorem lv1C : Try.prog.cellsOf 24 = 2 := by kernel_rfl
set_option maxRecDepth 100000 in
theorem lifted (os : Os) (started : os.Started) (H : Type) (enc : TypeId × Value → H) :
    ReturnsInHanded {} Try.checked os 6 .any (Rows.spanKeysSpec.pre6 enc Try.prog Try.f6 Rows.spanKeysRow.domain false) (Rows.spanKeysSpec.post enc Try.prog Try.f6 false true false false) := by
  refine returnsInHanded_of_change (C := Try.checked) own started (by kernel_rfl) Try.func6
    (ChangeSpec.witness6 (enc := enc) (C := Try.checked) false ⟨#[], #[.slice none 0 0, .int .u64 0], []⟩ 8 (by kernel_rfl) (by kernel_rfl) (by kernel_rfl) (by kernel_rfl)) ?_
  intro W base args ds gs before hval0 hW hcnd _
  have hval : ∀ (j : Nat) t v, Try.f6.params[j]? = some t → args[j]? = some v → Value.okWide Try.prog W .any base t v := hval0
  have hW' : DataW.Whole enc Try.prog Try.f6.params.toList Rows.spanKeysSpec.vars false W args.toList ds gs before := hW
  obtain ⟨p, q, hA0, hV, hbe, hfz, hnd⟩ := hW
  have hA : DataW.TrodAll enc Try.prog W 0 (fun _ => true) true Try.f6.params.toList args.toList ds p := hA0
  rw [Try.params6] at hA hval
  obtain ⟨rfl, hq⟩ := trodVars_none hV
  obtain ⟨v0, vs0, d0, ds0, p0, q0, ha0, hd0, hp0, h0, r0⟩ := trodAll_cons hA
  obtain ⟨v1, vs1, d1, ds1, p1, q1, ha1, hd1, hp1, h1, r1⟩ := trodAll_cons r0
  obtain ⟨rfl, rfl, rfl⟩ := trodAll_nil r1
  subst ha1 hd1 hp1
  subst hd0 hp0
  obtain rfl : args = #[v0, v1] := by cases args; simp_all
  obtain ⟨A_x, n_x, c_x, L_x, rfl, hn_x, hc_x, hm_x, hz_x, hall_x, hrd_x⟩ := open_flats Try.underlying37 lv1 (lv1C) (by decide) (hval 0 _ _ rfl rfl) h0
  obtain ⟨key, rfl, -, -, w_key⟩ := open_int Try.underlying22 (hval 1 _ _ rfl rfl) h1
  have b_key := WfU64 w_key
  obtain ⟨l, hsp, hbd⟩ := spans_of hn_x hall_x hrd_x
  have hln : n_x ≤ 9223372036854775807 := by unfold maxLen at hm_x; omega
  refine (keys_any key A_x n_x c_x l W hz_x hln hsp hbd).mono fun e W' ⟨he, hg⟩ => ?_
  subst he
  exact ⟨_, rfl, law_post laidOut readable rfl Try.underlying4 rfl hW' rfl rfl rfl hg⟩
theorem proved : Rows.SpanKeysSaid :=
  OpenClaim.holds_of_wide 6 Try.f6 rfl rfl rfl rfl rfl rfl rfl ⟨rfl, rfl, rfl, rfl, rfl⟩ rfl rfl rfl rfl rfl (by kernel_rfl) Try.func6 (by kernel_rfl)
    (of_decide_eq_true (by kernel_rfl)) (by unfold Func.isWrapper; rw [if_neg (of_decide_eq_false (by kernel_rfl))]; exact ⟨rfl, rfl⟩)
    (fun os started H enc _ => lifted os started H enc)
#print axioms proved
end Go.Proofs.Ytdhinclpmmpkhaa.spanKeysSaid
