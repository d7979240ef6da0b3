/- ModelScans: after any deeds of three threads, an iterator of thread 0 returns, as long as nothing else is performed, exactly the pairs of its range from the key on to which it was moved, in ascending order, and then ErrEnd for ever, for any list of deeds, any range and any key (the law itself cuts at 80 deeds and at ranges that are valid). No condition. -/
import Derived.Test.YtdjcndpnjoahmaaRows
import Derived.Test.YtdjcndpnjoahmaaLaw
import Derived.Test.YtdjcndpnjoahmaaQq
import Derived.Test.YtdjcndpnjoahmaaQr
namespace Go.Proofs.Ytdjcndpnjoahmaa.modelScansSaid
open Go.ChangeShapes Go.WideShapes Go.ChangeAt Go.RowKit Go.Joins Go.Xt 
theorem own : ownKnob Try.prog.godebug = none := by kernel_rfl
theorem laidOut : laidOutB Try.prog = true := by kernel_rfl
theorem readable : (Try.f3.params.toList.all fun t => Try.prog.readableRec t && decide (t < Try.prog.types.size)) = true := by kernel_rfl
theorem lv1 : leaves Try.prog 9 54 = some [Leaf.int .i64, Leaf.int .u8, Leaf.int .u64, Leaf.int .u64, Leaf.int .u64, Leaf.int .u64, Leaf.int .u64, Leaf.int .u64, Leaf.bool, Leaf.int .u8, Leaf.int .i64, Leaf.bool, Leaf.int .u64, Leaf.int .u64, Leaf.int .i64] := by kernel_rfl
theorem lv1C : Try.prog.cellsOf 54 = 15 := by kernel_rfl
theorem lv2 : leaves Try.prog 9 25 = some [Leaf.int .u64, Leaf.int .u64] := by kernel_rfl
theorem lv2C : Try.prog.cellsOf 25 = 2 := by kernel_rfl
set_option maxRecDepth 100000 in
theorem lifted (os : Os) (started : os.Started) (H : Type) (enc : TypeId × Value → H) :
    ReturnsInHanded {} Try.checked os 3 .any (Rows.modelScansSpec.pre6 enc Try.prog Try.f3 Rows.modelScansRow.domain false) (Rows.modelScansSpec.post enc Try.prog Try.f3 false true false false) := by
  refine returnsInHanded_of_change (C := Try.checked) own started (by kernel_rfl) Try.func3
    (ChangeSpec.witness6 (enc := enc) (C := Try.checked) false ⟨#[], #[.slice none 0 0, .agg #[.int .u64 0, .int .u64 0], .int .u64 0], []⟩ 8 (by kernel_rfl) (by kernel_rfl) (by kernel_rfl) (by kernel_rfl)) ?_
  intro W base args ds gs before hval0 hW hcnd _
  have hval : ∀ (j : Nat) t v, Try.f3.params[j]? = some t → args[j]? = some v → Value.okWide Try.prog W .any base t v := hval0
  have hW' : DataW.Whole enc Try.prog Try.f3.params.toList Rows.modelScansSpec.vars false W args.toList ds gs before := hW
  obtain ⟨p, q, hA0, hV, hbe, hfz, hnd⟩ := hW
  have hA : DataW.TrodAll enc Try.prog W 0 (fun _ => true) true Try.f3.params.toList args.toList ds p := hA0
  rw [Try.params3] at hA hval
  obtain ⟨rfl, hq⟩ := trodVars_none hV
  obtain ⟨v0, vs0, d0, ds0, p0, q0, ha0, hd0, hp0, h0, r0⟩ := trodAll_cons hA
  obtain ⟨v1, vs1, d1, ds1, p1, q1, ha1, hd1, hp1, h1, r1⟩ := trodAll_cons r0
  obtain ⟨v2, vs2, d2, ds2, p2, q2, ha2, hd2, hp2, h2, r2⟩ := trodAll_cons r1
  obtain ⟨rfl, rfl, rfl⟩ := trodAll_nil r2
  subst ha2 hd2 hp2
  subst ha1 hd1 hp1
  subst hd0 hp0
  obtain rfl : args = #[v0, v1, v2] := by cases args; simp_all
  obtain ⟨A_x, n_x, c_x, L_x, rfl, hn_x, hc_x, hm_x, hz_x, hall_x, hrd_x⟩ := open_flats Try.underlying22 lv1 (lv1C) (by decide) (hval 0 _ _ rfl rfl) h0
  obtain ⟨⟨l1⟩, rfl, hl1⟩ := open_flat Try.underlying25 lv2 (hval 1 _ _ rfl rfl) h1
  obtain ⟨_, l1_0, rfl, ⟨lo, rfl, w_lo⟩, hl1_0⟩ := All2.cons hl1
  have b_lo := WfU64 w_lo
  obtain ⟨_, l1_1, rfl, ⟨hi, rfl, w_hi⟩, hl1_1⟩ := All2.cons hl1_0
  have b_hi := WfU64 w_hi
  obtain rfl := All2.nil hl1_1
  obtain ⟨k, rfl, -, -, w_k⟩ := open_int Try.underlying23 (hval 2 _ _ rfl rfl) h2
  have b_k := WfU64 w_k
  obtain ⟨g, hg, hwf⟩ := deeds_of hn_x hall_x hrd_x
  refine (scans_M A_x n_x c_x g lo hi k W hg hwf b_lo b_hi b_k).mono fun e W' ⟨he, hg⟩ => ?_
  subst he
  exact ⟨_, rfl, law_post laidOut readable rfl Try.underlying4 rfl hW' rfl rfl rfl hg⟩
theorem proved : Rows.ModelScansSaid :=
  OpenClaim.holds_of_wide 3 Try.f3 rfl rfl rfl rfl rfl rfl rfl ⟨rfl, rfl, rfl, rfl, rfl⟩ rfl rfl rfl rfl rfl (by kernel_rfl) Try.func3 (by kernel_rfl)
    (of_decide_eq_true (by kernel_rfl)) (by unfold Func.isWrapper; rw [if_neg (of_decide_eq_false (by kernel_rfl))]; exact ⟨rfl, rfl⟩)
    (fun os started H enc _ => lifted os started H enc)
#print axioms proved
end Go.Proofs.Ytdjcndpnjoahmaa.modelScansSaid
