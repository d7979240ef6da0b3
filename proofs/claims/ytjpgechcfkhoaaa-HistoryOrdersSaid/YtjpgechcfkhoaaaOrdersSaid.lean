/- HistoryOrders: an order of different indices agrees with precedence exactly if it contains, before each of its calls, all calls that precede that call; for any calls and any order (the law itself cuts both at 40). No condition. -/
import Derived.Test.YtjpgechcfkhoaaaRows
import Derived.Test.YtjpgechcfkhoaaaLaw
import Derived.Test.YtjpgechcfkhoaaaFn
namespace Go.Proofs.Ytjpgechcfkhoaaa.historyOrdersSaid
open Go.ChangeShapes Go.WideShapes Go.ChangeAt Go.RowKit Go.Joins Go.Xt 
theorem own : ownKnob Try.prog.godebug = none := by kernel_rfl
theorem laidOut : laidOutB Try.prog = true := by kernel_rfl
theorem readable : (Try.f9.params.toList.all fun t => Try.prog.readableRec t && decide (t < Try.prog.types.size)) = true := by kernel_rfl
theorem lv1 : leaves Try.prog 9 47 = some [Leaf.int .i64, Leaf.int .i64, Leaf.int .u8, Leaf.int .u64, Leaf.int .u64, Leaf.int .u64, Leaf.int .u64, Leaf.int .u64, Leaf.int .u64, Leaf.int .i64, Leaf.int .i64, Leaf.int .i64, Leaf.int .i64, Leaf.int .i64, Leaf.bool, Leaf.int .u64, Leaf.int .u64, Leaf.int .i64] := by kernel_rfl
theorem lv1C : Try.prog.cellsOf 47 = 18 := by kernel_rfl
theorem lv2 : leaves Try.prog 9 3 = some [Leaf.int .i64] := by kernel_rfl
theorem lv2C : Try.prog.cellsOf 3 = 1 := by kernel_rfl
set_option maxRecDepth 100000 in
theorem lifted (os : Os) (started : os.Started) (H : Type) (enc : TypeId × Value → H) :
    ReturnsInHanded {} Try.checked os 9 .any (Rows.historyOrdersSpec.pre6 enc Try.prog Try.f9 Rows.historyOrdersRow.domain false) (Rows.historyOrdersSpec.post enc Try.prog Try.f9 false true false false) := by
  refine returnsInHanded_of_change (C := Try.checked) own started (by kernel_rfl) Try.func9
    (ChangeSpec.witness6 (enc := enc) (C := Try.checked) false ⟨#[], #[.slice none 0 0, .slice none 0 0], []⟩ 8 (by kernel_rfl) (by kernel_rfl) (by kernel_rfl) (by kernel_rfl)) ?_
  intro W base args ds gs before hval0 hW hcnd _
  have hval : ∀ (j : Nat) t v, Try.f9.params[j]? = some t → args[j]? = some v → Value.okWide Try.prog W .any base t v := hval0
  have hW' : DataW.Whole enc Try.prog Try.f9.params.toList Rows.historyOrdersSpec.vars false W args.toList ds gs before := hW
  obtain ⟨p, q, hA0, hV, hbe, hfz, hnd⟩ := hW
  have hA : DataW.TrodAll enc Try.prog W 0 (fun _ => true) true Try.f9.params.toList args.toList ds p := hA0
  rw [Try.params9] at hA hval
  obtain ⟨rfl, hq⟩ := trodVars_none hV
  obtain ⟨v0, vs0, d0, ds0, p0, q0, ha0, hd0, hp0, h0, r0⟩ := trodAll_cons hA
  obtain ⟨v1, vs1, d1, ds1, p1, q1, ha1, hd1, hp1, h1, r1⟩ := trodAll_cons r0
  obtain ⟨rfl, rfl, rfl⟩ := trodAll_nil r1
  subst ha1 hd1 hp1
  subst hd0 hp0
  obtain rfl : args = #[v0, v1] := by cases args; simp_all
  obtain ⟨A_x, n_x, c_x, L_x, rfl, hn_x, hc_x, hm_x, hz_x, hall_x, hrd_x⟩ := open_flats Try.underlying22 lv1 (lv1C) (by decide) (hval 0 _ _ rfl rfl) h0
  obtain ⟨A_o, n_o, c_o, L_o, rfl, hn_o, hc_o, hm_o, hz_o, hall_o, hrd_o⟩ := open_flats Try.underlying30 lv2 (lv2C) (by decide) (hval 1 _ _ rfl rfl) h1
  obtain ⟨l, hcs, hwf⟩ := calls_of hn_x hall_x hrd_x
  have hcx : c_x ≤ 9223372036854775807 := by unfold maxLen at hm_x; omega
  obtain ⟨o, hio, hwo⟩ := ints_of hn_o hall_o hrd_o
  have hco : c_o ≤ 9223372036854775807 := by unfold maxLen at hm_o; omega
  refine (horders_any A_x n_x c_x l A_o n_o c_o o W hc_x hcx hcs hwf hc_o hco hio hwo).mono fun e W' ⟨he, hg⟩ => ?_
  subst he
  exact ⟨_, rfl, law_post laidOut readable rfl Try.underlying4 rfl hW' rfl rfl rfl hg⟩
theorem proved : Rows.HistoryOrdersSaid :=
  OpenClaim.holds_of_wide 9 Try.f9 rfl rfl rfl rfl rfl rfl rfl ⟨rfl, rfl, rfl, rfl, rfl⟩ rfl rfl rfl rfl rfl (by kernel_rfl) Try.func9 (by kernel_rfl)
    (of_decide_eq_true (by kernel_rfl)) (by unfold Func.isWrapper; rw [if_neg (of_decide_eq_false (by kernel_rfl))]; exact ⟨rfl, rfl⟩)
    (fun os started H enc _ => lifted os started H enc)
#print axioms proved
end Go.Proofs.Ytjpgechcfkhoaaa.historyOrdersSaid
