import Derived.Test.YtkikdpdainmlcaaGreatGNc
import Derived.Test.YtkikdpdainmlcaaGreatGY
set_option linter.unusedVariables false
set_option linter.unusedSimpArgs false
set_option linter.unnecessarySimpa false
namespace Go.Proofs.YtkikdpdainmlcaaGreat
open Go.RowKit Go.Xt
/-! Configurations: small words. -/
theorem chk_two (c : Cf) (cuts : List Nat) : chkC c cuts = 0 ∨ chkC c cuts = 2 := by unfold chkC; split <;> simp
theorem cf_thr {c : Cf} {cuts : List Nat} (h : chkC c cuts = 0) : 1 ≤ c.thr ∧ c.thr ≤ 64 := by
  have hb : cfgB c cuts = true := by
    cases hb : cfgB c cuts with
    | true => rfl
    | false => unfold chkC at h; rw [if_neg (by simp [hb])] at h; cases h
  exact (cfgB_iff.1 hb).2.1
theorem check_anyH (A : Option Addr) (n c : Nat) (l : List Cl) (w : World) (hn : n ≤ 1000) (hc : n ≤ c) (hcm : c ≤ 9223372036854775807) (hl : Cs w A n l) (hw : ∀ y ∈ l, WfC y) :
    Calls Tryz.prog 18 #[.slice A n c] w fun e w' => e = .returned (chkV l) ∧ Nw w w' := hcheck_any A n c l w hn hc hcm hl hw
end Go.Proofs.YtkikdpdainmlcaaGreat

