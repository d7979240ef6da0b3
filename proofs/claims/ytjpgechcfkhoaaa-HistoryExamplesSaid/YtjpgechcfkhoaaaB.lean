import Derived.Test.YtjpgechcfkhoaaaA
namespace Go.Proofs.Ytjpgechcfkhoaaa
open Go.RowKit Go.Xt
/-- The numbers of a call are numbers of their types. -/
structure WfC (c : Cl) : Prop where
  th : -9223372036854775808 ≤ c.th ∧ c.th ≤ 9223372036854775807
  ix : -9223372036854775808 ≤ c.ix ∧ c.ix ≤ 9223372036854775807
  inv : -9223372036854775808 ≤ c.inv ∧ c.inv ≤ 9223372036854775807
  took : -9223372036854775808 ≤ c.took ∧ c.took ≤ 9223372036854775807
  ans : -9223372036854775808 ≤ c.ans ∧ c.ans ≤ 9223372036854775807
  st : -9223372036854775808 ≤ c.st ∧ c.st ≤ 9223372036854775807
def effF (c : Cl) : Bool := c.took == -1 || decide (c.inv ≤ c.took)
def rz (c : Cl) : Bool := c.re == 0 && (c.rf == false && (c.rk == 0 && (c.rv == 0 && c.rc == 0)))
def endF (c : Cl) : Bool :=
  if c.ans < 0 then c.ans == -1 && (c.st == 0 && rz c)
  else if c.took < 0 ∨ c.ans < c.took ∨ c.st < 1 ∨ c.ans - c.inv < c.st - 1 then false
  else c.ans == c.inv || decide (2 ≤ c.st)
set_option maxHeartbeats 1000000 in
theorem effect_any (p : Value) (c : Cl) (w : World) :
    Calls Try.prog 34 #[p, cv c] w fun e w' => e = .returned (.bool (effF c)) ∧ Nw w w' := by
  go_enter Try.func34, Try.ntmps34
  go_wp2
  all_goals (go_ret; refine ⟨ret_bool ?_, (by repeat (first | exact Xt.Nw.refl _ | refine Xt.Nw.drew ?_ | refine Xt.Nw.drewN ?_ _ | refine Xt.Nw.alloc ?_ _ | refine Xt.Nw.joined ?_ | refine Xt.Nw.drewd ?_ | refine Xt.Nw.drewdN ?_ | refine Xt.Nw.ext ?_ | refine Xt.Nw.ext_some ?_ (by assumption) | refine Xt.Nw.setCell ?_ (by simp [go_sem] <;> omega) _))⟩)
  all_goals (simp_all [effF])
set_option maxHeartbeats 2000000 in
theorem end_any (p : Value) (c : Cl) (w : World) (hw : WfC c) (hi : 0 ≤ c.inv) :
    Calls Try.prog 35 #[p, cv c] w fun e w' => e = .returned (.bool (endF c)) ∧ Nw w w' := by
  obtain ⟨_, _, ⟨i1, i2⟩, ⟨t1, t2⟩, ⟨a1, a2⟩, ⟨s1, s2⟩⟩ := hw
  go_enter Try.func35, Try.ntmps35
  go_wp2
  all_goals (go_ret; refine ⟨ret_bool ?_, (by repeat (first | exact Xt.Nw.refl _ | refine Xt.Nw.drew ?_ | refine Xt.Nw.drewN ?_ _ | refine Xt.Nw.alloc ?_ _ | refine Xt.Nw.joined ?_ | refine Xt.Nw.drewd ?_ | refine Xt.Nw.drewdN ?_ | refine Xt.Nw.ext ?_ | refine Xt.Nw.ext_some ?_ (by assumption) | refine Xt.Nw.setCell ?_ (by simp [go_sem] <;> omega) _))⟩)
  all_goals first
    | (have q : ¬ c.ans < 0 := by omega
       rw [endF, if_neg q]
       by_cases q2 : c.took < 0 ∨ c.ans < c.took ∨ c.st < 1 ∨ c.ans - c.inv < c.st - 1
       · rw [if_pos q2] <;> first | rfl | (exfalso; omega) | (simp; omega) | (exfalso; simp_all <;> omega)
       · rw [if_neg q2] <;> first | rfl | (exfalso; omega) | (simp_all; done) | (simp_all <;> omega) | (exfalso; simp_all <;> omega))
    | simp_all [endF, rz]
set_option maxHeartbeats 2000000 in
theorem answered_any (c : Cl) (w : World) (hw : WfC c) (hi : 0 ≤ c.inv) :
    Calls Try.prog 46 #[cv c] w fun e w' => e = .returned (.bool (endF c)) ∧ Nw w w' := by
  obtain ⟨_, _, ⟨i1, i2⟩, ⟨t1, t2⟩, ⟨a1, a2⟩, ⟨s1, s2⟩⟩ := hw
  go_enter Try.func46, Try.ntmps46
  go_wp2
  all_goals (go_ret; refine ⟨ret_bool ?_, (by repeat (first | exact Xt.Nw.refl _ | refine Xt.Nw.drew ?_ | refine Xt.Nw.drewN ?_ _ | refine Xt.Nw.alloc ?_ _ | refine Xt.Nw.joined ?_ | refine Xt.Nw.drewd ?_ | refine Xt.Nw.drewdN ?_ | refine Xt.Nw.ext ?_ | refine Xt.Nw.ext_some ?_ (by assumption) | refine Xt.Nw.setCell ?_ (by simp [go_sem] <;> omega) _))⟩)
  all_goals first
    | (have q : ¬ c.ans < 0 := by omega
       rw [endF, if_neg q]
       by_cases q2 : c.took < 0 ∨ c.ans < c.took ∨ c.st < 1 ∨ c.ans - c.inv < c.st - 1
       · rw [if_pos q2] <;> first | rfl | (exfalso; omega) | (simp; omega) | (exfalso; simp_all <;> omega)
       · rw [if_neg q2] <;> first | rfl | (exfalso; omega) | (simp_all; done) | (simp_all <;> omega) | (exfalso; simp_all <;> omega))
    | simp_all [endF, rz]
end Go.Proofs.Ytjpgechcfkhoaaa
