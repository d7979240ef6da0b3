import Derived.Test.YtjpgechcfkhoaaaP
import Derived.Laws.StructEq
namespace Go.Proofs.Ytjpgechcfkhoaaa
open Go.RowKit Go.Xt
theorem eqOp (kd1 ka1 kb1 kc1 kx1 ky1 kz1 kd2 ka2 kb2 kc2 kx2 ky2 kz2 : Int) (d : Nat) (w : World) : (Op.equalIn (d + 1 + 1) 43 (.agg #[.int .u8 kd1, .int .u64 ka1, .int .u64 kb1, .int .u64 kc1, .int .u64 kx1, .int .u64 ky1, .int .u64 kz1]) (.agg #[.int .u8 kd2, .int .u64 ka2, .int .u64 kb2, .int .u64 kc2, .int .u64 kx2, .int .u64 ky2, .int .u64 kz2])).run Try.prog w = .ok (kd1 == kd2 && (ka1 == ka2 && (kb1 == kb2 && (kc1 == kc2 && (kx1 == kx2 && (ky1 == ky2 && (kz1 == kz2))))))) w := by
  have hS : Try.prog.underlying 43 = some (.struct (Try.prog.fieldsOf 43)) := by kernel_rfl
  have hp : Try.prog.stoodInHeld 43 = false := by kernel_rfl
  rw [run_equalIn_agg w (d + 1) 43 _ _ hS hp]
  simp only [Program.fieldsOf, Try.underlying43]
  go_simp
  (repeat' split) <;> simp_all
theorem eqRes (re1 rk1 rv1 rc1 re2 rk2 rv2 rc2 : Int) (rf1 rf2 : Bool) (d : Nat) (w : World) : (Op.equalIn (d + 1 + 1) 45 (.agg #[.int .i64 re1, .bool rf1, .int .u64 rk1, .int .u64 rv1, .int .i64 rc1]) (.agg #[.int .i64 re2, .bool rf2, .int .u64 rk2, .int .u64 rv2, .int .i64 rc2])).run Try.prog w = .ok (re1 == re2 && (rf1 == rf2 && (rk1 == rk2 && (rv1 == rv2 && (rc1 == rc2))))) w := by
  have hS : Try.prog.underlying 45 = some (.struct (Try.prog.fieldsOf 45)) := by kernel_rfl
  have hp : Try.prog.stoodInHeld 45 = false := by kernel_rfl
  rw [run_equalIn_agg w (d + 1) 45 _ _ hS hp]
  simp only [Program.fieldsOf, Try.underlying45]
  go_simp
  (repeat' split) <;> simp_all
theorem ite_ok0 (p : Prop) [Decidable p] (w : World) : (if p then Result.ok true w else Result.ok false w) = Result.ok (decide p) w := by split <;> simp_all
theorem ite_ok (p q : Prop) [Decidable p] [Decidable q] (w : World) : (if p then Result.ok (decide q) w else Result.ok false w) = Result.ok (decide (p ∧ q)) w := by split <;> simp_all
theorem cl_eq (a b : Cl) : (a = b) ↔ (a.th = b.th ∧ a.ix = b.ix ∧ a.kd = b.kd ∧ a.ka = b.ka ∧ a.kb = b.kb ∧ a.kc = b.kc ∧ a.kx = b.kx ∧ a.ky = b.ky ∧ a.kz = b.kz ∧ a.inv = b.inv ∧ a.took = b.took ∧ a.ans = b.ans ∧ a.st = b.st ∧ a.re = b.re ∧ a.rf = b.rf ∧ a.rk = b.rk ∧ a.rv = b.rv ∧ a.rc = b.rc) := by
  cases a; cases b; simp
set_option maxHeartbeats 1000000 in
@[go_sem high] theorem eqCall (a b : Cl) (w : World) : (Op.equalIn 10000 47 (cv a) (cv b)).run Try.prog w = .ok (decide (a = b)) w := by
  have hS : Try.prog.underlying 47 = some (.struct (Try.prog.fieldsOf 47)) := by kernel_rfl
  have hp : Try.prog.stoodInHeld 47 = false := by kernel_rfl
  rw [show (10000 : Nat) = 9999 + 1 from rfl, run_equalIn_agg w 9999 47 _ _ hS hp]
  simp only [Program.fieldsOf, Try.underlying47]
  go_simp
  have hd : decide (a = b) = decide (a.th = b.th ∧ a.ix = b.ix ∧ a.kd = b.kd ∧ a.ka = b.ka ∧ a.kb = b.kb ∧ a.kc = b.kc ∧ a.kx = b.kx ∧ a.ky = b.ky ∧ a.kz = b.kz ∧ a.inv = b.inv ∧ a.took = b.took ∧ a.ans = b.ans ∧ a.st = b.st ∧ a.re = b.re ∧ a.rf = b.rf ∧ a.rk = b.rk ∧ a.rv = b.rv ∧ a.rc = b.rc) := by simp only [cl_eq]
  rw [hd]
  simp only [ite_ok0, ite_ok]
end Go.Proofs.Ytjpgechcfkhoaaa
