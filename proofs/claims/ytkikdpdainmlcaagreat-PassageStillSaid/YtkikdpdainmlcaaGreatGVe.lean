import Derived.Test.YtkikdpdainmlcaaGreatGOp
import Derived.Test.YtkikdpdainmlcaaGreatGQb
import Derived.Test.YtkikdpdainmlcaaGreatGQj
set_option linter.unusedVariables false
set_option linter.unusedSimpArgs false
set_option linter.unnecessarySimpa false
namespace Go.Proofs.YtkikdpdainmlcaaGreat
open Go.RowKit Go.Xt
/-! The reference's map: Move, Copy, Range, Next; Same. -/
theorem own_slice {w : World} {base : Nat} {e : TypeId} {size : Nat} {v : Value} {n : Nat} {xs : List Value} (h : w.ownsRow base e size v n xs) : ∃ A c, v = .slice A n c := by
  rcases own_forms h with ⟨h1, h2⟩ | ⟨g, c, h1, _⟩
  · exact ⟨none, 0, by rw [h1, h2]⟩
  · exact ⟨_, c, h1⟩
def RangeP (w : World) (base : Nat) (l : List (Int × Int)) (e : Ending) (w' : World) : Prop :=
  ∃ A c, e = .returned (.tuple #[.slice A l.length c, .int .i64 0]) ∧ w'.ownsRow base 51 2 (.slice A l.length c) l.length (pcells l) ∧ Nw w w'
end Go.Proofs.YtkikdpdainmlcaaGreat
namespace Go.Proofs.YtkikdpdainmlcaaGreat
open Go.RowKit Go.Xt
/-! The reference's map: Next; Same. -/
set_option maxRecDepth 20000 in
@[go_sem high] theorem rneqPair (a b c d : Int) (w : World) : (Op.equalIn 10000 51 (.agg #[.int .u64 a, .int .u64 b]) (.agg #[.int .u64 c, .int .u64 d])).run Tryz.prog w = .ok (decide (a = c) && decide (b = d)) w := by
  have hS : Tryz.prog.underlying 51 = some (.struct (Tryz.prog.fieldsOf 51)) := by kernel_rfl
  have hp : Tryz.prog.stoodInHeld 51 = false := by kernel_rfl
  rw [show (10000 : Nat) = 9999 + 1 from rfl, run_equalIn_agg w 9999 51 _ _ hS hp]
  simp only [Program.fieldsOf, Tryz.underlying51]
  go_simp
  simp only [ite_ok0, ite_ok]
  simp only [Bool.decide_and]
end Go.Proofs.YtkikdpdainmlcaaGreat
namespace Go.Proofs.YtkikdpdainmlcaaGreat
open Go.RowKit Go.Xt
/-! The reference's model: Uses, Fields, Mask, Formed. -/
abbrev ovx (x : Ox) : Value := .agg #[.int .u8 x.k, .int .u64 x.key, .int .u64 x.hi, .int .u64 x.val, .int .u64 x.old, .int .u64 x.by_, .int .u64 x.draw]
def usesI (k : Int) : Int := if k = 3 then 1 else if k = 4 then 37 else if k = 5 then 37 else if k = 6 then 1 else if k = 7 then 13 else if k = 8 then 51 else if k = 9 then 3 else if k = 11 then 3 else if k = 13 then 1 else 0
def fin (x : Ox) : List Nat := [x.key.toNat, x.hi.toNat, x.val.toNat, x.old.toNat, x.by_.toNat, x.draw.toNat]
def nums (l : List Nat) : List Value := l.map fun (n : Nat) => Value.int .u64 (n : Int)
def SlE (m : Nat) (xs : List Value) (e : Ending) (W : World) : Prop := ∃ A n c, e = .returned (.slice A n c) ∧ Rd W 1 A n xs ∧ n ≤ m
def msk : Nat → List Nat → Nat
  | _, [] => 0
  | i, a :: r => (if a = 0 then 0 else 2 ^ i) + msk (i + 1) r
def mskB : Nat → List Bool → Nat
  | _, [] => 0
  | i, b :: r => (if b then 2 ^ i else 0) + mskB (i + 1) r
end Go.Proofs.YtkikdpdainmlcaaGreat
namespace Go.Proofs.YtkikdpdainmlcaaGreat
open Go.RowKit Go.Xt
structure Cf where
  thr : Int
  sl : Int
  eng : Int
  bk : Int
  dk : Int
  dn : Int
  cA : Option Addr
  cn : Nat
  cc : Nat
  t1 : Int
  t2 : Int
  t3 : Int
  t4 : Int
  t5 : Int
  t6 : Int
  lk : Int
  tr : Int
  ba : Int
def ccells (c : Cf) : List Value := [.int .i64 c.thr, .int .i64 c.sl, .int .u8 c.eng, .int .i64 c.bk, .int .u8 c.dk, .int .i64 c.dn, .slice c.cA c.cn c.cc, .int .i64 c.t1, .int .i64 c.t2, .int .i64 c.t3, .int .i64 c.t4, .int .i64 c.t5, .int .i64 c.t6, .int .i64 c.lk, .int .i64 c.tr, .int .i64 c.ba]
def confV (c : Cf) : Value := .agg #[.int .i64 c.thr, .int .i64 c.sl, .int .u8 c.eng, .int .i64 c.bk, .int .u8 c.dk, .int .i64 c.dn, .slice c.cA c.cn c.cc, .int .i64 c.t1, .int .i64 c.t2, .int .i64 c.t3, .int .i64 c.t4, .int .i64 c.t5, .int .i64 c.t6, .int .i64 c.lk, .int .i64 c.tr, .int .i64 c.ba]
end Go.Proofs.YtkikdpdainmlcaaGreat
namespace Go.Proofs.YtkikdpdainmlcaaGreat
open Go.RowKit Go.Xt
/-! Key domains: domain.Check and its reference. -/
def ascB : Nat → List Nat → Bool
  | _, [] => true
  | p, x :: r => if x ≤ p then false else ascB x r
def prevN (l : List Nat) (k : Nat) : Nat := if k = 0 then 0 else l.getD (k - 1) 0
theorem ascB_step {p x : Nat} {l : List Nat} {k : Nat} (hx : l[k]? = some x) : ascB p (l.drop k) = if x ≤ p then false else ascB x (l.drop (k + 1)) := by
  obtain ⟨p1, q1⟩ := List.getElem?_eq_some_iff.1 hx
  rw [List.drop_eq_getElem_cons p1, q1, ascB]
def domB (k n : Int) (l : List Nat) : Bool :=
  if k = 1 then decide (n = 0) && decide (l.length = 0) else
  if k = 2 then decide (1 ≤ n) && decide (n ≤ 64) && decide (l.length = 0) else
  if k = 3 then decide (n = 0) && decide (1 ≤ l.length) && decide (l.length < 64) && ascB 0 l else false
def chkD (k n : Int) (l : List Nat) : Int := if domB k n l then 0 else 2
def domV (k n : Int) (A : Option Addr) (m c : Nat) : Value := .agg #[.int .u8 k, .int .i64 n, .slice A m c]
theorem nums_at {l : List Nat} {k x : Nat} (h : l[k]? = some x) : (nums l)[k]? = some (.int .u64 (x : Int)) := by simp [nums, h]
set_option maxRecDepth 20000 in
set_option maxHeartbeats 4000000 in
theorem asc_any (w : World) (A : Option Addr) (c : Nat) (l : List Nat) (h : Rd w 1 A l.length (nums l)) (hb : l.length < 64) :
    Calls Tryz.prog 114 #[.slice A l.length c] w fun e w' => e = .returned (.bool (ascB 0 l)) ∧ Nw w w' := by
  obtain ⟨n, hn⟩ : ∃ n, n = l.length := ⟨_, rfl⟩
  rw [← hn] at h hb ⊢
  have HNL := Lib.hid hn
  have HR := Lib.hid h
  clear h hn
  go_enter Tryz.func114, Tryz.ntmps114
  go_wp2
  go_loopw [3, 5, 8] (fun p _ i wr => ∃ (k m : Nat), k ≤ n ∧ p = .int .u64 (m : Int) ∧ i = .int .i64 k ∧ Hid (ascB 0 l = ascB m (l.drop k)) ∧ Nw w wr) (fun _ _ i _ => n - (intOf i).toNat)
  case atStart => exact ⟨0, 0, by omega, rfl, rfl, rfl, Nw.refl _⟩
  case round =>
    obtain ⟨k, m, hk, rfl, rfl, hm, hwr⟩ := hrel
    by_cases hlt : k < n
    · obtain ⟨g, o, rfl, hg, hc⟩ := (HR.out.nw hwr).2 (by omega)
      obtain ⟨x, hx⟩ : ∃ x, l[k]? = some x := ⟨_, List.getElem?_eq_getElem (by have := HNL.out; omega)⟩
      have hcx : wr.cell? ⟨g, o + k, none⟩ = some (.int .u64 (x : Int)) := hc k _ (nums_at hx)
      have hnx : ascB 0 l = if x ≤ m then false else ascB x (l.drop (k + 1)) := by rw [hm.out, ascB_step hx]
      have HX := Lib.hid hnx
      have HWR := Lib.hid hwr
      haveI : In g wr := ⟨hg⟩
      have k1 : (k : Int) < (n : Int) := by omega
      have k0 : (0 : Int) ≤ (k : Int) := by omega
      clear hc hx hnx hwr hm
      by_cases hle : x ≤ m
      · have d1 : ((x : Int) ≤ (m : Int)) := by omega
        go_wp2
        go_ret
        exact ⟨by rw [HX.out, if_pos hle]; rfl, HWR.out⟩
      · have d1 : ¬ ((x : Int) ≤ (m : Int)) := by omega
        go_wp2
        exact ⟨⟨k + 1, x, by omega, rfl, by go_num, (by rw [HX.out, if_neg hle] : ascB 0 l = _), HWR.out⟩, by simp [intOf]; omega⟩
    · have k1 : ¬ (k : Int) < (n : Int) := by omega
      go_wp2
      go_ret
      exact ⟨by rw [hm.out, List.drop_eq_nil_of_le (by have := HNL.out; omega)]; rfl, hwr⟩
set_option maxRecDepth 20000 in
set_option maxHeartbeats 8000000 in
theorem dcheck_any (w : World) (k n : Int) (A : Option Addr) (l : List Nat) (c : Nat) (h : Rd w 1 A l.length (nums l)) :
    Calls Tryz.prog 99 #[domV k n A l.length c] w fun e w' => e = .returned (.int .i64 (chkD k n l)) ∧ Nw w w' := by
  have HA := Lib.hid (fun W (q : Nw w W) (hb : l.length < 64) => asc_any W A c l (h.nw q) hb)
  have hc : chkD k n l = if domB k n l then 0 else 2 := rfl
  obtain ⟨m, hm⟩ : ∃ m, m = l.length := ⟨_, rfl⟩
  unfold domB at hc
  rw [← hm] at HA hc ⊢
  clear h hm
  unfold domV
  by_cases k1 : k = 1
  · subst k1
    by_cases hn : n = 0
    · subst hn
      by_cases hm0 : m = 0
      · subst hm0
        have HC := Lib.hid (show chkD _ _ l = 0 by rw [hc]; first | (simp_all; done) | (simp_all; omega) | (simp_all; intros; omega))
        clear hc
        go_enter Tryz.func99, Tryz.ntmps99
        go_wp2_with (go_at_call 114; refine (HA.out _ (nwa) (by omega)).mono ?_; rintro e w' ⟨rfl, dW, rfl⟩)
        go_ret
        exact ⟨by rw [HC.out]; rfl, nwa⟩
      · have g1 : ((m : Int) == 0) = false := by simpa using hm0
        have HC := Lib.hid (show chkD _ _ l = 2 by rw [hc]; first | (simp_all; done) | (simp_all; omega) | (simp_all; intros; omega))
        clear hc
        go_enter Tryz.func99, Tryz.ntmps99
        go_wp2_with (go_at_call 114; refine (HA.out _ (nwa) (by omega)).mono ?_; rintro e w' ⟨rfl, dW, rfl⟩)
        go_ret
        exact ⟨by rw [HC.out]; rfl, nwa⟩
    · have g1 : (n == 0) = false := by simpa using hn
      have HC := Lib.hid (show chkD _ _ l = 2 by rw [hc]; first | (simp_all; done) | (simp_all; omega) | (simp_all; intros; omega))
      clear hc
      go_enter Tryz.func99, Tryz.ntmps99
      go_wp2_with (go_at_call 114; refine (HA.out _ (nwa) (by omega)).mono ?_; rintro e w' ⟨rfl, dW, rfl⟩)
      go_ret
      exact ⟨by rw [HC.out]; rfl, nwa⟩
  by_cases k2 : k = 2
  · subst k2
    by_cases hn : 1 ≤ n
    · have d1 : decide (1 ≤ n) = true := by simpa using hn
      by_cases h64 : n ≤ 64
      · have d2 : decide (n ≤ 64) = true := by simpa using h64
        by_cases hm0 : m = 0
        · subst hm0
          have HC := Lib.hid (show chkD _ _ l = 0 by rw [hc]; first | (simp_all; done) | (simp_all; omega) | (simp_all; intros; omega))
          clear hc
          go_enter Tryz.func99, Tryz.ntmps99
          go_wp2_with (go_at_call 114; refine (HA.out _ (nwa) (by omega)).mono ?_; rintro e w' ⟨rfl, dW, rfl⟩)
          go_ret
          exact ⟨by rw [HC.out]; rfl, nwa⟩
        · have g1 : ((m : Int) == 0) = false := by simpa using hm0
          have HC := Lib.hid (show chkD _ _ l = 2 by rw [hc]; first | (simp_all; done) | (simp_all; omega) | (simp_all; intros; omega))
          clear hc
          go_enter Tryz.func99, Tryz.ntmps99
          go_wp2_with (go_at_call 114; refine (HA.out _ (nwa) (by omega)).mono ?_; rintro e w' ⟨rfl, dW, rfl⟩)
          go_ret
          exact ⟨by rw [HC.out]; rfl, nwa⟩
      · have d2 : decide (n ≤ 64) = false := by simpa using h64
        have HC := Lib.hid (show chkD _ _ l = 2 by rw [hc]; first | (simp_all; done) | (simp_all; omega) | (simp_all; intros; omega))
        clear hc
        go_enter Tryz.func99, Tryz.ntmps99
        go_wp2_with (go_at_call 114; refine (HA.out _ (nwa) (by omega)).mono ?_; rintro e w' ⟨rfl, dW, rfl⟩)
        go_ret
        exact ⟨by rw [HC.out]; rfl, nwa⟩
    · have d1 : decide (1 ≤ n) = false := by simpa using hn
      have HC := Lib.hid (show chkD _ _ l = 2 by rw [hc]; first | (simp_all; done) | (simp_all; omega) | (simp_all; intros; omega))
      clear hc
      go_enter Tryz.func99, Tryz.ntmps99
      go_wp2_with (go_at_call 114; refine (HA.out _ (nwa) (by omega)).mono ?_; rintro e w' ⟨rfl, dW, rfl⟩)
      go_ret
      exact ⟨by rw [HC.out]; rfl, nwa⟩
  by_cases k3 : k = 3
  · subst k3
    by_cases hn : n = 0
    · subst hn
      by_cases hm1 : 1 ≤ m
      · have e1 : (1 : Int) ≤ (m : Int) := by omega
        have d1 : decide ((1 : Int) ≤ (m : Int)) = true := by simpa using e1
        by_cases hm6 : m < 64
        · have e2 : (m : Int) < 64 := by omega
          have d2 : decide ((m : Int) < 64) = true := by simpa using e2
          cases ha : ascB 0 l with
          | true =>
            rw [ha] at HA
            have HC := Lib.hid (show chkD _ _ l = 0 by rw [hc]; first | (simp_all; done) | (simp_all; omega) | (simp_all; intros; omega))
            clear hc
            go_enter Tryz.func99, Tryz.ntmps99
            go_wp2_with (go_at_call 114; refine (HA.out _ (nwa) (by omega)).mono ?_; rintro e w' ⟨rfl, dW, rfl⟩)
            go_ret
            exact ⟨by rw [HC.out]; rfl, nwa⟩
          | false =>
            rw [ha] at HA
            have HC := Lib.hid (show chkD _ _ l = 2 by rw [hc]; first | (simp_all; done) | (simp_all; omega) | (simp_all; intros; omega))
            clear hc
            go_enter Tryz.func99, Tryz.ntmps99
            go_wp2_with (go_at_call 114; refine (HA.out _ (nwa) (by omega)).mono ?_; rintro e w' ⟨rfl, dW, rfl⟩)
            go_ret
            exact ⟨by rw [HC.out]; rfl, nwa⟩
        · have e2 : ¬ (m : Int) < 64 := by omega
          have d2 : decide ((m : Int) < 64) = false := by simpa using e2
          have HC := Lib.hid (show chkD _ _ l = 2 by rw [hc]; first | (simp_all; done) | (simp_all; omega) | (simp_all; intros; omega))
          clear hc
          go_enter Tryz.func99, Tryz.ntmps99
          go_wp2_with (go_at_call 114; refine (HA.out _ (nwa) (by omega)).mono ?_; rintro e w' ⟨rfl, dW, rfl⟩)
          go_ret
          exact ⟨by rw [HC.out]; rfl, nwa⟩
      · have e1 : ¬ (1 : Int) ≤ (m : Int) := by omega
        have d1 : decide ((1 : Int) ≤ (m : Int)) = false := by simpa using e1
        have HC := Lib.hid (show chkD _ _ l = 2 by rw [hc]; first | (simp_all; done) | (simp_all; omega) | (simp_all; intros; omega))
        clear hc
        go_enter Tryz.func99, Tryz.ntmps99
        go_wp2_with (go_at_call 114; refine (HA.out _ (nwa) (by omega)).mono ?_; rintro e w' ⟨rfl, dW, rfl⟩)
        go_ret
        exact ⟨by rw [HC.out]; rfl, nwa⟩
    · have g1 : (n == 0) = false := by simpa using hn
      have HC := Lib.hid (show chkD _ _ l = 2 by rw [hc]; first | (simp_all; done) | (simp_all; omega) | (simp_all; intros; omega))
      clear hc
      go_enter Tryz.func99, Tryz.ntmps99
      go_wp2_with (go_at_call 114; refine (HA.out _ (nwa) (by omega)).mono ?_; rintro e w' ⟨rfl, dW, rfl⟩)
      go_ret
      exact ⟨by rw [HC.out]; rfl, nwa⟩
  · have g1 : (k == 1) = false := by simpa using k1
    have g2 : (k == 2) = false := by simpa using k2
    have g3 : (k == 3) = false := by simpa using k3
    have HC := Lib.hid (show chkD _ _ l = 2 by rw [hc]; first | (simp_all; done) | (simp_all; omega) | (simp_all; intros; omega))
    clear hc
    go_enter Tryz.func99, Tryz.ntmps99
    go_wp2_with (go_at_call 114; refine (HA.out _ (nwa) (by omega)).mono ?_; rintro e w' ⟨rfl, dW, rfl⟩)
    go_ret
    exact ⟨by rw [HC.out]; rfl, nwa⟩
end Go.Proofs.YtkikdpdainmlcaaGreat
