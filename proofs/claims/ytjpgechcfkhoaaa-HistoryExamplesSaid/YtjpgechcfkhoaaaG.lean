import Derived.Test.YtjpgechcfkhoaaaF
namespace Go.Proofs.Ytjpgechcfkhoaaa
open Go.RowKit Go.Xt
/-- The index of the first call that is not well formed. -/
def badFrom (l : List Cl) : Nat → Nat → Option Nat
  | _, 0 => none
  | i, f + 1 => match l[i]? with
    | none => none
    | some x => if goodP (l.take i) x then badFrom l (i + 1) f else some i
def bad (l : List Cl) : Option Nat := badFrom l 0 l.length
def chkV (l : List Cl) : Value := match bad l with | some i => .tuple #[.int .i64 (i : Int), .int .i64 15] | none => .tuple #[.int .i64 0, .int .i64 0]
theorem badFrom_none (l : List Cl) : ∀ (f i : Nat), i + f = l.length → (badFrom l i f = none ↔ ∀ (j : Nat) (x : Cl), i ≤ j → l[j]? = some x → goodP (l.take j) x = true)
  | 0, i, h => by
    simp only [badFrom, true_iff]
    intro j x hj hx
    have := (List.getElem?_eq_some_iff.1 hx).1
    omega
  | f + 1, i, h => by
    obtain ⟨x, hx⟩ : ∃ x, l[i]? = some x := ⟨l[i], List.getElem?_eq_getElem (by omega)⟩
    rw [badFrom, hx]
    simp only
    by_cases hg : goodP (l.take i) x = true
    · rw [if_pos hg, badFrom_none l f (i + 1) (by omega)]
      constructor
      · intro h2 j y hj hy
        rcases Nat.eq_or_lt_of_le hj with rfl | hj'
        · rw [hx] at hy; injection hy with hy; subst hy; exact hg
        · exact h2 j y hj' hy
      · intro h2 j y hj hy
        exact h2 j y (by omega) hy
    · rw [if_neg hg]
      constructor
      · intro h2; cases h2
      · intro h2; exact absurd (h2 i x (Nat.le_refl _) hx) hg
theorem badFrom_some (l : List Cl) : ∀ (f i k : Nat), badFrom l i f = some k → i ≤ k
  | 0, i, k, h => by cases h
  | f + 1, i, k, h => by
    rw [badFrom] at h
    split at h
    · cases h
    · split at h
      · have := badFrom_some l f (i + 1) k h; omega
      · injection h with h; omega
theorem bad_step {l : List Cl} {i : Nat} {x : Cl} (hx : l[i]? = some x) (h : goodP (l.take i) x = true) : badFrom l i (l.length - i) = badFrom l (i + 1) (l.length - (i + 1)) := by
  have hl := (List.getElem?_eq_some_iff.1 hx).1
  rw [show l.length - i = (l.length - (i + 1)) + 1 by omega, badFrom, hx]
  simp only [if_pos h]
theorem bad_stop {l : List Cl} {i : Nat} {x : Cl} (hx : l[i]? = some x) (h : goodP (l.take i) x = false) : badFrom l i (l.length - i) = some i := by
  have hl := (List.getElem?_eq_some_iff.1 hx).1
  rw [show l.length - i = (l.length - (i + 1)) + 1 by omega, badFrom, hx]
  simp [h]
set_option maxRecDepth 20000 in
set_option maxHeartbeats 4000000 in
theorem rcheck_any (A : Option Addr) (n c : Nat) (l : List Cl) (w : World) (hn : n ≤ 1000) (hl : Cs w A n l) (hw : ∀ y ∈ l, WfC y) :
    Calls Try.prog 12 #[.slice A n c] w fun e w' => e = .returned (chkV l) ∧ Nw w w' := by
  have HL := Lib.hid hl
  have HW := Lib.hid hw
  have hlen := hl.1
  clear hl hw
  go_enter Try.func12, Try.ntmps12
  go_wp2
  go_loopw [4] (fun a wr => ∃ k : Nat, k ≤ n ∧ a = .int .i64 k ∧ Hid (bad l = badFrom l k (l.length - k)) ∧ Nw w wr) (fun a _ => n - (intOf a).toNat)
  case atStart => exact ⟨0, by omega, rfl, rfl, Nw.refl _⟩
  case round =>
    obtain ⟨k, hk, rfl, hbd, d, rfl⟩ := hrel
    by_cases hlt : k < n
    · obtain ⟨x, hx⟩ : ∃ x, l[k]? = some x := ⟨l[k], List.getElem?_eq_getElem (by omega)⟩
      have hg := Lib.hid (good_any A n c k x l (w.ext none d) hn hlt hx (HL.out.ext d) HW.out)
      have HX := Lib.hid hx
      clear hx
      cases he : goodP (l.take k) x with
      | true =>
        rw [he] at hg
        have HE := Lib.hid he
        clear he
        go_wp2_with (go_at_call 38; refine (hg.out).mono ?_; rintro e w' ⟨rfl, dW, rfl⟩)
        refine ⟨⟨k + 1, by omega, by go_num, ?_, (by repeat (first | exact Xt.Nw.refl _ | refine Xt.Nw.drew ?_ | refine Xt.Nw.drewN ?_ _ | refine Xt.Nw.alloc ?_ _ | refine Xt.Nw.joined ?_ | refine Xt.Nw.drewd ?_ | refine Xt.Nw.drewdN ?_ | refine Xt.Nw.ext ?_ | refine Xt.Nw.ext_some ?_ (by assumption) | refine Xt.Nw.setCell ?_ (by simp [go_sem] <;> omega) _))⟩, by simp [intOf]; omega⟩
        show _ = _
        rw [hbd.out, bad_step HX.out HE.out]
      | false =>
        rw [he] at hg
        have HE := Lib.hid he
        clear he
        go_wp2_with (go_at_call 38; refine (hg.out).mono ?_; rintro e w' ⟨rfl, dW, rfl⟩)
        refine bodyPost_ret (results_tmp2 rfl _ _ _) rfl ⟨?_, (by repeat (first | exact Xt.Nw.refl _ | refine Xt.Nw.drew ?_ | refine Xt.Nw.drewN ?_ _ | refine Xt.Nw.alloc ?_ _ | refine Xt.Nw.joined ?_ | refine Xt.Nw.drewd ?_ | refine Xt.Nw.drewdN ?_ | refine Xt.Nw.ext ?_ | refine Xt.Nw.ext_some ?_ (by assumption) | refine Xt.Nw.setCell ?_ (by simp [go_sem] <;> omega) _))⟩
        rw [chkV, hbd.out, bad_stop HX.out HE.out]; rfl
    · have hkn : k = n := by omega
      go_wp2
      refine bodyPost_ret (results_tmp2 rfl _ _ _) rfl ⟨?_, (by repeat (first | exact Xt.Nw.refl _ | refine Xt.Nw.drew ?_ | refine Xt.Nw.drewN ?_ _ | refine Xt.Nw.alloc ?_ _ | refine Xt.Nw.joined ?_ | refine Xt.Nw.drewd ?_ | refine Xt.Nw.drewdN ?_ | refine Xt.Nw.ext ?_ | refine Xt.Nw.ext_some ?_ (by assumption) | refine Xt.Nw.setCell ?_ (by simp [go_sem] <;> omega) _))⟩
      rw [chkV, hbd.out, hkn, ← hlen, Nat.sub_self]; rfl
end Go.Proofs.Ytjpgechcfkhoaaa
