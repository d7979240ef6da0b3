import Derived.Test.YtjpgechcfkhoaaaD
namespace Go.Proofs.Ytjpgechcfkhoaaa
open Go.RowKit Go.Xt
/-- The calls of a thread. -/
def ofT (t : Int) (l : List Cl) : List Cl := l.filter fun c => c.th == t
theorem ofT_succ (t : Int) {l : List Cl} {k : Nat} {x : Cl} (hx : l[k]? = some x) : ofT t (l.take (k + 1)) = ofT t (l.take k) ++ if x.th = t then [x] else [] := by
  rw [ofT, ftake _ hx]; simp [ofT]
/-- The index of the last call of a thread among the first k, or -1. -/
def lastAt (t : Int) (l : List Cl) : Nat → Int
  | 0 => -1
  | k + 1 => if (l[k]?.map Cl.th) = some t then (k : Int) else lastAt t l k
theorem lastAt_succ (t : Int) {l : List Cl} {k : Nat} {x : Cl} (hx : l[k]? = some x) : lastAt t l (k + 1) = if x.th = t then (k : Int) else lastAt t l k := by
  rw [lastAt, hx]; simp
theorem lastAt_lt (t : Int) (l : List Cl) : ∀ k : Nat, lastAt t l k < k
  | 0 => by simp [lastAt]
  | k + 1 => by
    have := lastAt_lt t l k
    rw [lastAt]; split <;> omega
theorem lastAt_ge (t : Int) (l : List Cl) : ∀ k : Nat, -1 ≤ lastAt t l k
  | 0 => by simp [lastAt]
  | k + 1 => by
    have := lastAt_ge t l k
    rw [lastAt]; split <;> omega
/-- What lastAt points at is the last of the thread's calls. -/
theorem lastAt_of (t : Int) (l : List Cl) : ∀ k : Nat, k ≤ l.length → (lastAt t l k = -1 ∧ ofT t (l.take k) = []) ∨ ∃ (j : Nat) (x : Cl), lastAt t l k = j ∧ l[j]? = some x ∧ (ofT t (l.take k)).getLast? = some x
  | 0, _ => .inl ⟨rfl, by simp [ofT]⟩
  | k + 1, h => by
    obtain ⟨x, hx⟩ : ∃ x, l[k]? = some x := ⟨l[k], List.getElem?_eq_getElem (by omega)⟩
    rw [lastAt_succ t hx, ofT_succ t hx]
    by_cases ht : x.th = t
    · rw [if_pos ht, if_pos ht]
      exact .inr ⟨k, x, rfl, hx, by simp⟩
    · rw [if_neg ht, if_neg ht, List.append_nil]
      exact lastAt_of t l k (by omega)
set_option maxRecDepth 20000 in
set_option maxHeartbeats 2000000 in
theorem last_any (A : Option Addr) (n c i : Nat) (x : Cl) (l : List Cl) (w : World) (hn : n ≤ 1000) (hi : i < n) (hx : l[i]? = some x) (hl : Cs w A n l) :
    Calls Try.prog 45 #[.slice A n c, .int .i64 i] w fun e w' => e = .returned (.tuple #[.int .i64 (lastAt x.th l i), .int .i64 ((ofT x.th (l.take i)).length : Nat)]) ∧ Nw w w' := by
  obtain ⟨b, o, y, rfl, hb, hy, hcy⟩ := hl.get hi
  obtain rfl : x = y := by rw [hx] at hy; injection hy
  haveI : In b w := ⟨hb⟩
  have cx := hcy.1
  have HL := Lib.hid hl
  have hlen := hl.1
  clear hl hy hx hcy
  go_enter Try.func45, Try.ntmps45
  go_wp2
  go_loopw [6, 7, 8] (fun a m k wr => ∃ j : Nat, j ≤ i ∧ a = .int .i64 (lastAt x.th l j) ∧ m = .int .i64 ((ofT x.th (l.take j)).length : Nat) ∧ k = .int .i64 j ∧ Nw w wr) (fun _ _ k _ => i - (intOf k).toNat)
  case atStart => exact ⟨0, by omega, rfl, rfl, rfl, Nw.refl _⟩
  case round =>
    obtain ⟨j, hj, rfl, rfl, rfl, d, rfl⟩ := hrel
    by_cases hlt : j < i
    · obtain ⟨b', o', y, e1, hb', hy, hcy⟩ := HL.out.get (show j < n by omega)
      obtain ⟨rfl, rfl⟩ : b = b' ∧ o = o' := by simpa using e1
      have cy := hcy.1
      have hS := Lib.hid (ofT_succ x.th hy)
      have hT := Lib.hid (lastAt_succ x.th hy)
      have hle : (ofT x.th (l.take j)).length ≤ 1000 := Nat.le_trans (flen _ _ _) (by omega)
      obtain ⟨m, hm⟩ : ∃ m : Nat, (ofT x.th (l.take j)).length = m := ⟨_, rfl⟩
      obtain ⟨q, hq⟩ : ∃ q : Int, lastAt x.th l j = q := ⟨_, rfl⟩
      rw [hm] at hle ⊢; rw [hq]
      have HM := Lib.hid hm; have HQ := Lib.hid hq
      clear hm hq hcy hy e1
      go_wp2
      (refine wp_region_nw (by kernel_rfl) (by kernel_rfl) ?_; (repeat (go_big_quiet_step (fail))); refine wpQuiet_nil ?_; intro _ hreg; obtain ⟨dW, rfl⟩ : Nw _ _ := hreg)
      by_cases he : y.th = x.th
      · have he' : (y.th == x.th) = true := by simpa using he
        go_wp2
        refine ⟨⟨j + 1, by omega, ?_, ?_, by go_num, (by repeat (first | exact Xt.Nw.refl _ | refine Xt.Nw.drew ?_ | refine Xt.Nw.drewN ?_ _ | refine Xt.Nw.alloc ?_ _ | refine Xt.Nw.joined ?_ | refine Xt.Nw.drewd ?_ | refine Xt.Nw.drewdN ?_ | refine Xt.Nw.ext ?_ | refine Xt.Nw.ext_some ?_ (by assumption) | refine Xt.Nw.setCell ?_ (by simp [go_sem] <;> omega) _))⟩, by simp [intOf]; omega⟩
        · rw [hT.out, if_pos he]
        · rw [hS.out, if_pos he]; simp [HM.out]
      · have he' : (y.th == x.th) = false := by simpa using he
        go_wp2
        refine ⟨⟨j + 1, by omega, ?_, ?_, by go_num, (by repeat (first | exact Xt.Nw.refl _ | refine Xt.Nw.drew ?_ | refine Xt.Nw.drewN ?_ _ | refine Xt.Nw.alloc ?_ _ | refine Xt.Nw.joined ?_ | refine Xt.Nw.drewd ?_ | refine Xt.Nw.drewdN ?_ | refine Xt.Nw.ext ?_ | refine Xt.Nw.ext_some ?_ (by assumption) | refine Xt.Nw.setCell ?_ (by simp [go_sem] <;> omega) _))⟩, by simp [intOf]; omega⟩
        · rw [hT.out, if_neg he, HQ.out]
        · rw [hS.out, if_neg he, List.append_nil, HM.out]
    · have hji : j = i := by omega
      go_wp2
      refine bodyPost_ret (results_tmp2 rfl _ _ _) rfl ⟨by rw [hji]; rfl, (by repeat (first | exact Xt.Nw.refl _ | refine Xt.Nw.drew ?_ | refine Xt.Nw.drewN ?_ _ | refine Xt.Nw.alloc ?_ _ | refine Xt.Nw.joined ?_ | refine Xt.Nw.drewd ?_ | refine Xt.Nw.drewdN ?_ | refine Xt.Nw.ext ?_ | refine Xt.Nw.ext_some ?_ (by assumption) | refine Xt.Nw.setCell ?_ (by simp [go_sem] <;> omega) _))⟩
end Go.Proofs.Ytjpgechcfkhoaaa
