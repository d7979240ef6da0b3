import Derived.Test.YtdhinclpmmpkhaaI
namespace Go.Proofs.Ytdhinclpmmpkhaa
open Go.RowKit Go.Xt
/-- The reference's put, round by round. -/
def pst (s : Int × Int) (a : List (Int × Int) × Bool) (o : Int × Int) : List (Int × Int) × Bool := if a.2 = false ∧ s.1 < o.1 then (a.1 ++ [s] ++ [o], true) else (a.1 ++ [o], a.2)
def pend (s : Int × Int) (a : List (Int × Int) × Bool) : List (Int × Int) := if a.2 then a.1 else a.1 ++ [s]
theorem pst_done (s : Int × Int) : ∀ (l acc : List (Int × Int)), l.foldl (pst s) (acc, true) = (acc ++ l, true)
  | [], acc => by simp
  | o :: l, acc => by
    rw [List.foldl_cons]
    have : pst s (acc, true) o = (acc ++ [o], true) := by simp [pst]
    rw [this, pst_done s l]; simp
theorem pst_put (s : Int × Int) : ∀ (l acc : List (Int × Int)), pend s (l.foldl (pst s) (acc, false)) = acc ++ Nm.put l s
  | [], acc => by simp [pend, Nm.put]
  | o :: l, acc => by
    rw [List.foldl_cons]
    by_cases h : s.1 < o.1
    · have : pst s (acc, false) o = (acc ++ [s] ++ [o], true) := by simp [pst, h]
      rw [this, pst_done, Nm.put, if_pos h]; simp [pend]
    · have : pst s (acc, false) o = (acc ++ [o], false) := by simp [pst, h]
      rw [this, pst_put s l, Nm.put, if_neg h]; simp
theorem pst_len (s : Int × Int) : ∀ (l : List (Int × Int)) (a : List (Int × Int) × Bool), (l.foldl (pst s) a).1.length ≤ a.1.length + 2 * l.length
  | [], a => by simp
  | o :: l, a => by
    rw [List.foldl_cons]
    have := pst_len s l (pst s a o)
    have h2 : (pst s a o).1.length ≤ a.1.length + 2 := by unfold pst; split <;> simp
    simp only [List.length_cons]; omega
theorem own_cast {w : World} {base : Nat} {e : TypeId} {size : Nat} {v : Value} {n m : Nat} {xs ys : List Value} (h : w.ownsRow base e size v n xs) (hn : n = m) (hx : xs = ys) : w.ownsRow base e size v m ys := by
  subst hn hx; exact h
def MkPost (w : World) (l : List (Int × Int)) (e : Ending) (w' : World) : Prop :=
  ∃ v, e = .returned v ∧ w'.ownsRow w.heap.size 24 2 v l.length (cells l) ∧ Nw w w'
set_option maxHeartbeats 1000000 in
theorem put_any (A : Option Addr) (n c : Nat) (l : List (Int × Int)) (s1 s2 : Int) (w : World) (hn : n ≤ 1000) (hl : Sp w A n l) :
    Calls Try.prog 42 #[.slice A n c, sp s1 s2] w (MkPost w (Nm.put l (s1, s2))) := by
  have HL := Lib.hid hl
  clear hl
  go_enter Try.func42, Try.ntmps42
  go_wp2
  go_loopw [5, 6, 7] (fun a b i wr => ∃ (k : Nat) (acc : List (Int × Int)) (dn : Bool), k ≤ n ∧ i = .int .i64 k ∧ b = .bool dn ∧ (l.take k).foldl (pst (s1, s2)) ([], false) = (acc, dn) ∧ wr.ownsRow (w.alloc (.cells #[.int .u64 s1, .int .u64 s2] 24)).heap.size 24 2 a acc.length (cells acc) ∧ Nw (w.alloc (.cells #[.int .u64 s1, .int .u64 s2] 24)) wr) (fun _ _ i _ => n - (intOf i).toNat)
  case atStart => exact ⟨0, [], false, Nat.zero_le _, rfl, rfl, rfl, World.ownsRow_nil _ _ _ _, Nw.refl _⟩
  case round =>
    obtain ⟨k, acc, dn, hk, rfl, rfl, hf, hown, d, rfl⟩ := hrel
    have hacc : acc.length ≤ 2 * n := by
      have h1 := pst_len (s1, s2) (l.take k) ([], false)
      rw [hf] at h1
      have h2 : (l.take k).length ≤ k := List.length_take_le _ _
      simp at h1; omega
    have HF := Lib.hid hf
    clear hf
    by_cases hlt : k < n
    · obtain ⟨b, o, lo, hi, rfl, hb, hx, c0, c1⟩ := HL.out.get hlt
      have hstep : Hid ((l.take (k + 1)).foldl (pst (s1, s2)) ([], false) = pst (s1, s2) (acc, dn) (lo, hi)) := by
        show _ = _
        obtain ⟨p1, q1⟩ := List.getElem?_eq_some_iff.1 hx
        rw [List.take_succ_eq_append_getElem p1, List.foldl_append, HF.out, q1]; rfl
      clear hx
      by_cases hin : dn = false ∧ s1 < lo
      · obtain ⟨rfl, hsl⟩ := hin
        go_wp2
        (refine wp_region_nw (by kernel_rfl) (by kernel_rfl) ?_; (repeat (go_big_quiet_step (fail))); refine wpQuiet_nil ?_; intro _ hreg; obtain ⟨dW, rfl⟩ : Nw _ _ := hreg)
        go_wp2_with (at_builtin; refine wpList_app1 rfl _ _ 37 rfl 24 (.agg #[.int .u64 0, .int .u64 0]) 2 16 Try.underlying37 spanInfo rfl (by decide) (w.alloc (.cells #[.int .u64 s1, .int .u64 s2] 24)) _ (by repeat (first | exact Xt.Nw.refl _ | refine Xt.Nw.drew ?_ | refine Xt.Nw.drewN ?_ _ | refine Xt.Nw.alloc ?_ _ | refine Xt.Nw.joined ?_ | refine Xt.Nw.drewd ?_ | refine Xt.Nw.drewdN ?_ | refine Xt.Nw.ext ?_ | refine Xt.Nw.ext_some ?_ (by assumption) | refine Xt.Nw.setCell ?_ (by simp [go_sem] <;> omega) _)) _ _ _ rfl (by first | assumption | exact own_nw (by assumption) (by repeat (first | exact Xt.Nw.refl _ | refine Xt.Nw.drew ?_ | refine Xt.Nw.drewN ?_ _ | refine Xt.Nw.alloc ?_ _ | refine Xt.Nw.joined ?_ | refine Xt.Nw.drewd ?_ | refine Xt.Nw.drewdN ?_ | refine Xt.Nw.ext ?_ | refine Xt.Nw.ext_some ?_ (by assumption) | refine Xt.Nw.setCell ?_ (by simp [go_sem] <;> omega) _))) _ 1 1 _ _ rfl (by first | rfl | simp) rfl (by intro u hu; simp at hu; (repeat' rcases hu with rfl | hu) <;> first | rfl | (subst hu; rfl)) (by unfold maxLen; omega) (by omega) ?_; intro vA dA hownA)
        refine ⟨⟨k + 1, acc ++ [(s1, s2)] ++ [(lo, hi)], true, by omega, by go_num, rfl, ?_, own_cast hownA (by simp) (by simp [cells]), ?_⟩, by simp [intOf]; omega⟩
        · rw [hstep.out]; simp [pst, hsl]
        · exact ⟨_, rfl⟩
      · by_cases hdn : dn = true
        · subst hdn
          go_wp2
          (refine wp_region_nw (by kernel_rfl) (by kernel_rfl) ?_; (repeat (go_big_quiet_step (fail))); refine wpQuiet_nil ?_; intro _ hreg; obtain ⟨dW, rfl⟩ : Nw _ _ := hreg)
          go_wp2_with (at_builtin; refine wpList_app1 rfl _ _ 37 rfl 24 (.agg #[.int .u64 0, .int .u64 0]) 2 16 Try.underlying37 spanInfo rfl (by decide) (w.alloc (.cells #[.int .u64 s1, .int .u64 s2] 24)) _ (by repeat (first | exact Xt.Nw.refl _ | refine Xt.Nw.drew ?_ | refine Xt.Nw.drewN ?_ _ | refine Xt.Nw.alloc ?_ _ | refine Xt.Nw.joined ?_ | refine Xt.Nw.drewd ?_ | refine Xt.Nw.drewdN ?_ | refine Xt.Nw.ext ?_ | refine Xt.Nw.ext_some ?_ (by assumption) | refine Xt.Nw.setCell ?_ (by simp [go_sem] <;> omega) _)) _ _ _ rfl (by first | assumption | exact own_nw (by assumption) (by repeat (first | exact Xt.Nw.refl _ | refine Xt.Nw.drew ?_ | refine Xt.Nw.drewN ?_ _ | refine Xt.Nw.alloc ?_ _ | refine Xt.Nw.joined ?_ | refine Xt.Nw.drewd ?_ | refine Xt.Nw.drewdN ?_ | refine Xt.Nw.ext ?_ | refine Xt.Nw.ext_some ?_ (by assumption) | refine Xt.Nw.setCell ?_ (by simp [go_sem] <;> omega) _))) _ 1 1 _ _ rfl (by first | rfl | simp) rfl (by intro u hu; simp at hu; (repeat' rcases hu with rfl | hu) <;> first | rfl | (subst hu; rfl)) (by unfold maxLen; omega) (by omega) ?_; intro vA dA hownA)
          refine ⟨⟨k + 1, acc ++ [(lo, hi)], true, by omega, by go_num, rfl, ?_, own_cast hownA (by simp) (by simp [cells]), ?_⟩, by simp [intOf]; omega⟩
          · rw [hstep.out]; simp [pst]
          · exact ⟨_, rfl⟩
        · have hdf : dn = false := by simpa using hdn
          subst hdf
          have hge : lo ≤ s1 := by simp at hin; omega
          have hgd : decide (s1 < lo) = false := by simp; omega
          go_wp2
          (refine wp_region_nw (by kernel_rfl) (by kernel_rfl) ?_; (repeat (go_big_quiet_step (fail))); refine wpQuiet_nil ?_; intro _ hreg; obtain ⟨dW, rfl⟩ : Nw _ _ := hreg)
          go_wp2_with (at_builtin; refine wpList_app1 rfl _ _ 37 rfl 24 (.agg #[.int .u64 0, .int .u64 0]) 2 16 Try.underlying37 spanInfo rfl (by decide) (w.alloc (.cells #[.int .u64 s1, .int .u64 s2] 24)) _ (by repeat (first | exact Xt.Nw.refl _ | refine Xt.Nw.drew ?_ | refine Xt.Nw.drewN ?_ _ | refine Xt.Nw.alloc ?_ _ | refine Xt.Nw.joined ?_ | refine Xt.Nw.drewd ?_ | refine Xt.Nw.drewdN ?_ | refine Xt.Nw.ext ?_ | refine Xt.Nw.ext_some ?_ (by assumption) | refine Xt.Nw.setCell ?_ (by simp [go_sem] <;> omega) _)) _ _ _ rfl (by first | assumption | exact own_nw (by assumption) (by repeat (first | exact Xt.Nw.refl _ | refine Xt.Nw.drew ?_ | refine Xt.Nw.drewN ?_ _ | refine Xt.Nw.alloc ?_ _ | refine Xt.Nw.joined ?_ | refine Xt.Nw.drewd ?_ | refine Xt.Nw.drewdN ?_ | refine Xt.Nw.ext ?_ | refine Xt.Nw.ext_some ?_ (by assumption) | refine Xt.Nw.setCell ?_ (by simp [go_sem] <;> omega) _))) _ 1 1 _ _ rfl (by first | rfl | simp) rfl (by intro u hu; simp at hu; (repeat' rcases hu with rfl | hu) <;> first | rfl | (subst hu; rfl)) (by unfold maxLen; omega) (by omega) ?_; intro vA dA hownA)
          refine ⟨⟨k + 1, acc ++ [(lo, hi)], false, by omega, by go_num, rfl, ?_, own_cast hownA (by simp) (by simp [cells]), ?_⟩, by simp [intOf]; omega⟩
          · rw [hstep.out, pst, if_neg (by simp; omega)]
          · exact ⟨_, rfl⟩
    · have hkn : l.take k = l := List.take_of_length_le (by have := HL.out.1; omega)
      have hput := pst_put (s1, s2) l []
      have hf := HF.out
      rw [hkn] at hf
      rw [hf, List.nil_append] at hput
      have HP := Lib.hid hput
      clear hput hf hkn
      have hsz : w.heap.size ≤ (w.alloc (.cells #[.int .u64 s1, .int .u64 s2] 24)).heap.size := by simp
      cases dn with
      | true =>
        go_wp2_with (at_builtin; refine wpList_app1 rfl _ _ 37 rfl 24 (.agg #[.int .u64 0, .int .u64 0]) 2 16 Try.underlying37 spanInfo rfl (by decide) (w.alloc (.cells #[.int .u64 s1, .int .u64 s2] 24)) _ (by repeat (first | exact Xt.Nw.refl _ | refine Xt.Nw.drew ?_ | refine Xt.Nw.drewN ?_ _ | refine Xt.Nw.alloc ?_ _ | refine Xt.Nw.joined ?_ | refine Xt.Nw.drewd ?_ | refine Xt.Nw.drewdN ?_ | refine Xt.Nw.ext ?_ | refine Xt.Nw.ext_some ?_ (by assumption) | refine Xt.Nw.setCell ?_ (by simp [go_sem] <;> omega) _)) _ _ _ rfl (by first | assumption | exact own_nw (by assumption) (by repeat (first | exact Xt.Nw.refl _ | refine Xt.Nw.drew ?_ | refine Xt.Nw.drewN ?_ _ | refine Xt.Nw.alloc ?_ _ | refine Xt.Nw.joined ?_ | refine Xt.Nw.drewd ?_ | refine Xt.Nw.drewdN ?_ | refine Xt.Nw.ext ?_ | refine Xt.Nw.ext_some ?_ (by assumption) | refine Xt.Nw.setCell ?_ (by simp [go_sem] <;> omega) _))) _ 1 1 _ _ rfl (by first | rfl | simp) rfl (by intro u hu; simp at hu; (repeat' rcases hu with rfl | hu) <;> first | rfl | (subst hu; rfl)) (by unfold maxLen; omega) (by omega) ?_; intro vA dA hownA)
        go_ret
        have hp : acc = Nm.put l (s1, s2) := HP.out
        rw [← hp]
        exact ⟨_, rfl, own_le hown hsz, (by repeat (first | exact Xt.Nw.refl _ | refine Xt.Nw.drew ?_ | refine Xt.Nw.drewN ?_ _ | refine Xt.Nw.alloc ?_ _ | refine Xt.Nw.joined ?_ | refine Xt.Nw.drewd ?_ | refine Xt.Nw.drewdN ?_ | refine Xt.Nw.ext ?_ | refine Xt.Nw.ext_some ?_ (by assumption) | refine Xt.Nw.setCell ?_ (by simp [go_sem] <;> omega) _))⟩
      | false =>
        go_wp2_with (at_builtin; refine wpList_app1 rfl _ _ 37 rfl 24 (.agg #[.int .u64 0, .int .u64 0]) 2 16 Try.underlying37 spanInfo rfl (by decide) (w.alloc (.cells #[.int .u64 s1, .int .u64 s2] 24)) _ (by repeat (first | exact Xt.Nw.refl _ | refine Xt.Nw.drew ?_ | refine Xt.Nw.drewN ?_ _ | refine Xt.Nw.alloc ?_ _ | refine Xt.Nw.joined ?_ | refine Xt.Nw.drewd ?_ | refine Xt.Nw.drewdN ?_ | refine Xt.Nw.ext ?_ | refine Xt.Nw.ext_some ?_ (by assumption) | refine Xt.Nw.setCell ?_ (by simp [go_sem] <;> omega) _)) _ _ _ rfl (by first | assumption | exact own_nw (by assumption) (by repeat (first | exact Xt.Nw.refl _ | refine Xt.Nw.drew ?_ | refine Xt.Nw.drewN ?_ _ | refine Xt.Nw.alloc ?_ _ | refine Xt.Nw.joined ?_ | refine Xt.Nw.drewd ?_ | refine Xt.Nw.drewdN ?_ | refine Xt.Nw.ext ?_ | refine Xt.Nw.ext_some ?_ (by assumption) | refine Xt.Nw.setCell ?_ (by simp [go_sem] <;> omega) _))) _ 1 1 _ _ rfl (by first | rfl | simp) rfl (by intro u hu; simp at hu; (repeat' rcases hu with rfl | hu) <;> first | rfl | (subst hu; rfl)) (by unfold maxLen; omega) (by omega) ?_; intro vA dA hownA)
        go_ret
        have hp : acc ++ [(s1, s2)] = Nm.put l (s1, s2) := HP.out
        rw [← hp]
        exact ⟨_, rfl, own_cast (own_le hownA hsz) (by simp) (by simp [cells]), (by repeat (first | exact Xt.Nw.refl _ | refine Xt.Nw.drew ?_ | refine Xt.Nw.drewN ?_ _ | refine Xt.Nw.alloc ?_ _ | refine Xt.Nw.joined ?_ | refine Xt.Nw.drewd ?_ | refine Xt.Nw.drewdN ?_ | refine Xt.Nw.ext ?_ | refine Xt.Nw.ext_some ?_ (by assumption) | refine Xt.Nw.setCell ?_ (by simp [go_sem] <;> omega) _))⟩
end Go.Proofs.Ytdhinclpmmpkhaa
