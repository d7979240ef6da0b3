import Derived.Test.YtdhinclpmmpkhaaH
namespace Go.Proofs.Ytdhinclpmmpkhaa
open Go.RowKit Go.Xt
/-- The bounds of the ends. -/
def Bd (l : List (Int × Int)) : Prop := ∀ s ∈ l, 0 ≤ s.1 ∧ 0 ≤ s.2 ∧ s.1 ≤ 18446744073709551615 ∧ s.2 ≤ 18446744073709551615
theorem ok_iff (l : List (Int × Int)) : Ok l = true ↔ ∀ s ∈ l, s.1 ≤ s.2 := by simp [Ok]
/-- New memory of a call that began in w. -/
def Fresh (w w' : World) (A : Option Addr) (m : Nat) : Prop := 0 < m → ∃ g, A = some ⟨g, 0, none⟩ ∧ w.heap.size ≤ g ∧ ∀ j, w'.frozen? ⟨g, j, none⟩ = false
def NormPost (w : World) (l : List (Int × Int)) (e : Ending) (w' : World) : Prop :=
  ∃ A c, e = .returned (.tuple #[.slice A l.length c, .int .i64 0]) ∧ Sp w' A l.length l ∧ (A = none → c = 0) ∧ Fresh w w' A l.length ∧ l.length ≤ c ∧ Nw w w'
theorem row_cells {w : World} {base g n cap : Nat} {r : List (Int × Int)} (h : w.ownsRow base 24 2 (.slice (some ⟨g, 0, none⟩) n cap) n (cells r)) (hr : r.length = n) {i : Nat} {x : Int × Int} (hx : r[i]? = some x) :
    w.cell? ⟨g, i * 2, none⟩ = some (.int .u64 x.1) ∧ w.cell? ⟨g, i * 2 + 1, none⟩ = some (.int .u64 x.2) := by
  have hi : i < r.length := (List.getElem?_eq_some_iff.1 hx).1
  obtain ⟨c0, c1⟩ := cells_get r i x hx
  rw [h.cellAt (i * 2) (by omega), h.cellAt (i * 2 + 1) (by omega)]
  exact ⟨c0, c1⟩
theorem row_sp {w : World} {base g n cap m : Nat} {r : List (Int × Int)} (h : w.ownsRow base 24 2 (.slice (some ⟨g, 0, none⟩) n cap) n (cells r)) (hr : r.length = n) (hm : m ≤ n) : Sp w (some ⟨g, 0, none⟩) m (r.take m) := by
  refine ⟨by rw [List.length_take]; omega, fun _ => ⟨g, 0, rfl, (h.lt g rfl).2, fun i x hx => ?_⟩⟩
  rw [Nat.zero_add]
  refine row_cells h hr (i := i) ?_
  rw [List.getElem?_take] at hx
  split at hx
  · exact hx
  · cases hx
theorem cells_set : ∀ (r : List (Int × Int)) (m : Nat) (x : Int × Int), cells (r.set m x) = ((cells r).set (m * 2) (.int .u64 x.1)).set (m * 2 + 1) (.int .u64 x.2)
  | [], _, _ => rfl
  | _ :: r, 0, x => rfl
  | y :: r, m + 1, x => by
    rw [show (m + 1) * 2 = m * 2 + 1 + 1 by omega]
    have := cells_set r m x
    simp only [cells, List.set_cons_succ, List.flatMap_cons, List.cons_append, List.nil_append] at this ⊢
    rw [this]
theorem cells_set1 (r : List (Int × Int)) (m : Nat) (x y : Int) (v : Int) (h : r[m]? = some (x, y)) : cells (r.set m (x, v)) = (cells r).set (m * 2 + 1) (.int .u64 v) := by
  rw [cells_set]
  have := (cells_get r m (x, y) h).1
  congr 1
  apply List.ext_getElem?
  intro j
  rw [List.getElem?_set]
  split
  · rename_i e; subst e
    split
    · exact this.symm
    · rename_i hn; rw [List.getElem?_eq_none (by omega)]
  · rfl
theorem row_set {w : World} {base g n cap m : Nat} {r : List (Int × Int)} {x : Int × Int} (h : w.ownsRow base 24 2 (.slice (some ⟨g, 0, none⟩) n cap) n (cells r)) :
    ((w.setCell ⟨g, m * 2, none⟩ (.int .u64 x.1)).setCell ⟨g, m * 2 + 1, none⟩ (.int .u64 x.2)).ownsRow base 24 2 (.slice (some ⟨g, 0, none⟩) n cap) n (cells (r.set m x)) := by
  rw [cells_set]
  exact ((h.stored _ _).1.stored _ _).1
theorem row_set1 {w : World} {base g n cap m : Nat} {r : List (Int × Int)} {x y v : Int} (h : w.ownsRow base 24 2 (.slice (some ⟨g, 0, none⟩) n cap) n (cells r)) (hx : r[m]? = some (x, y)) :
    (w.setCell ⟨g, m * 2 + 1, none⟩ (.int .u64 v)).ownsRow base 24 2 (.slice (some ⟨g, 0, none⟩) n cap) n (cells (r.set m (x, v))) := by
  rw [cells_set1 r m x y v hx]
  exact (h.stored _ _).1
/-- The step at a list. -/
theorem step_new {r d : List (Int × Int)} {k m : Nat} {s : Int × Int} (hm : m ≤ k) (hk : k < r.length) (hd : r.drop k = d.drop k) (hno : ∀ t, 0 < m → r[m - 1]? = some t → t.2 + 1 < s.1) :
    (r.set m s).take (m + 1) = Nm.mstep (r.take m) s ∧ (r.set m s).drop (k + 1) = d.drop (k + 1) := by
  constructor
  · have e : (r.set m s).take (m + 1) = r.take m ++ [s] := by
      rw [List.take_succ_eq_append_getElem (by simp; omega), List.take_set, List.getElem_set_self]
      rw [List.set_eq_of_length_le (by rw [List.length_take]; omega)]
    rw [e]
    unfold Nm.mstep
    by_cases h0 : m = 0
    · subst h0; simp
    · have hl : (r.take m).getLast? = some r[m - 1] := by
        rw [List.getLast?_eq_getElem?, List.length_take, List.getElem?_take]
        have : min m r.length - 1 = m - 1 := by omega
        rw [this, if_pos (by omega), List.getElem?_eq_getElem (by omega)]
      rw [hl]
      have := hno r[m - 1] (by omega) (List.getElem?_eq_getElem (by omega))
      simp only
      rw [if_neg (by omega)]
  · rw [List.drop_set_of_lt (by omega), ← List.drop_drop (i := 1) (j := k), hd, List.drop_drop]
theorem step_merge {r d : List (Int × Int)} {k m : Nat} {s t : Int × Int} (hm : m ≤ k) (hm0 : 0 < m) (hk : k < r.length) (hd : r.drop k = d.drop k) (ht : r[m - 1]? = some t) (hle : s.1 ≤ t.2 + 1) :
    (r.set (m - 1) (t.1, Nm.mx t.2 s.2)).take m = Nm.mstep (r.take m) s ∧ (r.set (m - 1) (t.1, Nm.mx t.2 s.2)).drop (k + 1) = d.drop (k + 1) := by
  obtain ⟨hlt, ht'⟩ := List.getElem?_eq_some_iff.1 ht
  constructor
  · unfold Nm.mstep
    have hl : (r.take m).getLast? = some t := by
      rw [List.getLast?_eq_getElem?, List.length_take, List.getElem?_take]
      have : min m r.length - 1 = m - 1 := by omega
      rw [this, if_pos (by omega), ht]
    rw [hl]
    simp only
    rw [if_pos hle]
    have e1 : (r.take m).dropLast = r.take (m - 1) := by rw [List.dropLast_eq_take, List.length_take, List.take_take]; congr 1; omega
    rw [e1]
    have e2 : m = m - 1 + 1 := by omega
    rw [e2, List.take_succ_eq_append_getElem (by simp; omega), List.take_set]
    simp only [Nat.add_sub_cancel, List.getElem_set_self]
    rw [List.set_eq_of_length_le (by rw [List.length_take]; omega)]
  · rw [List.drop_set_of_lt (by omega), ← List.drop_drop (i := 1) (j := k), hd, List.drop_drop]
theorem Bd.set {r : List (Int × Int)} (h : Bd r) (m : Nat) {x : Int × Int} (hx : 0 ≤ x.1 ∧ 0 ≤ x.2 ∧ x.1 ≤ 18446744073709551615 ∧ x.2 ≤ 18446744073709551615) : Bd (r.set m x) := by
  intro s hs
  rcases List.mem_or_eq_of_mem_set hs with h1 | rfl
  · exact h s h1
  · exact hx
theorem max_mx (a b : Int) : max a b = Nm.mx a b := by unfold Nm.mx; split <;> omega
set_option maxHeartbeats 400000 in
theorem norm_bad (A : Option Addr) (n c : Nat) (l : List (Int × Int)) (w : World) (hn : n ≤ 1000) (hl : Sp w A n l) (hok : Ok l = false) :
    Calls Try.prog 27 #[.slice A n c] w fun e w' => e = .returned (.tuple #[.slice none 0 0, .int .i64 13]) ∧ Nw w w' := by
  have hv := fun w hl => valid_any A n c l w (by omega) hl
  rw [hok] at hv
  have HL := Lib.hid hl
  clear hl hok
  have HV := Lib.hid hv
  clear hv
  go_enter Try.func27, Try.ntmps27
  go_wp2_with ((go_at_call 35; refine (HV.out _ HL.out).mono ?_; rintro e w' ⟨rfl, dW, rfl⟩))
  go_ret2
  exact ⟨rfl, (by repeat (first | exact Xt.Nw.refl _ | refine Xt.Nw.drew ?_ | refine Xt.Nw.drewN ?_ _ | refine Xt.Nw.alloc ?_ _ | refine Xt.Nw.joined ?_ | refine Xt.Nw.drewd ?_ | refine Xt.Nw.drewdN ?_ | refine Xt.Nw.ext ?_ | refine Xt.Nw.ext_some ?_ (by assumption) | refine Xt.Nw.setCell ?_ (by simp [go_sem] <;> omega) _))⟩
set_option maxHeartbeats 1000000 in
theorem norm_ok (A : Option Addr) (n c : Nat) (l : List (Int × Int)) (w : World) (hn : n ≤ 1000) (hc : A = none → c = 0) (hl : Sp w A n l) (hok : Ok l = true) (hb : Bd l) :
    Calls Try.prog 27 #[.slice A n c] w (NormPost w (Nm.norm l)) := by
  have hv := fun w hl => valid_any A n c l w (by omega) hl
  rw [hok] at hv
  have HL := Lib.hid hl
  have HC := Lib.hid hc
  have HB := Lib.hid hb
  have HK := Lib.hid ((ok_iff l).1 hok)
  clear hl hok hc hb
  have HV := Lib.hid hv
  clear hv
  go_enter Try.func27, Try.ntmps27
  go_wp2_with (first | (go_at_call 35; refine (HV.out _ HL.out).mono ?_; rintro e w' ⟨rfl, dW, rfl⟩) | (go_at_call 36; refine (clone_any _ _ _ l _ hn HC.out (HL.out.nw ⟨_, rfl⟩)).mono ?_; rintro e w' ⟨v, rfl, hown, dW, rfl⟩))
  have hown1 := own_le hown (le_size w none _)
  rw [ext_ext] at hown1 ⊢
  generalize djoin w none _ dW = d1 at *
  clear hown
  have H1 := Lib.hid HL.out.1
  rcases own_forms hown1 with ⟨rfl, h0⟩ | ⟨g, cap, rfl, hg, hin, hcap, hcm⟩
  · subst h0
    obtain rfl : l = [] := List.eq_nil_of_length_eq_zero HL.out.1
    clear hown1
    go_wp2_with (go_at_call 37; refine (sort_nil _ _ _ _).mono ?_; rintro e w' ⟨rfl, rfl⟩)
    refine wp_loop_rounds 1 ?_
    rw [rounds_succ]
    go_wp2
    go_ret2
    exact ⟨none, 0, rfl, ⟨rfl, fun h => absurd h (by simp [Nm.norm])⟩, fun _ => rfl, fun h => absurd h (by simp [Nm.norm]), Nat.le_refl _, (by repeat (first | exact Xt.Nw.refl _ | refine Xt.Nw.drew ?_ | refine Xt.Nw.drewN ?_ _ | refine Xt.Nw.alloc ?_ _ | refine Xt.Nw.joined ?_ | refine Xt.Nw.drewd ?_ | refine Xt.Nw.drewdN ?_ | refine Xt.Nw.ext ?_ | refine Xt.Nw.ext_some ?_ (by assumption) | refine Xt.Nw.setCell ?_ (by simp [go_sem] <;> omega) _))⟩
  · go_wp2_with (go_at_call 37; refine (sort_any w.heap.size g n cap l _ H1.out (by omega) hown1).mono ?_; rintro e w' ⟨rfl, d, hperm, hsort, hown2, hgrow⟩)
    obtain ⟨d2, rfl⟩ : Nw w w' := (show Nw w (w.ext none d1) from ⟨_, rfl⟩).row hgrow (fun k hk => by injection hk with hk; subst hk; exact hg)
    clear hown1 hgrow hin
    have hdl : d.length = n := by rw [hperm.length_eq]; exact H1.out
    have hfold := Lib.hid (Nm.fold_norm l d HK.out hperm hsort)
    have hbd : Bd d := fun s hs => HB.out s (hperm.mem_iff.1 hs)
    have HBD := Lib.hid hbd
    have HDL := Lib.hid hdl
    clear hbd hdl hperm hsort
    go_loopw [5, 17] (fun a b wr => ∃ (k m : Nat) (r : List (Int × Int)), k ≤ n ∧ m ≤ k ∧ a = .int .i64 m ∧ b = .int .i64 k ∧ r.length = n ∧ r.take m = (d.take k).foldl Nm.mstep [] ∧ r.drop k = d.drop k ∧ Bd r ∧ wr.ownsRow w.heap.size 24 2 (.slice (some ⟨g, 0, none⟩) n cap) n (cells r) ∧ Nw w wr) (fun _ b _ => n - (intOf b).toNat)
    case atStart => exact ⟨0, 0, d, Nat.zero_le _, Nat.zero_le _, rfl, rfl, HDL.out, rfl, rfl, HBD.out, hown2, ⟨_, rfl⟩⟩
    case round =>
      obtain ⟨k, m, r, hk, hm, rfl, rfl, hrl, hrt, hrd, hrb, hown, dr, rfl⟩ := hrel
      have HRB := Lib.hid hrb
      clear hrb
      have HR := Lib.hid (And.intro hrl (And.intro hrt hrd))
      clear hrl hrt hrd
      by_cases hlt : k < n
      · have hkd : k < d.length := by have := HDL.out; omega
        rcases hs : d[k] with ⟨s1, s2⟩
        have hx : r[k]? = some (s1, s2) := by
          obtain ⟨_, _, hrd⟩ := HR.out
          have e1 : (r.drop k)[0]? = (d.drop k)[0]? := by rw [hrd]
          rw [List.getElem?_drop, List.getElem?_drop, Nat.add_zero] at e1
          rw [e1, List.getElem?_eq_getElem hkd, hs]
        have hsb := HBD.out _ (List.mem_of_getElem? (List.getElem?_eq_getElem hkd))
        rw [hs] at hsb
        obtain ⟨b1, b2, b3, b4⟩ := hsb
        simp only at b1 b2 b3 b4
        obtain ⟨c0, c1⟩ := row_cells hown HR.out.1 hx
        have hfz : ∀ j, (w.ext none dr).frozen? ⟨g, j, none⟩ = false := fun j => hown.frozenAt j
        haveI hin : In g (w.ext none dr) := ⟨(hown.lt g rfl).2⟩
        have hstep : Hid ((d.take (k + 1)).foldl Nm.mstep [] = Nm.mstep ((d.take k).foldl Nm.mstep []) (s1, s2)) := by
          show _ = _
          rw [List.take_succ_eq_append_getElem hkd, List.foldl_append, hs]; rfl
        have HX := Lib.hid hx
        have HO := Lib.hid hown
        have hml : m < r.length := by have := HR.out.1; omega
        rcases hy : r[m] with ⟨y1, y2⟩
        have hy' : r[m]? = some (y1, y2) := by rw [List.getElem?_eq_getElem hml, hy]
        obtain ⟨e0, e1⟩ := row_cells hown HR.out.1 hy'
        clear hx hown hs hy hy'
        by_cases hm0 : m = 0
        · subst hm0
          simp only [Nat.zero_mul, Nat.zero_add] at e0 e1
          go_wp2
          (refine wp_region_nw (by kernel_rfl) (by kernel_rfl) ?_; (repeat (go_big_quiet_step (fail))); refine wpQuiet_nil ?_; intro _ hreg; obtain ⟨dW, rfl⟩ : Nw _ _ := hreg)
          go_wp2
          refine ⟨⟨k + 1, 1, r.set 0 (s1, s2), by omega, by omega, rfl, by go_num, by rw [List.length_set]; exact HR.out.1, ?_, ?_, HRB.out.set _ ⟨b1, b2, b3, b4⟩, ?_, ?_⟩, by simp [intOf]; omega⟩
          · rw [hstep.out, ← HR.out.2.1]
            exact (step_new (Nat.zero_le k) (by have := HR.out.1; omega) HR.out.2.2 (fun t h => absurd h (by omega))).1
          · exact (step_new (Nat.zero_le k) (by have := HR.out.1; omega) HR.out.2.2 (fun t h => absurd h (by omega))).2
          · exact own_nw (row_set (m := 0) (x := (s1, s2)) HO.out) (((Nw.refl _).alloc _).ext)
          · exact ((((show Nw w (w.ext none dr) from ⟨_, rfl⟩).setCell hg _).setCell hg _).alloc _).ext
        · have hm1 : 0 < m := by omega
          rcases ht : r[m - 1]'(by omega) with ⟨t1, t2⟩
          have ht' : r[m - 1]? = some (t1, t2) := by rw [List.getElem?_eq_getElem (by omega), ht]
          obtain ⟨f0, f1⟩ := row_cells HO.out HR.out.1 ht'
          have HT := Lib.hid ht'
          obtain ⟨q1, q2, q3, q4⟩ := HRB.out _ (List.mem_of_getElem? ht')
          simp only at q1 q2 q3 q4
          clear ht ht'
          by_cases hle : s1 ≤ t2
          · go_wp2
            (refine wp_region_nw (by kernel_rfl) (by kernel_rfl) ?_; (repeat (go_big_quiet_step (fail))); refine wpQuiet_nil ?_; intro _ hreg; obtain ⟨dW, rfl⟩ : Nw _ _ := hreg)
            go_wp2
            go_region
            go_wp2
            refine ⟨⟨k + 1, m, r.set (m - 1) (t1, max t2 s2), by omega, by omega, rfl, by go_num, by rw [List.length_set]; exact HR.out.1, ?_, ?_, HRB.out.set _ ⟨q1, by show 0 ≤ max t2 s2; omega, q3, by show max t2 s2 ≤ _; omega⟩, own_nw (row_set1 HO.out HT.out) (by repeat (first | exact Xt.Nw.refl _ | refine Xt.Nw.drew ?_ | refine Xt.Nw.drewN ?_ _ | refine Xt.Nw.alloc ?_ _ | refine Xt.Nw.joined ?_ | refine Xt.Nw.drewd ?_ | refine Xt.Nw.drewdN ?_ | refine Xt.Nw.ext ?_ | refine Xt.Nw.ext_some ?_ (by assumption) | refine Xt.Nw.setCell ?_ (by simp [go_sem] <;> omega) _)), ?_⟩, by simp [intOf]; omega⟩
            · rw [hstep.out, ← HR.out.2.1, max_mx]
              exact (step_merge (s := (s1, s2)) hm hm1 (by have := HR.out.1; omega) HR.out.2.2 HT.out (by simp only; omega)).1
            · rw [max_mx]
              exact (step_merge (s := (s1, s2)) hm hm1 (by have := HR.out.1; omega) HR.out.2.2 HT.out (by simp only; omega)).2
            · exact (((show Nw w (w.ext none dr) from ⟨_, rfl⟩).setCell hg _).alloc _).ext.drew
          · have hlt2 : 1 ≤ s1 := by omega
            have hbl : decide (s1 ≤ t2) = false := by simp; omega
            by_cases he : s1 - 1 = t2
            · go_wp2
              (refine wp_region_nw (by kernel_rfl) (by kernel_rfl) ?_; (repeat (go_big_quiet_step (fail))); refine wpQuiet_nil ?_; intro _ hreg; obtain ⟨dW, rfl⟩ : Nw _ _ := hreg)
              go_wp2
              go_region
              go_wp2
              refine ⟨⟨k + 1, m, r.set (m - 1) (t1, max t2 s2), by omega, by omega, rfl, by go_num, by rw [List.length_set]; exact HR.out.1, ?_, ?_, HRB.out.set _ ⟨q1, by show 0 ≤ max t2 s2; omega, q3, by show max t2 s2 ≤ _; omega⟩, own_nw (row_set1 HO.out HT.out) (by repeat (first | exact Xt.Nw.refl _ | refine Xt.Nw.drew ?_ | refine Xt.Nw.drewN ?_ _ | refine Xt.Nw.alloc ?_ _ | refine Xt.Nw.joined ?_ | refine Xt.Nw.drewd ?_ | refine Xt.Nw.drewdN ?_ | refine Xt.Nw.ext ?_ | refine Xt.Nw.ext_some ?_ (by assumption) | refine Xt.Nw.setCell ?_ (by simp [go_sem] <;> omega) _)), ?_⟩, by simp [intOf]; omega⟩
              · rw [hstep.out, ← HR.out.2.1, max_mx]
                exact (step_merge (s := (s1, s2)) hm hm1 (by have := HR.out.1; omega) HR.out.2.2 HT.out (by simp only; omega)).1
              · rw [max_mx]
                exact (step_merge (s := (s1, s2)) hm hm1 (by have := HR.out.1; omega) HR.out.2.2 HT.out (by simp only; omega)).2
              · exact (((show Nw w (w.ext none dr) from ⟨_, rfl⟩).setCell hg _).alloc _).ext.drew
            · go_wp2
              (refine wp_region_nw (by kernel_rfl) (by kernel_rfl) ?_; (repeat (go_big_quiet_step (fail))); refine wpQuiet_nil ?_; intro _ hreg; obtain ⟨dW, rfl⟩ : Nw _ _ := hreg)
              go_wp2
              refine ⟨⟨k + 1, m + 1, r.set m (s1, s2), by omega, by omega, by go_num, by go_num, by rw [List.length_set]; exact HR.out.1, ?_, ?_, HRB.out.set _ ⟨b1, b2, b3, b4⟩, own_nw (row_set (x := (s1, s2)) HO.out) (((Nw.refl _).alloc _).ext), ?_⟩, by simp [intOf]; omega⟩
              · rw [hstep.out, ← HR.out.2.1]
                exact (step_new hm (by have := HR.out.1; omega) HR.out.2.2 (fun t h ht => by rw [HT.out] at ht; injection ht with ht; subst ht; simp only; omega)).1
              · exact (step_new hm (by have := HR.out.1; omega) HR.out.2.2 (fun t h ht => by rw [HT.out] at ht; injection ht with ht; subst ht; simp only; omega)).2
              · exact ((((show Nw w (w.ext none dr) from ⟨_, rfl⟩).setCell hg _).setCell hg _).alloc _).ext
      · go_wp2
        go_ret2
        obtain ⟨hrl, hrt, hrd⟩ := HR.out
        have hkn : k = n := by omega
        have hdt : d.take n = d := List.take_of_length_le (by have := HDL.out; omega)
        rw [hkn, hdt, hfold.out] at hrt
        have hlen : (Nm.norm l).length = m := by rw [← hrt, List.length_take]; omega
        have hsp := row_sp hown hrl (m := m) (by omega)
        rw [hrt] at hsp
        refine ⟨some ⟨g, 0, none⟩, m, ?_, by rw [hlen]; exact hsp, (fun h => by cases h), fun _ => ⟨g, rfl, hg, fun j => hown.frozenAt j⟩, by omega, (by repeat (first | exact Xt.Nw.refl _ | refine Xt.Nw.drew ?_ | refine Xt.Nw.drewN ?_ _ | refine Xt.Nw.alloc ?_ _ | refine Xt.Nw.joined ?_ | refine Xt.Nw.drewd ?_ | refine Xt.Nw.drewdN ?_ | refine Xt.Nw.ext ?_ | refine Xt.Nw.ext_some ?_ (by assumption) | refine Xt.Nw.setCell ?_ (by simp [go_sem] <;> omega) _))⟩
        rw [hlen]
        rfl
end Go.Proofs.Ytdhinclpmmpkhaa
