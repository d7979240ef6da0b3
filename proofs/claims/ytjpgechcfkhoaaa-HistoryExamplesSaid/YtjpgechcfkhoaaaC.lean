import Derived.Test.YtjpgechcfkhoaaaB
import Derived.Deep.RegionWith
namespace Go.Proofs.Ytjpgechcfkhoaaa
open Go.RowKit Go.Xt
theorem intInfo : (Try.prog.info? 3).map (fun i => (i.zero, i.size, i.bytes)) = some (some (.int .i64 0), 1, 8) := by kernel_rfl
/-- A slice value that reads as the ints l. -/
def Is (w : World) (A : Option Addr) (n : Nat) (l : List Int) : Prop :=
  l.length = n ∧ (0 < n → ∃ b o, A = some ⟨b, o, none⟩ ∧ b < w.heap.size ∧ ∀ i x, l[i]? = some x → w.cell? ⟨b, o + i, none⟩ = some (.int .i64 x))
theorem Is.ext {w : World} {A : Option Addr} {n : Nat} {l : List Int} (h : Is w A n l) (d : World) : Is (w.ext none d) A n l :=
  ⟨h.1, fun hn => by
    obtain ⟨b, o, rfl, hb, hc⟩ := h.2 hn
    haveI : In b w := ⟨hb⟩
    exact ⟨b, o, rfl, In.lt, fun i x hi => by rw [cell_ext]; exact hc i x hi⟩⟩
theorem Is.nw {w w' : World} {A : Option Addr} {n : Nat} {l : List Int} (h : Is w A n l) (hw : Nw w w') : Is w' A n l := by
  obtain ⟨d, rfl⟩ := hw; exact h.ext d
theorem Is.get {w : World} {A : Option Addr} {n : Nat} {l : List Int} (h : Is w A n l) {i : Nat} (hi : i < n) :
    ∃ b o x, A = some ⟨b, o, none⟩ ∧ b < w.heap.size ∧ l[i]? = some x ∧ w.cell? ⟨b, o + i, none⟩ = some (.int .i64 x) := by
  obtain ⟨b, o, hA, hb, hc⟩ := h.2 (by omega)
  have hl : i < l.length := by rw [h.1]; exact hi
  exact ⟨b, o, l[i], hA, hb, List.getElem?_eq_getElem hl, hc i _ (List.getElem?_eq_getElem hl)⟩
def ints (l : List Int) : List Value := l.map fun x => Value.int .i64 x
/-- A row of the call's own that holds the ints l. -/
def OwnI (w : World) (base : Nat) (v : Value) (l : List Int) : Prop := w.ownsRow base 3 1 v l.length (ints l)
theorem OwnI.form {w : World} {base : Nat} {v : Value} {l : List Int} (h : OwnI w base v l) : ∃ A c, v = .slice A l.length c ∧ Is w A l.length l := by
  rcases h.2 with ⟨rfl, h0⟩ | ⟨g, cap, cur, rfl, hb, hg, hn, hm, hcs, ht⟩
  · exact ⟨none, 0, by rw [h0], rfl, fun hp => absurd hp (by omega)⟩
  · refine ⟨_, cap, rfl, rfl, fun _ => ⟨g, 0, rfl, (Array.getElem?_eq_some_iff.1 hg).1, fun i x hx => ?_⟩⟩
    have hi : i < l.length := (List.getElem?_eq_some_iff.1 hx).1
    have k0 := World.ownsRow.cellAt h i (by omega)
    simpa [ints, hx] using k0
theorem OwnI.cast {w : World} {base : Nat} {v : Value} {l' : List Int} {n : Nat} {xs : List Value} (h : w.ownsRow base 3 1 v n xs) (hl : l'.length = n) (hx : ints l' = xs) : OwnI w base v l' := by
  subst hl hx; exact h
def stepsL (c : Cl) : List Int := [c.inv, c.took, c.ans].filter fun x => decide (0 ≤ x)
/-- A slice of three cells just built. -/
theorem Is_three (w : World) (x y z : Int) (t : TypeId) : Is (w.alloc (.cells #[.int .i64 x, .int .i64 y, .int .i64 z] t)) (some ⟨w.heap.size, 0, none⟩) 3 [x, y, z] :=
  ⟨rfl, fun _ => ⟨_, 0, rfl, by simp, fun i u hu => by
    have hi : i < 3 := (List.getElem?_eq_some_iff.1 hu).1
    rw [World.cell?_alloc_new]
    rcases (by omega : i = 0 ∨ i = 1 ∨ i = 2) with rfl | rfl | rfl <;> (simp at hu ⊢; exact hu)⟩⟩
theorem ftake {α : Type} (p : α → Bool) {l : List α} {k : Nat} {x : α} (hx : l[k]? = some x) : (l.take (k + 1)).filter p = (l.take k).filter p ++ if p x then [x] else [] := by
  obtain ⟨p1, q1⟩ := List.getElem?_eq_some_iff.1 hx
  rw [List.take_succ_eq_append_getElem p1, List.filter_append, q1]
  by_cases h : p x = true <;> simp [h]
theorem flen {α : Type} (p : α → Bool) (l : List α) (k : Nat) : ((l.take k).filter p).length ≤ k := Nat.le_trans (List.length_filter_le _ _) (by rw [List.length_take]; omega)
theorem ints_app (l : List Int) (x : Int) : ints (l ++ [x]) = ints l ++ [.int .i64 x] := by simp [ints]
set_option maxHeartbeats 2000000 in
theorem steps_any (c : Cl) (w : World) :
    Calls Try.prog 51 #[cv c] w fun e w' => ∃ v, e = .returned v ∧ OwnI w' w.heap.size v (stepsL c) ∧ Nw w w' := by
  obtain ⟨W1, hW1⟩ : ∃ W1, W1 = ((w.alloc (.cells #[.int .i64 c.th, .int .i64 c.ix, .int .u8 c.kd, .int .u64 c.ka, .int .u64 c.kb, .int .u64 c.kc, .int .u64 c.kx, .int .u64 c.ky, .int .u64 c.kz, .int .i64 c.inv, .int .i64 c.took, .int .i64 c.ans, .int .i64 c.st, .int .i64 c.re, .bool c.rf, .int .u64 c.rk, .int .u64 c.rv, .int .i64 c.rc] 47)).alloc (.cells #[.int .i64 c.inv, .int .i64 c.took, .int .i64 c.ans] 3)) := ⟨_, rfl⟩
  have hnw : Nw w W1 := by rw [hW1]; exact (by repeat (first | exact Xt.Nw.refl _ | refine Xt.Nw.drew ?_ | refine Xt.Nw.drewN ?_ _ | refine Xt.Nw.alloc ?_ _ | refine Xt.Nw.joined ?_ | refine Xt.Nw.drewd ?_ | refine Xt.Nw.drewdN ?_ | refine Xt.Nw.ext ?_ | refine Xt.Nw.ext_some ?_ (by assumption) | refine Xt.Nw.setCell ?_ (by simp [go_sem] <;> omega) _))
  have his : Is W1 (some ⟨w.heap.size + 1, 0, none⟩) 3 [c.inv, c.took, c.ans] := by
    have h := Is_three (w.alloc (.cells #[.int .i64 c.th, .int .i64 c.ix, .int .u8 c.kd, .int .u64 c.ka, .int .u64 c.kb, .int .u64 c.kc, .int .u64 c.kx, .int .u64 c.ky, .int .u64 c.kz, .int .i64 c.inv, .int .i64 c.took, .int .i64 c.ans, .int .i64 c.st, .int .i64 c.re, .bool c.rf, .int .u64 c.rk, .int .u64 c.rv, .int .i64 c.rc] 47)) c.inv c.took c.ans 3
    rw [World.size_alloc] at h
    rw [hW1]; exact h
  have HI := Lib.hid his
  have HW := Lib.hid hW1
  have HN := Lib.hid hnw
  clear his hW1 hnw
  go_enter Try.func51, Try.ntmps51
  go_wp2
  rw [← HW.out]
  go_loopw [4, 5] (fun a i wr => ∃ k : Nat, k ≤ 3 ∧ i = .int .i64 k ∧ OwnI wr W1.heap.size a (([c.inv, c.took, c.ans].take k).filter fun x => decide (0 ≤ x)) ∧ Nw W1 wr) (fun _ i _ => 3 - (intOf i).toNat)
  case atStart => exact ⟨0, by omega, rfl, World.ownsRow_nil _ _ _ _, Nw.refl _⟩
  case round =>
    obtain ⟨k, hk, rfl, hown, d, rfl⟩ := hrel
    by_cases hlt : k < 3
    · obtain ⟨b, o, x, e1, hb, hx, hc⟩ := HI.out.get hlt
      obtain ⟨rfl, rfl⟩ : w.heap.size + 1 = b ∧ 0 = o := by simpa using e1
      haveI : In (w.heap.size + 1) W1 := ⟨hb⟩
      have hstep : Hid (([c.inv, c.took, c.ans].take (k + 1)).filter (fun x => decide (0 ≤ x)) = ([c.inv, c.took, c.ans].take k).filter (fun x => decide (0 ≤ x)) ++ if 0 ≤ x then [x] else []) := by
        show _ = _
        rw [ftake _ hx]; simp
      have hlen : (([c.inv, c.took, c.ans].take k).filter fun x => decide (0 ≤ x)).length ≤ 3 := Nat.le_trans (List.length_filter_le _ _) (by simp; omega)
      simp only [Nat.zero_add] at hc
      clear hx e1
      by_cases h0 : 0 ≤ x
      · have hd : decide (0 ≤ x) = true := by simpa using h0
        go_wp2_with (at_builtin; refine wpList_app1 rfl _ _ 30 rfl 3 (.int .i64 0) 1 8 Try.underlying30 intInfo rfl (by decide) (W1) _ (by repeat (first | exact Xt.Nw.refl _ | refine Xt.Nw.drew ?_ | refine Xt.Nw.drewN ?_ _ | refine Xt.Nw.alloc ?_ _ | refine Xt.Nw.joined ?_ | refine Xt.Nw.drewd ?_ | refine Xt.Nw.drewdN ?_ | refine Xt.Nw.ext ?_ | refine Xt.Nw.ext_some ?_ (by assumption) | refine Xt.Nw.setCell ?_ (by simp [go_sem] <;> omega) _)) _ _ _ rfl (by first | assumption | exact own_nw (by assumption) (by repeat (first | exact Xt.Nw.refl _ | refine Xt.Nw.drew ?_ | refine Xt.Nw.drewN ?_ _ | refine Xt.Nw.alloc ?_ _ | refine Xt.Nw.joined ?_ | refine Xt.Nw.drewd ?_ | refine Xt.Nw.drewdN ?_ | refine Xt.Nw.ext ?_ | refine Xt.Nw.ext_some ?_ (by assumption) | refine Xt.Nw.setCell ?_ (by simp [go_sem] <;> omega) _))) _ 1 1 _ _ rfl (by first | rfl | simp) rfl (by intro u hu; simp at hu; (repeat' rcases hu with rfl | hu) <;> first | rfl | (subst hu; rfl)) (by unfold maxLen; omega) (by omega) ?_; intro vA dA hownA)
        refine ⟨⟨k + 1, by omega, by go_num, OwnI.cast hownA (by rw [hstep.out]; simp [h0]) (by rw [hstep.out]; simp [h0, ints_app]), ⟨_, rfl⟩⟩, by simp [intOf]; omega⟩
      · have hd : decide (0 ≤ x) = false := by simpa using h0
        go_wp2
        refine ⟨⟨k + 1, by omega, by go_num, OwnI.cast hown (by rw [hstep.out]; simp [h0]) (by rw [hstep.out]; simp [h0]), ⟨_, rfl⟩⟩, by simp [intOf]; omega⟩
    · have hk3 : k = 3 := by omega
      subst hk3
      go_wp2
      have hle := HN.out.grown.size
      have hown' : OwnI (W1.ext none d) w.heap.size u4 (stepsL c) := own_le hown hle
      refine bodyPost_ret (results_tmp rfl _ _ _) rfl ⟨u4, rfl, hown', HN.out.trans ⟨_, rfl⟩⟩
/-- Whether two calls have a step in common. -/
def meetF (a b : Cl) : Bool := (stepsL a).any fun x => (stepsL b).any fun y => x == y
end Go.Proofs.Ytjpgechcfkhoaaa
