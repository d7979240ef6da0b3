import Derived.Test.YtdjcndpnjoahmaaDoorGPe
import Derived.Maps.AppendAt
set_option linter.unusedVariables false
set_option linter.unusedSimpArgs false
namespace Go.Proofs.YtdjcndpnjoahmaaDoor
open Go.RowKit Go.Xt
/-! The ordered map: what it holds in memory; slices.Insert, find, set at any pairs. -/
def Moved (w : World) (v v' : Value) : Prop := v'.ownBlock = v.ownBlock ∨ ∃ g, v'.ownBlock = some g ∧ w.heap.size ≤ g
set_option maxRecDepth 20000 in
set_option maxHeartbeats 4000000 in
theorem insert_last (v : Value) (n : Nat) (l : List (Int × Int)) (gv : Nat) (k x : Int) (w : World) (hown : w.ownsRow 0 85 2 v n (pcells l)) (hn : n ≤ 1000000)
    (h0 : w.cell? ⟨gv, 0, none⟩ = some (.int .u64 k)) (h1 : w.cell? ⟨gv, 1, none⟩ = some (.int .u64 x)) :
    Calls Tryd.prog 85 #[v, .int .i64 n, .slice (some ⟨gv, 0, none⟩) 1 1] w fun e w' => ∃ v', e = .returned v' ∧ w'.ownsRow 0 85 2 v' (n + 1) (pcells (l ++ [(k, x)])) ∧ w.grownBy w' v.ownBlock ∧ Moved w v v' := by
  haveI : In gv w := ⟨World.block_lt_of_cell? w _ h0⟩
  have HO := Lib.hid hown
  obtain ⟨i, hi1, hz0, hz1, hz2⟩ := info_parts pairInfo
  have HI := Lib.hid (⟨hi1, hz0, hz1, hz2⟩ : _ ∧ _ ∧ _ ∧ _)
  clear hi1 hz0 hz1 hz2
  have hnews : ∀ j u, [Value.int .u64 k, Value.int .u64 x][j]? = some u → w.cell? ((⟨gv, 0, none⟩ : Addr).add j) = some u := by
    intro j u hu
    have hadd : (⟨gv, 0, none⟩ : Addr).add j = ⟨gv, j, none⟩ := by unfold Addr.add; split <;> simp_all
    rw [hadd]
    match j, hu with
    | 0, hu => simp at hu; subst hu; exact h0
    | 1, hu => simp at hu; subst hu; exact h1
    | j + 2, hu => simp at hu
  have HN := Lib.hid hnews
  clear hnews
  have fin : ∀ (w' : World) (v' : Value), w'.ownsRow 0 85 2 v' (n + 1) (pcells l ++ [.int .u64 k, .int .u64 x]) → w'.ownsRow 0 85 2 v' (n + 1) (pcells (l ++ [(k, x)])) := fun w' v' h => by rw [pcells_app]; exact h
  have FIN := Lib.hid fin
  have mvd : ∀ (v' : Value), (v'.ownBlock = v.ownBlock ∨ v'.ownBlock = some w.heap.size) → Moved w v v' := fun v' h => h.imp id fun h => ⟨_, h, Nat.le_refl _⟩
  have MVD := Lib.hid mvd
  clear fin mvd
  rcases own_forms hown with ⟨rfl, rfl⟩ | ⟨g, c, rfl, hg, hin, hc1, hc2⟩
  · clear hown
    go_enter Tryd.func85, Tryd.ntmps85
    go_wp2_with (at_builtin; refine wpList_append_own_at w rfl _ _ 40 rfl 0 85 i (.agg #[.int .u64 0, .int .u64 0]) 2 16 Tryd.underlying40 HI.out.1 HI.out.2.1 HI.out.2.2.1 HI.out.2.2.2 rfl (by decide) _ 0 _ rfl HO.out ⟨gv, 0, none⟩ 1 1 [.int .u64 k, .int .u64 x] rfl rfl HN.out (by intro u hu; simp at hu; rcases hu with rfl | rfl <;> rfl) (by unfold maxLen; omega) (by omega) (Nat.zero_le _) ?_; intro vA wA hownA hgrA _ hmvA)
    exact bodyPost_ret (results_tmp rfl _ _ _) rfl ⟨vA, rfl, FIN.out _ _ hownA, hgrA, MVD.out _ hmvA⟩
  · have c1 : (n : Int) ≤ (c : Int) := by omega
    clear hown
    go_enter Tryd.func85, Tryd.ntmps85
    go_wp2_with (at_builtin; refine wpList_append_own_at w rfl _ _ 40 rfl 0 85 i (.agg #[.int .u64 0, .int .u64 0]) 2 16 Tryd.underlying40 HI.out.1 HI.out.2.1 HI.out.2.2.1 HI.out.2.2.2 rfl (by decide) _ n _ rfl HO.out ⟨gv, 0, none⟩ 1 1 [.int .u64 k, .int .u64 x] rfl rfl HN.out (by intro u hu; simp at hu; rcases hu with rfl | rfl <;> rfl) (by unfold maxLen; omega) (by omega) (Nat.zero_le _) ?_; intro vA wA hownA hgrA _ hmvA)
    all_goals exact bodyPost_ret (results_tmp rfl _ _ _) rfl ⟨vA, rfl, FIN.out _ _ hownA, hgrA, MVD.out _ hmvA⟩
theorem insM_end (l : List (Int × Int)) (y : Int × Int) : insM l l.length y = l ++ [y] := by simp [insM]
theorem insert_any (v : Value) (n : Nat) (l : List (Int × Int)) (P gv : Nat) (k x : Int) (w : World) (hown : w.ownsRow 0 85 2 v n (pcells l)) (hl : l.length = n) (hP : P ≤ n) (hn : n ≤ 1000000)
    (h0 : w.cell? ⟨gv, 0, none⟩ = some (.int .u64 k)) (h1 : w.cell? ⟨gv, 1, none⟩ = some (.int .u64 x)) (hne : v.ownBlock ≠ some gv) (tA : TypeId) (kA : Nat) (hsv : w.shape? gv = some (tA, kA)) (hfv : ∀ o, w.frozen? ⟨gv, o, none⟩ = false) :
    Calls Tryd.prog 85 #[v, .int .i64 P, .slice (some ⟨gv, 0, none⟩) 1 1] w fun e w' => ∃ v', e = .returned v' ∧ w'.ownsRow 0 85 2 v' (n + 1) (pcells (insM l P (k, x))) ∧ w.grownBy w' v.ownBlock ∧ Moved w v v' := by
  by_cases h : P = n
  · subst h
    rw [← hl, insM_end, hl]
    exact insert_last v P l gv k x w hown hn h0 h1
  · rcases own_forms hown with ⟨rfl, rfl⟩ | ⟨g, c, rfl, hg, hin, hc1, hc2⟩
    · omega
    · by_cases hc : n + 1 ≤ c
      · refine (insert_mid 0 g n c l P gv k x w hown hl (by omega) hc hn h0 h1 (fun e => hne (by rw [e]; rfl)) tA kA hsv hfv).mono ?_
        rintro e w' ⟨rfl, ho, hg⟩
        exact ⟨_, rfl, ho, hg, .inl rfl⟩
      · obtain rfl : n = c := by omega
        refine (insert_grow 0 g n l P gv k x w hown (Nat.zero_le _) hl (by omega) hn h0 h1).mono ?_
        rintro e w' ⟨v', rfl, ho, hnw, hmv⟩
        exact ⟨_, rfl, ho, grown_weak hnw.grown _, .inr hmv⟩
end Go.Proofs.YtdjcndpnjoahmaaDoor
namespace Go.Proofs.YtdjcndpnjoahmaaDoor
open Go.RowKit Go.Xt
/-! The ordered map, plain. -/
/-- A pair put. -/
def putL (k x : Int) : List (Int × Int) → List (Int × Int)
  | [] => [(k, x)]
  | y :: r => if y.1 < k then y :: putL k x r else if y.1 = k then (k, x) :: r else (k, x) :: y :: r
/-- A key's value. -/
def getL (k : Int) : List (Int × Int) → Option Int
  | [] => none
  | y :: r => if y.1 < k then getL k r else if y.1 = k then some y.2 else none
theorem hasK_cons (k : Int) (y : Int × Int) (r : List (Int × Int)) : hasK k (y :: r) = if y.1 < k then hasK k r else decide (y.1 = k) := by
  unfold hasK
  rw [pos]
  by_cases h : y.1 < k
  · rw [if_pos h, if_pos h]; rfl
  · rw [if_neg h, if_neg h]; rfl
theorem hasK_get (k : Int) : ∀ l, hasK k l = (getL k l).isSome
  | [] => rfl
  | y :: r => by
    rw [hasK_cons, getL]
    split
    · exact hasK_get k r
    · split <;> simp_all
theorem get_at (k : Int) : ∀ (l : List (Int × Int)) (x : Int), getL k l = some x → l[pos k l]? = some (k, x)
  | [], x, h => by cases h
  | y :: r, x, h => by
    rw [getL] at h
    rw [pos]
    split at h
    · rename_i hy; rw [if_pos hy]; exact get_at k r x h
    · rename_i hy
      rw [if_neg hy]
      split at h
      · rename_i he; cases h; subst he; rfl
      · cases h
theorem put_had (k x : Int) : ∀ l, hasK k l = true → l.set (pos k l) (k, x) = putL k x l
  | [], h => by cases h
  | y :: r, h => by
    rw [hasK_cons] at h
    rw [pos, putL]
    split
    · rename_i hy; rw [if_pos hy] at h; simp [put_had k x r h]
    · rename_i hy; rw [if_neg hy] at h; simp at h; rw [if_pos h]; rfl
theorem put_new (k x : Int) : ∀ l, hasK k l = false → insM l (pos k l) (k, x) = putL k x l
  | [], h => rfl
  | y :: r, h => by
    rw [hasK_cons] at h
    rw [pos, putL]
    split
    · rename_i hy; rw [if_pos hy] at h; rw [← put_new k x r h]; rfl
    · rename_i hy; rw [if_neg hy] at h; simp at h; rw [if_neg h]; rfl
theorem put_mem {k x : Int} {z : Int × Int} : ∀ {l}, z ∈ putL k x l → z ∈ l ∨ z = (k, x)
  | [], h => by simp [putL] at h; exact .inr h
  | y :: r, h => by
    rw [putL] at h
    split at h
    · rcases List.mem_cons.1 h with rfl | h
      · simp
      · rcases put_mem h with h | h <;> simp [h]
    · split at h
      · rcases List.mem_cons.1 h with rfl | h <;> simp_all
      · rcases List.mem_cons.1 h with rfl | h <;> simp_all
theorem put_asc (k x : Int) : ∀ {l}, asc l → asc (putL k x l)
  | [], _ => by simp [putL, asc]
  | y :: r, h => by
    have h2 := List.pairwise_cons.1 h
    rw [putL]
    split
    · rename_i hy
      refine List.pairwise_cons.2 ⟨fun z hz => ?_, put_asc k x h2.2⟩
      rcases put_mem hz with h | rfl
      · exact h2.1 _ h
      · exact hy
    · split
      · rename_i he
        exact List.pairwise_cons.2 ⟨fun z hz => by rw [← he]; exact h2.1 _ hz, h2.2⟩
      · exact List.pairwise_cons.2 ⟨fun z hz => by
          rcases List.mem_cons.1 hz with rfl | h
          · show k < _; omega
          · have := h2.1 _ h; show k < _; omega, h⟩
theorem put_len (k x : Int) : ∀ l, (putL k x l).length = if hasK k l then l.length else l.length + 1
  | [] => rfl
  | y :: r => by
    rw [putL, hasK_cons]
    split
    · rw [List.length_cons, put_len k x r]; split <;> simp
    · split <;> simp_all
theorem put_le (k x : Int) (l : List (Int × Int)) : (putL k x l).length ≤ l.length + 1 := by rw [put_len]; split <;> omega
/-- A key taken out. -/
def delL (k : Int) : List (Int × Int) → List (Int × Int)
  | [] => []
  | y :: r => if y.1 < k then y :: delL k r else if y.1 = k then r else y :: r
theorem del_had (k : Int) : ∀ l, hasK k l = true → l.take (pos k l) ++ l.drop (pos k l + 1) = delL k l
  | [], h => by cases h
  | y :: r, h => by
    rw [hasK_cons] at h
    rw [pos, delL]
    split
    · rename_i hy; rw [if_pos hy] at h; rw [← del_had k r h]; rfl
    · rename_i hy; rw [if_neg hy] at h; simp at h; rw [if_pos h]; rfl
theorem del_not (k : Int) : ∀ l, hasK k l = false → delL k l = l
  | [], h => rfl
  | y :: r, h => by
    rw [hasK_cons] at h
    rw [delL]
    split
    · rename_i hy; rw [if_pos hy] at h; rw [del_not k r h]
    · rename_i hy; rw [if_neg hy] at h; simp at h; rw [if_neg h]
theorem asc_sub {l m : List (Int × Int)} (h : asc l) (hs : m.Sublist l) : asc m := List.Pairwise.sublist hs h
theorem del_sub (k : Int) : ∀ l, (delL k l).Sublist l
  | [] => .slnil
  | y :: r => by
    rw [delL]
    split
    · exact (del_sub k r).cons_cons _
    · split
      · exact List.sublist_cons_self _ _
      · exact List.Sublist.refl _
/-- Where the keys of a range end. -/
def posTo (k : Int) (l : List (Int × Int)) : Nat := if hasK k l then pos k l + 1 else pos k l
/-- The pairs of a range. -/
def inR (lo hi : Int) (l : List (Int × Int)) : List (Int × Int) := l.filter fun x => decide (lo ≤ x.1) && decide (x.1 ≤ hi)
def outR (lo hi : Int) (l : List (Int × Int)) : List (Int × Int) := l.filter fun x => !(decide (lo ≤ x.1) && decide (x.1 ≤ hi))
theorem posTo_cons (k : Int) (y : Int × Int) (r : List (Int × Int)) : posTo k (y :: r) = if y.1 < k then posTo k r + 1 else if y.1 = k then 1 else 0 := by
  unfold posTo
  rw [hasK_cons, pos]
  by_cases h : y.1 < k
  · simp only [h, if_true]; split <;> rfl
  · by_cases h2 : y.1 = k
    · simp [h, h2]
    · simp [h, h2]
theorem none_above {k : Int} {l : List (Int × Int)} (h : ∀ z ∈ l, k < z.1) (lo : Int) : inR lo k l = [] ∧ outR lo k l = l := by
  constructor
  · exact List.filter_eq_nil_iff.2 fun z hz => by have := h z hz; simp; omega
  · exact List.filter_eq_self.2 fun z hz => by have := h z hz; simp; omega
theorem pos_le_to {lo hi : Int} (hlh : lo ≤ hi) : ∀ {l}, asc l → pos lo l ≤ posTo hi l
  | [], _ => Nat.le_refl _
  | y :: r, h => by
    have h2 := List.pairwise_cons.1 h
    rw [pos, posTo_cons]
    split
    · rename_i h1
      have h3 := pos_le_to hlh h2.2
      split
      · omega
      · omega
    · exact Nat.zero_le _
theorem posTo_le (k : Int) (l : List (Int × Int)) : posTo k l ≤ l.length := by
  unfold posTo
  split
  · rename_i h
    unfold hasK at h
    split at h
    · rename_i x hx
      have := (List.getElem?_eq_some_iff.1 hx).1
      omega
    · cases h
  · exact pos_le _ _
/-- What lies before, in and after a range. -/
theorem split_range {lo hi : Int} (hlh : lo ≤ hi) : ∀ {l}, asc l → (l.take (posTo hi l)).drop (pos lo l) = inR lo hi l ∧ l.take (pos lo l) ++ l.drop (posTo hi l) = outR lo hi l
  | [], _ => ⟨rfl, rfl⟩
  | y :: r, h => by
    have h2 := List.pairwise_cons.1 h
    have ih := split_range hlh h2.2
    rw [pos, posTo_cons]
    by_cases h1 : y.1 < lo
    · have e1 : y.1 < hi := by omega
      have e2 : inR lo hi (y :: r) = inR lo hi r := by rw [inR, List.filter_cons_of_neg (by simp; omega)]; rfl
      have e3 : outR lo hi (y :: r) = y :: outR lo hi r := by rw [outR, List.filter_cons_of_pos (by simp; omega)]; rfl
      rw [if_pos h1, if_pos e1, e2, e3, ← ih.1, ← ih.2]
      exact ⟨rfl, rfl⟩
    · rw [if_neg h1]
      by_cases e1 : y.1 < hi
      · have e2 : inR lo hi (y :: r) = y :: inR lo hi r := by rw [inR, List.filter_cons_of_pos (by simp; omega)]; rfl
        have e3 : outR lo hi (y :: r) = outR lo hi r := by rw [outR, List.filter_cons_of_neg (by simp; omega)]; rfl
        have e4 : pos lo r = 0 := by
          cases r with
          | nil => rfl
          | cons z q => have := h2.1 z (by simp); rw [pos, if_neg (by omega)]
        rw [e4] at ih
        rw [if_pos e1, e2, e3, ← ih.1, ← ih.2]
        exact ⟨rfl, rfl⟩
      · rw [if_neg e1]
        by_cases e5 : y.1 = hi
        · have e6 := none_above (k := hi) (l := r) (fun z hz => by have := h2.1 z hz; omega) lo
          have e2 : inR lo hi (y :: r) = y :: inR lo hi r := by rw [inR, List.filter_cons_of_pos (by simp; omega)]; rfl
          have e3 : outR lo hi (y :: r) = outR lo hi r := by rw [outR, List.filter_cons_of_neg (by simp; omega)]; rfl
          rw [if_pos e5, e2, e3, e6.1, e6.2]
          exact ⟨rfl, rfl⟩
        · have e6 := none_above (k := hi) (l := y :: r) (fun z hz => by
            rcases List.mem_cons.1 hz with rfl | hz
            · omega
            · have := h2.1 z hz; omega) lo
          rw [if_neg e5, e6.1, e6.2]
          exact ⟨rfl, rfl⟩
end Go.Proofs.YtdjcndpnjoahmaaDoor
namespace Go.Proofs.YtdjcndpnjoahmaaDoor
open Go.RowKit Go.Xt
/-! The ordered map in memory; find, set. -/
/-- The map at block gp, whose slice is v, holds the pairs l. -/
structure OM (W : World) (gp : Nat) (v : Value) (l : List (Int × Int)) : Prop where
  p0 : W.cell? ⟨gp, 0, none⟩ = some v
  row : W.ownsRow 0 85 2 v l.length (pcells l)
  ne : v.ownBlock ≠ some gp
  pz : W.frozen? ⟨gp, 0, none⟩ = false
  asc : asc l
theorem own_chg {base : Nat} {e : TypeId} {size n : Nat} {v : Value} {xs : List Value} {W W' : World} {X : List Nat} (h : W.ownsRow base e size v n xs) (hc : Chg X W W') (hx : ∀ g, v.ownBlock = some g → g ∉ X) : W'.ownsRow base e size v n xs := by
  refine ⟨h.1, ?_⟩
  rcases h.2 with ⟨h1, h2⟩ | ⟨g, cap, cur, h1, h2, h3, h4⟩
  · exact .inl ⟨h1, h2⟩
  · refine .inr ⟨g, cap, cur, h1, h2, ?_, h4⟩
    rw [← h3]
    exact hc.block g (Array.getElem?_eq_some_iff.1 h3).1 (hx g (by rw [h1]; rfl))
theorem OM.chg {W W' : World} {gp : Nat} {v : Value} {l : List (Int × Int)} {X : List Nat} (h : OM W gp v l) (hc : Chg X W W') (h1 : gp ∉ X) (h2 : ∀ g, v.ownBlock = some g → g ∉ X) : OM W' gp v l :=
  ⟨hc.cell h.p0 h1, own_chg h.row hc h2, h.ne, (hc.frozen (World.block_lt_of_cell? W _ h.p0) h1).trans h.pz, h.asc⟩
theorem OM.nw {W W' : World} {gp : Nat} {v : Value} {l : List (Int × Int)} (h : OM W gp v l) (hn : Nw W W') : OM W' gp v l := h.chg (Chg.of_nw hn : Chg [] W W') (by simp) (by simp)
theorem OM.lt {W : World} {gp : Nat} {v : Value} {l : List (Int × Int)} (h : OM W gp v l) : gp < W.heap.size := World.block_lt_of_cell? W _ h.p0
theorem OM.rlt {W : World} {gp : Nat} {v : Value} {l : List (Int × Int)} (h : OM W gp v l) {g : Nat} (hg : v.ownBlock = some g) : g < W.heap.size := by
  rcases own_forms h.row with ⟨rfl, _⟩ | ⟨g', c, rfl, _, hin, _, _⟩
  · cases hg
  · cases hg; exact hin.lt
theorem OM.form {W : World} {gp : Nat} {v : Value} {l : List (Int × Int)} (h : OM W gp v l) : (v = .slice none 0 0 ∧ l = []) ∨ ∃ g c, v = .slice (some ⟨g, 0, none⟩) l.length c ∧ l.length ≤ c ∧ c ≤ maxLen ∧ In g W := by
  rcases own_forms h.row with ⟨h1, h2⟩ | ⟨g, c, h1, _, h3, h4, h5⟩
  · exact .inl ⟨h1, List.length_eq_zero_iff.1 h2⟩
  · exact .inr ⟨g, c, h1, h4, h5, h3⟩
theorem OM.pat {W : World} {gp g c : Nat} {l : List (Int × Int)} (h : OM W gp (.slice (some ⟨g, 0, none⟩) l.length c) l) : PAt W gp g l.length c l :=
  ⟨h.p0, rfl, fun i x hx => by
    have hi := (List.getElem?_eq_some_iff.1 hx).1
    have := pcells_get l i x hx
    rw [h.row.cellAt _ (by omega), h.row.cellAt _ (by omega)]
    exact this⟩
set_option maxRecDepth 20000 in
set_option maxHeartbeats 4000000 in
theorem find_nil (gp : Nat) (k : Int) (w : World) (h : w.cell? ⟨gp, 0, none⟩ = some (.slice none 0 0)) :
    Calls Tryd.prog 63 #[.pointer (some ⟨gp, 0, none⟩), .int .u64 k] w fun e w' => e = .returned (.tuple #[.int .i64 0, .bool false]) ∧ Nw w w' := by
  haveI : In gp w := ⟨World.block_lt_of_cell? w _ h⟩
  go_enter Tryd.func63, Tryd.ntmps63
  go_wp2_with fail
  refine (search_0 _ _).mono ?_
  rintro e w' ⟨rfl, dW, rfl⟩
  go_wp2_with fail
  (refine wp_region_nw (by kernel_rfl) (by kernel_rfl) ?_; (repeat (go_big_quiet_step (fail))); refine wpQuiet_nil ?_; intro _ hreg; obtain ⟨dW, rfl⟩ : Nw _ _ := hreg)
  go_wp2
  exact bodyPost_ret (results_tmp2 rfl _ _ _) rfl ⟨rfl, (by repeat (first | exact Xt.Nw.refl _ | refine Xt.Nw.drew ?_ | refine Xt.Nw.drewN ?_ _ | refine Xt.Nw.alloc ?_ _ | refine Xt.Nw.joined ?_ | refine Xt.Nw.drewd ?_ | refine Xt.Nw.drewdN ?_ | refine Xt.Nw.ext ?_ | refine Xt.Nw.ext_some ?_ (by assumption) | refine Xt.Nw.setCell ?_ (by simp [go_sem] <;> omega) _))⟩
theorem find_om {w : World} {gp : Nat} {v : Value} {l : List (Int × Int)} (h : OM w gp v l) (hn : l.length ≤ 1000000) (k : Int) :
    Calls Tryd.prog 63 #[.pointer (some ⟨gp, 0, none⟩), .int .u64 k] w fun e w' => e = .returned (.tuple #[.int .i64 (pos k l), .bool (hasK k l)]) ∧ Nw w w' := by
  rcases h.form with ⟨rfl, rfl⟩ | ⟨g, c, rfl, -, -, -⟩
  · exact find_nil gp k w h.p0
  · exact find_any gp g l.length c l k w h.pat h.asc hn
theorem pcells_set : ∀ (l : List (Int × Int)) (i : Nat) (k x : Int) (y : Int × Int), l[i]? = some y → y.1 = k → (pcells l).set (i * 2 + 1) (.int .u64 x) = pcells (l.set i (k, x))
  | [], i, k, x, y, h, _ => by simp at h
  | z :: r, 0, k, x, y, h, e => by simp at h; subst h; subst e; rfl
  | z :: r, i + 1, k, x, y, h, e => by
    have h2 := pcells_set r i k x y (by simpa using h) e
    show (.int .u64 z.1 :: .int .u64 z.2 :: pcells r).set ((i + 1) * 2 + 1) _ = .int .u64 z.1 :: .int .u64 z.2 :: pcells (r.set i (k, x))
    rw [show (i + 1) * 2 + 1 = (i * 2 + 1) + 1 + 1 by omega, List.set_cons_succ, List.set_cons_succ, h2]
/-- The blocks of a map. -/
def foot (gp : Nat) (v : Value) : List Nat := gp :: v.ownBlock.toList
theorem mem_foot {gp g : Nat} {v : Value} : g ∈ foot gp v ↔ g = gp ∨ v.ownBlock = some g := by
  simp [foot, Option.mem_toList]
theorem Chg.then {X Y : List Nat} {a b c : World} (h : Chg X a b) (k : Chg Y b c) (hs : ∀ y ∈ Y, y ∈ X ∨ a.heap.size ≤ y) : Chg X a c :=
  ⟨k.os.trans h.os, k.tape.trans h.tape, k.output.trans h.output, Nat.le_trans h.size k.size, fun j hj hx => (k.block j (Nat.lt_of_lt_of_le hj h.size) (fun hy => (hs j hy).elim hx (fun h => by omega))).trans (h.block j hj hx)⟩
theorem Chg.wide {X Y : List Nat} {a b : World} (h : Chg X a b) (hs : ∀ k ∈ X, k ∈ Y) : Chg Y a b := ⟨h.os, h.tape, h.output, h.size, fun k hk hx => h.block k hk fun e => hx (hs k e)⟩
theorem Chg.of_grownBy {w w' : World} {r : Option Nat} (h : w.grownBy w' r) : Chg r.toList w w' := ⟨h.os, h.tape, h.output, h.size, fun k hk hx => h.block k hk (fun e => hx (by rw [Option.mem_toList]; exact e.symm))⟩
theorem grownBy.of_chg {w w' : World} {r : Option Nat} (h : Chg r.toList w w') : w.grownBy w' r := ⟨h.os, h.tape, h.output, h.size, fun k hk hx => h.block k hk (fun e => hx (by rw [Option.mem_toList] at e; exact e.symm))⟩
set_option maxRecDepth 20000 in
set_option maxHeartbeats 4000000 in
theorem set_had (w : World) (gp g c : Nat) (l : List (Int × Int)) (k x : Int) (h : OM w gp (.slice (some ⟨g, 0, none⟩) l.length c) l) (hn : l.length ≤ 1000000) (hh : hasK k l = true) :
    Calls Tryd.prog 64 #[.pointer (some ⟨gp, 0, none⟩), .int .u64 k, .int .u64 x] w fun e w' => e = .returned (.tuple #[]) ∧ OM w' gp (.slice (some ⟨g, 0, none⟩) l.length c) (putL k x l) ∧ Chg [g] w w' := by
  obtain ⟨z, hz⟩ : ∃ z, getL k l = some z := by rw [hasK_get] at hh; exact Option.isSome_iff_exists.1 hh
  have hat := get_at k l z hz
  have hP := (List.getElem?_eq_some_iff.1 hat).1
  have c1 := (h.pat.at' _ _ hat).2
  have hf : w.frozen? ⟨g, pos k l * 2 + 1, none⟩ = false := h.row.frozenAt _
  have p0 := h.p0
  haveI : In gp w := ⟨h.lt⟩
  haveI : In g w := ⟨World.block_lt_of_cell? w _ c1⟩
  have HF := Lib.hid (find_om h hn k)
  have HH := Lib.hid h
  have HP := Lib.hid (pcells_set l (pos k l) k x _ hat rfl)
  have HS := Lib.hid (put_had k x l hh)
  rw [hh] at HF
  obtain ⟨P, hPe⟩ : ∃ P, P = pos k l := ⟨_, rfl⟩
  rw [← hPe] at HF HP HS hP c1 hf
  obtain ⟨n, hne⟩ : ∃ n, n = l.length := ⟨_, rfl⟩
  rw [← hne] at hP p0 HH ⊢
  have q1 : (P : Int) < (n : Int) := by omega
  have q0 : (0 : Int) ≤ (P : Int) := by omega
  have HN := Lib.hid hne
  clear h hz hat hPe hne
  go_enter Tryd.func64, Tryd.ntmps64
  go_wp2_with fail
  refine HF.out.mono ?_
  rintro e W2 ⟨rfl, hn2⟩
  have h2 := HH.out.nw hn2
  have hrow := h2.row
  rw [← HN.out] at hrow
  have q2 := cell_nw p0 hn2
  have q3 := cell_nw c1 hn2
  have q4 : W2.frozen? ⟨g, P * 2 + 1, none⟩ = false := hrow.frozenAt _
  haveI : In gp W2 := ⟨h2.lt⟩
  haveI : In g W2 := ⟨World.block_lt_of_cell? W2 _ q3⟩
  have H2 := Lib.hid h2
  have HR := Lib.hid hrow
  have HN2 := Lib.hid hn2
  clear h2 hrow hn2
  go_wp2
  have hne2 : g ≠ gp := fun e => HH.out.ne (by rw [e]; rfl)
  have hst := HR.out.stored (P * 2 + 1) (.int .u64 x)
  have hch : Chg [g] W2 (W2.setCell ⟨g, P * 2 + 1, none⟩ (.int .u64 x)) := Chg.set1 _ _ _ _
  have hgp : gp ∉ [g] := by simp; omega
  refine bodyPost_ret (results_none rfl _ _ _) rfl ⟨rfl, ⟨hch.cell H2.out.p0 hgp, ?_, H2.out.ne, (hch.frozen H2.out.lt hgp).trans H2.out.pz, put_asc k x H2.out.asc⟩, (Chg.of_nw HN2.out).trans hch⟩
  have e1 : (putL k x l).length = l.length := by rw [put_len, hh, if_pos rfl]
  rw [e1, ← HN.out, ← HS.out, ← HP.out]
  exact hst.1
set_option maxRecDepth 20000 in
set_option maxHeartbeats 4000000 in
theorem set_new (w : World) (gp : Nat) (v : Value) (l : List (Int × Int)) (k x : Int) (h : OM w gp v l) (hn : l.length ≤ 1000000) (hh : hasK k l = false) :
    Calls Tryd.prog 64 #[.pointer (some ⟨gp, 0, none⟩), .int .u64 k, .int .u64 x] w fun e w' => e = .returned (.tuple #[]) ∧ ∃ v', OM w' gp v' (putL k x l) ∧ Chg (foot gp v) w w' ∧ Moved w v v' := by
  have p0 := h.p0
  haveI : In gp w := ⟨h.lt⟩
  have HF := Lib.hid (find_om h hn k)
  have HH := Lib.hid h
  have HS := Lib.hid (put_new k x l hh)
  rw [hh] at HF
  have HPL := Lib.hid (pos_le k l)
  clear h
  go_enter Tryd.func64, Tryd.ntmps64
  go_wp2_with fail
  refine HF.out.mono ?_
  rintro e w' ⟨rfl, dW, rfl⟩
  have h2 := HH.out.nw (⟨dW, rfl⟩ : Nw w (w.ext none dW))
  have H2 := Lib.hid h2
  clear h2
  go_wp2_with fail
  have hnA : Nw (w.ext none dW) ((w.ext none dW).alloc (.cells #[.int .u64 k, .int .u64 x] 85)) := (Nw.refl _).alloc _
  refine (insert_any v l.length l (pos k l) _ k x _ (H2.out.nw hnA).row rfl HPL.out hn (by simp [go_sem]) (by simp [go_sem]) (fun e => by have := H2.out.rlt e; omega) 85 2 (by unfold World.shape?; rw [heap_alloc_new]; rfl) (by simp [go_sem])).mono ?_
  rintro e W3 ⟨vN, rfl, hown, hgr, hmv⟩
  obtain ⟨gN, cN, hvN⟩ : ∃ gN cN, vN = .slice (some ⟨gN, 0, none⟩) (l.length + 1) cN := by
    rcases own_forms hown with ⟨_, h0⟩ | ⟨gl, cap, hv, _, _, _, _⟩
    · omega
    · exact ⟨gl, cap, hv⟩
  subst hvN
  have hc3 := (Chg.of_nw hnA).then (X := v.ownBlock.toList) (Chg.of_grownBy hgr) (fun y hy => .inl hy)
  have hgpx : gp ∉ v.ownBlock.toList := by rw [Option.mem_toList]; exact H2.out.ne
  have p3 := hc3.cell H2.out.p0 hgpx
  have z3 := (hc3.frozen H2.out.lt hgpx).trans H2.out.pz
  have HC3 := Lib.hid hc3
  have HMV := Lib.hid hmv
  have HOW := Lib.hid hown
  have hsz : (w.ext none dW).heap.size ≤ ((w.ext none dW).alloc (.cells #[.int .u64 k, .int .u64 x] 85)).heap.size := by simp
  have HSZ := Lib.hid hsz
  clear hc3 hmv hown hgr hgpx hnA hsz
  go_wp2
  have hs1 := Chg.set1 W3 gp 0 (.slice (some ⟨gN, 0, none⟩) (l.length + 1) cN)
  have hs0 := le_size w none dW
  have hs2 := HSZ.out
  have hne' : (Value.slice (some ⟨gN, 0, none⟩) (l.length + 1) cN).ownBlock ≠ some gp := by
    rcases HMV.out with e | ⟨q, e, hq⟩
    · rw [e]; exact H2.out.ne
    · rw [e]; intro he; cases he; have := HH.out.lt; omega
  go_end0
  refine ⟨rfl, _, ⟨World.cell?_setCell_same _ _ _ p3, ?_, hne', by rw [World.frozen?_setCell]; exact z3, put_asc k x H2.out.asc⟩, ?_, ?_⟩
  · have e1 : (putL k x l).length = l.length + 1 := by rw [put_len, hh]; rfl
    rw [e1, ← HS.out]
    exact own_chg HOW.out hs1 (fun g hg hx => by simp at hx; subst hx; exact hne' hg)
  · exact (((Chg.of_nw (⟨dW, rfl⟩ : Nw w (w.ext none dW))).then (X := v.ownBlock.toList) HC3.out (fun y hy => .inl hy)).wide (Y := foot gp v) (fun y hy => by rw [mem_foot]; exact .inr (by simpa using hy))).then hs1 (fun y hy => by simp at hy; subst hy; exact .inl (mem_foot.2 (.inl rfl)))
  · rcases HMV.out with e | ⟨q, e, hq⟩
    · exact .inl e
    · exact .inr ⟨q, e, by omega⟩
/-- set: the key has the value. -/
theorem set_any (w : World) (gp : Nat) (v : Value) (l : List (Int × Int)) (k x : Int) (h : OM w gp v l) (hn : l.length ≤ 1000000) :
    Calls Tryd.prog 64 #[.pointer (some ⟨gp, 0, none⟩), .int .u64 k, .int .u64 x] w fun e w' => e = .returned (.tuple #[]) ∧ ∃ v', OM w' gp v' (putL k x l) ∧ Chg (foot gp v) w w' ∧ Moved w v v' := by
  cases hh : hasK k l with
  | true =>
    rcases h.form with ⟨rfl, rfl⟩ | ⟨g, c, rfl, -, -, -⟩
    · cases hh
    · refine (set_had w gp g c l k x h hn hh).mono ?_
      rintro e w' ⟨rfl, ho, hc⟩
      exact ⟨rfl, _, ho, hc.wide (fun y hy => by simp at hy; subst hy; exact mem_foot.2 (.inr rfl)), .inl rfl⟩
  | false => exact set_new w gp v l k x h hn hh
end Go.Proofs.YtdjcndpnjoahmaaDoor
namespace Go.Proofs.YtdjcndpnjoahmaaDoor
open Go.RowKit Go.Xt
/-! slices.Delete, slices.Clone at any pairs. -/
theorem step_app_eq {Q0 : Program} {ops : Array Oper} {o : Oper} {a : Act} {w : World} {K : Act → World → Prop} {Q : Exit → Act → World → Prop} {E : Prop}
    (hg : o.guard = none) (d x : Operand) (dT sT : TypeId) (hop : o.op = Op.call { callee := Callee.builtin Builtin.append, args := #[d, x], argTypes := #[dT, sT] })
    (v u : Value) (hd : a.eval d = v) (hx : a.eval x = u) {v' : Value} {w' : World} (hr : (Builtin.append_ #[dT, sT] o.type #[v, u]).run Q0 w = .ok v' w') (hK : K (a.put o.dst v') w') :
    if Region.wanted o (yielded ops a.tmps) = true then Oper.wp Q0 o a w K Q else E := by
  have hw : Region.wanted o (yielded ops a.tmps) = true := by simp [Region.wanted, hg]
  rw [if_pos hw]
  unfold Oper.wp
  simp [execOp, hop, resolve, invoke, builtin, hd, hx, hr, Result.andThen]
  exact hK
theorem clear_any (b o m c : Nat) (w : World) (hc : ∀ j, j < m * 2 → (w.cell? ⟨b, o + j, none⟩).isSome = true) (hf : ∀ j, j < m * 2 → w.frozen? ⟨b, o + j, none⟩ = false) (ty : TypeId) :
    (Builtin.clear_ #[40] ty #[.slice (some ⟨b, o, none⟩) m c]).run Tryd.prog w = .ok (.tuple #[]) (w.setCells b o (Builtin.zeroCells (Value.agg #[.int .u64 0, .int .u64 0]).cells m).toList) := by
  have hv : ∀ w, (zeroValue 85).run Tryd.prog w = .ok (.agg #[.int .u64 0, .int .u64 0]) w := fun w => by kernel_rfl
  have hl : (Builtin.zeroCells (Value.agg #[.int .u64 0, .int .u64 0]).cells m).toList.length = m * 2 := by
    rw [Array.length_toList, size_zeroCells]; rfl
  have hone : ∀ v ∈ (Builtin.zeroCells (Value.agg #[.int .u64 0, .int .u64 0]).cells m).toList, v.oneCell' = true := by
    intro v hv
    have e : (Value.agg #[.int .u64 0, .int .u64 0]).cells = #[.int .u64 0, .int .u64 0] := by kernel_rfl
    rw [e] at hv
    simp [Builtin.zeroCells] at hv
    obtain ⟨q, _, hv⟩ := hv
    subst hv
    rcases Nat.mod_two_eq_zero_or_one q with h | h <;> rw [h] <;> rfl
  have hst := run_storeCells_cells (P := Tryd.prog) b o (Builtin.zeroCells (Value.agg #[.int .u64 0, .int .u64 0]).cells m).toList 0 w (fun j hj => by rw [hl] at hj; simpa using hc j hj) (fun j hj => by rw [hl] at hj; simpa using hf j hj) hone
  simp only [Nat.add_zero] at hst
  cases m with
  | zero =>
    have hz : (Builtin.zeroCells (Value.agg #[.int .u64 0, .int .u64 0]).cells 0).toList = [] := by simp [Builtin.zeroCells]
    rw [hz]
    simp [Builtin.clear_, run_underlying (Tryd.underlying40)]
    rfl
  | succ m =>
    simp [Builtin.clear_, run_underlying (Tryd.underlying40), hv, hst]
theorem del_cells {l : List (Int × Int)} {cur zs : List Value} {i j n c m : Nat} (hl : l.length = n) (hij : i ≤ j) (hj : j ≤ n) (hm : m = i + (n - j)) (hc : n ≤ c) (hcur : cur.take (n * 2) = pcells l) (hlen : cur.length = c * 2) :
    (setL (setL cur (i * 2) (pcells (l.drop j))) (m * 2) zs).take (m * 2) = pcells (l.take i ++ l.drop j) := by
  have hd : (pcells (l.drop j)).length = (n - j) * 2 := by rw [pcells_len, List.length_drop, hl]
  have ht : (pcells (l.take i)).length = i * 2 := by rw [pcells_len, List.length_take, hl]; congr 1; omega
  have hpl : pcells l = pcells (l.take i) ++ pcells (l.drop i) := by rw [← pcells_app, List.take_append_drop]
  rw [pcells_app]
  apply List.ext_getElem?
  intro q
  rw [List.getElem?_take]
  by_cases hq : q < m * 2
  · rw [if_pos hq, setL_out _ _ _ _ (by omega)]
    by_cases h1 : q < i * 2
    · rw [setL_out _ _ _ _ (by omega), List.getElem?_append_left (by omega)]
      have : cur[q]? = (pcells l)[q]? := by rw [← hcur, List.getElem?_take, if_pos (by omega)]
      rw [this, hpl, List.getElem?_append_left (by omega)]
    · have e : q = i * 2 + (q - i * 2) := by omega
      rw [e, setL_in _ _ _ _ (by omega) (by omega), List.getElem?_append_right (by omega)]
      congr 1; omega
  · rw [if_neg hq, List.getElem?_eq_none (by simp [hd, ht]; omega)]
set_option maxRecDepth 20000 in
set_option maxHeartbeats 4000000 in
theorem delete_nil (w : World) :
    Calls Tryd.prog 86 #[.slice none 0 0, .int .i64 0, .int .i64 0] w fun e w' => e = .returned (.slice none 0 0) ∧ Nw w w' := by
  go_enter Tryd.func86, Tryd.ntmps86
  go_wp2
  refine bodyPost_ret (results_tmp rfl _ _ _) rfl ⟨rfl, (by repeat (first | exact Xt.Nw.refl _ | refine Xt.Nw.drew ?_ | refine Xt.Nw.drewN ?_ _ | refine Xt.Nw.alloc ?_ _ | refine Xt.Nw.joined ?_ | refine Xt.Nw.drewd ?_ | refine Xt.Nw.drewdN ?_ | refine Xt.Nw.ext ?_ | refine Xt.Nw.ext_some ?_ (by assumption) | refine Xt.Nw.setCell ?_ (by simp [go_sem] <;> omega) _))⟩
set_option maxRecDepth 20000 in
set_option maxHeartbeats 4000000 in
theorem delete_some (base g n c : Nat) (l : List (Int × Int)) (i j m : Nat) (w : World) (hown : w.ownsRow base 85 2 (.slice (some ⟨g, 0, none⟩) n c) n (pcells l)) (hl : l.length = n) (hij : i < j) (hj : j ≤ n) (hn : n ≤ 1000000) (hm : m = i + (n - j)) :
    Calls Tryd.prog 86 #[.slice (some ⟨g, 0, none⟩) n c, .int .i64 i, .int .i64 j] w fun e w' => e = .returned (.slice (some ⟨g, 0, none⟩) m c) ∧ w'.ownsRow base 85 2 (.slice (some ⟨g, 0, none⟩) m c) m (pcells (l.take i ++ l.drop j)) ∧ Chg [g] w w' := by
  obtain ⟨cur, hfull, hcur, hclen, hnc⟩ := own_full hown
  have hadd : ∀ (b o j : Nat), (⟨b, o, none⟩ : Addr).add j = ⟨b, o + j, none⟩ := fun b o j => by unfold Addr.add; split <;> simp_all
  obtain ⟨ti, hi1, hz0, hz1, hz2⟩ := info_parts pairInfo
  have hfd := own_nw hfull (Nw.drew (Nw.refl w))
  have hsome : ∀ (W : World) (xs : List Value), W.ownsRow base 85 2 (.slice (some ⟨g, 0, none⟩) c c) c xs → ∀ q, q < c * 2 → (W.cell? ⟨g, q, none⟩).isSome = true := fun W xs h q hq => by
    rw [h.cellAt q hq, List.getElem?_eq_getElem (by rw [h.1]; exact hq)]; rfl
  have hdl : (pcells (l.drop j)).length = (n - j) * 2 := by rw [pcells_len, List.length_drop, hl]
  have htl : (pcells (l.take j)).length = j * 2 := by rw [pcells_len, List.length_take, hl]; congr 1; omega
  have hsrc : ∀ q v, (pcells (l.drop j))[q]? = some v → w.drew.cell? ⟨g, j * 2 + q, none⟩ = some v := fun q v hq => by
    have hql := (List.getElem?_eq_some_iff.1 hq).1
    rw [hfd.cellAt _ (by omega)]
    have h1 : (pcells l)[j * 2 + q]? = some v := by
      rw [← List.take_append_drop j l, pcells_app, List.getElem?_append_right (by omega), htl, show j * 2 + q - j * 2 = q by omega]; exact hq
    rw [← hcur, List.getElem?_take, if_pos (by omega)] at h1
    exact h1
  obtain ⟨W3, hW3⟩ : ∃ W3, W3 = w.drew.setCells g (i * 2) (pcells (l.drop j)) := ⟨_, rfl⟩
  have hroom : ∀ (x : Value) (ty : TypeId), Src Tryd.prog ti.size 40 x (n - j) (pcells (l.drop j)) w.drew → (Builtin.append_ #[40, 40] ty #[.slice (some ⟨g, 0, none⟩) i c, x]).run Tryd.prog w.drew = .ok (.slice (some ⟨g, 0, none⟩) m c) W3 := fun x ty hs => by
    have := run_append_room_src w.drew 40 40 ty 85 ti Tryd.underlying40 hi1 g 0 i c x (n - j) _ hs (by omega) (fun q hq => by rw [hz1]; exact hsome _ _ hfd _ (by omega)) (fun q hq => hfd.frozenAt _)
    rw [this, hz1, Nat.zero_add, hW3, hm]
  have hap : ∀ ty sc, (Builtin.append_ #[40, 40] ty #[.slice (some ⟨g, 0, none⟩) i c, .slice (some ⟨g, j * 2, none⟩) (n - j) sc]).run Tryd.prog w.drew = .ok (.slice (some ⟨g, 0, none⟩) m c) W3 := fun ty sc =>
    hroom _ ty (Src.ofSlice w.drew Tryd.underlying40 _ _ _ _ (by rw [hz1, hdl]) (fun q v hq => by rw [hadd]; exact hsrc q v hq) (pcells_one _))
  have hrow3 := own_setCells (pcells (l.drop j)) cur (i * 2) w.drew hfd
  rw [← hW3] at hrow3
  obtain ⟨zs, hzs⟩ : ∃ zs, zs = (Builtin.zeroCells (Value.agg #[.int .u64 0, .int .u64 0]).cells (n - m)).toList := ⟨_, rfl⟩
  obtain ⟨W4, hW4⟩ : ∃ W4, W4 = W3.setCells g (m * 2) zs := ⟨_, rfl⟩
  have hcl : ∀ ty sc, (Builtin.clear_ #[40] ty #[.slice (some ⟨g, m * 2, none⟩) (n - m) sc]).run Tryd.prog W3 = .ok (.tuple #[]) W4 := fun ty sc => by
    rw [hW4, hzs]
    exact clear_any g (m * 2) (n - m) sc W3 (fun q hq => hsome _ _ hrow3.1 _ (by omega)) (fun q _ => hrow3.1.frozenAt _) ty
  have hrow4 := own_setCells zs _ (m * 2) W3 hrow3.1
  rw [← hW4] at hrow4
  have hfin := own_take hrow4.1 (by omega : m ≤ c)
  rw [del_cells hl (by omega) hj hm hnc hcur hclen] at hfin
  have hch : Chg [g] w W4 := (Chg.of_nw (Nw.drew (Nw.refl w))).trans ((Chg.of_grownBy hrow3.2).trans (Chg.of_grownBy hrow4.2))
  have AP := Lib.hid hap
  have FIN := Lib.hid hfin
  have HCH := Lib.hid hch
  have HRM := Lib.hid hroom
  haveI : In g w := ⟨hown.lt _ rfl |>.2⟩
  have HSZ := Lib.hid hz1
  have a1 : (i : Int) ≤ (j : Int) := by omega
  have a2 : (j : Int) ≤ (n : Int) := by omega
  have a3 : (n : Int) ≤ (c : Int) := by omega
  have a4 : (i : Int) ≤ (c : Int) := by omega
  have a5 : ((i : Int) == (j : Int)) = false := by simp; omega
  have a6 : ¬ i = j := by omega
  have a7 : (m : Int) ≤ (n : Int) := by omega
  have a8 : ¬ n ≤ i := by omega
  have a9 : ¬ n = i := by omega
  have b1 : ¬ c ≤ m := by omega
  have b2 : ¬ c = m := by omega
  have b3 : m ≤ n := by omega
  have b4 : i ≤ j := by omega
  have b5 : i ≤ c := by omega
  have HN := Lib.hid (by omega : n - j = 0 ∨ j < c)
  clear hm hij hadd hsome hdl htl hsrc hW3 hap hrow3 hzs hW4 hrow4 hfin hch hroom hfd hfull hcur hclen hown hz0 hz1 hz2 hi1
  by_cases hjc : c ≤ j
  · have hj0 : n - j = 0 := by rcases HN.out with h | h <;> omega
    obtain rfl : j = n := by omega
    obtain rfl : c = j := by omega
    have hdr : pcells (l.drop c) = [] := by rw [← hl, List.drop_length]; rfl
    have hap2 : ∀ ty a sc, (Builtin.append_ #[40, 40] ty #[.slice (some ⟨g, 0, none⟩) i c, .slice (some a) 0 sc]).run Tryd.prog w.drew = .ok (.slice (some ⟨g, 0, none⟩) m c) W3 := fun ty a sc =>
      HRM.out _ ty (by rw [hj0, hdr]; exact Src.ofSlice w.drew Tryd.underlying40 a 0 sc [] (by simp) (by simp) (by simp))
    have AP2 := Lib.hid hap2
    clear hap2 hdr hj0
    go_enter Tryd.func86, Tryd.ntmps86
    go_upto_region 5 with (fail)
    go_region_law (refine step_app_eq rfl (.tmp 22) (.tmp 25) 40 40 rfl _ _ (by first | (simp [Act.eval, Act.put]; done) | (simp [Act.eval, Act.put]; rfl)) (by first | (simp [Act.eval, Act.put]; done) | (simp [Act.eval, Act.put]; rfl) | (simp [Act.eval, Act.put]; exact ⟨rfl, rfl⟩)) (AP2.out _ _ _) ?_)
    go_wp2
    exact bodyPost_ret (results_tmp rfl _ _ _) rfl ⟨rfl, FIN.out, HCH.out⟩
  · have c1 : ¬ c = j := by omega
    go_enter Tryd.func86, Tryd.ntmps86
    go_upto_region 5 with (fail)
    go_region_law (refine step_app_eq rfl (.tmp 22) (.tmp 25) 40 40 rfl _ _ (by first | (simp [Act.eval, Act.put]; done) | (simp [Act.eval, Act.put]; rfl)) (by first | (simp [Act.eval, Act.put]; done) | (simp [Act.eval, Act.put]; rfl)) (AP.out _ _) ?_)
    go_wp2
    exact bodyPost_ret (results_tmp rfl _ _ _) rfl ⟨rfl, FIN.out, HCH.out⟩
set_option maxRecDepth 20000 in
set_option maxHeartbeats 4000000 in
theorem delete_none (g n c : Nat) (i : Nat) (w : World) (hi : i ≤ n) (hc : n ≤ c) :
    Calls Tryd.prog 86 #[.slice (some ⟨g, 0, none⟩) n c, .int .i64 i, .int .i64 i] w fun e w' => e = .returned (.slice (some ⟨g, 0, none⟩) n c) ∧ Nw w w' := by
  have a1 : (i : Int) ≤ (n : Int) := by omega
  have a2 : (n : Int) ≤ (c : Int) := by omega
  by_cases h : n ≤ i
  · obtain rfl : i = n := by omega
    go_enter Tryd.func86, Tryd.ntmps86
    go_wp2
    refine bodyPost_ret (results_tmp rfl _ _ _) rfl ⟨rfl, (by repeat (first | exact Xt.Nw.refl _ | refine Xt.Nw.drew ?_ | refine Xt.Nw.drewN ?_ _ | refine Xt.Nw.alloc ?_ _ | refine Xt.Nw.joined ?_ | refine Xt.Nw.drewd ?_ | refine Xt.Nw.drewdN ?_ | refine Xt.Nw.ext ?_ | refine Xt.Nw.ext_some ?_ (by assumption) | refine Xt.Nw.setCell ?_ (by simp [go_sem] <;> omega) _))⟩
  · have h2 : ¬ n = i := by omega
    go_enter Tryd.func86, Tryd.ntmps86
    go_wp2
    refine bodyPost_ret (results_tmp rfl _ _ _) rfl ⟨rfl, (by repeat (first | exact Xt.Nw.refl _ | refine Xt.Nw.drew ?_ | refine Xt.Nw.drewN ?_ _ | refine Xt.Nw.alloc ?_ _ | refine Xt.Nw.joined ?_ | refine Xt.Nw.drewd ?_ | refine Xt.Nw.drewdN ?_ | refine Xt.Nw.ext ?_ | refine Xt.Nw.ext_some ?_ (by assumption) | refine Xt.Nw.setCell ?_ (by simp [go_sem] <;> omega) _))⟩
/-- slices.Delete of a row of one's own. -/
theorem delete_any (v : Value) (l : List (Int × Int)) (i j m : Nat) (w : World) (hown : w.ownsRow 0 85 2 v l.length (pcells l)) (hij : i ≤ j) (hj : j ≤ l.length) (hn : l.length ≤ 1000000) (hm : m = i + (l.length - j)) :
    Calls Tryd.prog 86 #[v, .int .i64 i, .int .i64 j] w fun e w' => ∃ v', e = .returned v' ∧ w'.ownsRow 0 85 2 v' m (pcells (l.take i ++ l.drop j)) ∧ Chg v.ownBlock.toList w w' ∧ v'.ownBlock = v.ownBlock := by
  rcases own_forms hown with ⟨rfl, h0⟩ | ⟨g, c, rfl, _, _, hc, _⟩
  · obtain rfl : l = [] := List.length_eq_zero_iff.1 h0
    obtain rfl : j = 0 := by simpa using hj
    obtain rfl : i = 0 := by omega
    subst hm
    refine (delete_nil w).mono ?_
    rintro e w' ⟨rfl, hn⟩
    exact ⟨_, rfl, own_nw hown hn, (Chg.of_nw hn : Chg [] w w').wide (by simp), rfl⟩
  · by_cases h : i = j
    · subst h
      obtain rfl : m = l.length := by omega
      rw [List.take_append_drop]
      refine (delete_none g l.length c i w (by omega) hc).mono ?_
      rintro e w' ⟨rfl, hn⟩
      exact ⟨_, rfl, own_nw hown hn, (Chg.of_nw hn : Chg [] w w').wide (by simp), rfl⟩
    · refine (delete_some 0 g l.length c l i j m w hown rfl (by omega) hj hn hm).mono ?_
      rintro e w' ⟨rfl, h1, h2⟩
      exact ⟨_, rfl, h1, h2, rfl⟩
set_option maxRecDepth 20000 in
set_option maxHeartbeats 4000000 in
/-- slices.Clone. -/
theorem clone_any (A : Option Addr) (n c : Nat) (l : List (Int × Int)) (w : World) (hr : Rd w 2 A n (pcells l)) (hn : n ≤ 1000000) (hA : A = none → n = 0 ∧ c = 0) :
    Calls Tryd.prog 38 #[.slice A n c] w fun e w' => ∃ v', e = .returned v' ∧ w'.ownsRow w.heap.size 85 2 v' n (pcells l) ∧ Nw w w' := by
  have q22 : ∀ (w : World) (a : Option Addr) (n c n' c' : Nat), (binOp .eql 40 (.slice a n c) (.slice none n' c')).run Tryd.prog w = .ok (.bool a.isNone) w := fun w a n c n' c' => Lib.run_eql_slice_nil w _ _ a n c n' c' Tryd.underlying40
  cases A with
  | none =>
    obtain ⟨rfl, rfl⟩ := hA rfl
    have hl : pcells l = [] := List.eq_nil_of_length_eq_zero (by simpa using hr.1)
    rw [hl]
    clear hr hl
    go_enter Tryd.func38, Tryd.ntmps38
    go_wp2
    refine bodyPost_ret (results_tmp rfl _ _ _) rfl ⟨_, rfl, World.ownsRow_nil _ _ _ _, (by repeat (first | exact Xt.Nw.refl _ | refine Xt.Nw.drew ?_ | refine Xt.Nw.drewN ?_ _ | refine Xt.Nw.alloc ?_ _ | refine Xt.Nw.joined ?_ | refine Xt.Nw.drewd ?_ | refine Xt.Nw.drewdN ?_ | refine Xt.Nw.ext ?_ | refine Xt.Nw.ext_some ?_ (by assumption) | refine Xt.Nw.setCell ?_ (by simp [go_sem] <;> omega) _))⟩
  | some a =>
    have HR := Lib.hid (hr.nw ((by repeat (first | exact Xt.Nw.refl _ | refine Xt.Nw.drew ?_ | refine Xt.Nw.drewN ?_ _ | refine Xt.Nw.alloc ?_ _ | refine Xt.Nw.joined ?_ | refine Xt.Nw.drewd ?_ | refine Xt.Nw.drewdN ?_ | refine Xt.Nw.ext ?_ | refine Xt.Nw.ext_some ?_ (by assumption) | refine Xt.Nw.setCell ?_ (by simp [go_sem] <;> omega) _)) : Nw w (w.alloc (.cells #[] 85))))
    have HL := Lib.hid (pcells_one l)
    clear hr hA
    go_enter Tryd.func38, Tryd.ntmps38
    go_wp2_with (at_builtin; refine wpList_appS rfl (.tmp 5) (.tmp 6) 40 rfl 85 (.agg #[.int .u64 0, .int .u64 0]) 2 16 Tryd.underlying40 pairInfo rfl (by decide) w _ (by repeat (first | exact Xt.Nw.refl _ | refine Xt.Nw.drew ?_ | refine Xt.Nw.drewN ?_ _ | refine Xt.Nw.alloc ?_ _ | refine Xt.Nw.joined ?_ | refine Xt.Nw.drewd ?_ | refine Xt.Nw.drewdN ?_ | refine Xt.Nw.ext ?_ | refine Xt.Nw.ext_some ?_ (by assumption) | refine Xt.Nw.setCell ?_ (by simp [go_sem] <;> omega) _)) _ 0 [] rfl (World.ownsRow_made w #[] 0 (Nat.le_refl _) (Nat.zero_le _) rfl) (some a) n c _ rfl HR.out HL.out (by unfold maxLen; omega) (by omega) ?_; intro v' d' hown _)
    rw [Nat.zero_add, List.nil_append] at hown
    refine bodyPost_ret (results_tmp rfl _ _ _) rfl ⟨v', rfl, hown, (by repeat (first | exact Xt.Nw.refl _ | refine Xt.Nw.drew ?_ | refine Xt.Nw.drewN ?_ _ | refine Xt.Nw.alloc ?_ _ | refine Xt.Nw.joined ?_ | refine Xt.Nw.drewd ?_ | refine Xt.Nw.drewdN ?_ | refine Xt.Nw.ext ?_ | refine Xt.Nw.ext_some ?_ (by assumption) | refine Xt.Nw.setCell ?_ (by simp [go_sem] <;> omega) _))⟩
end Go.Proofs.YtdjcndpnjoahmaaDoor
namespace Go.Proofs.YtdjcndpnjoahmaaDoor
open Go.RowKit Go.Xt
/-! The ordered map at any pairs: Get, Put, PutIfAbsent, CompareAndSwap, Len, Delete. -/
/-- The value that a look-up gives. -/
def valL (k : Int) (l : List (Int × Int)) : Int := (getL k l).getD 0
/-- A map that has been worked on. -/
structure Upd (w : World) (gp : Nat) (v : Value) (l : List (Int × Int)) (v' : Value) (w' : World) : Prop where
  om : OM w' gp v' l
  chg : Chg (foot gp v) w w'
  moved : Moved w v v'
theorem Upd.same {w w' : World} {gp : Nat} {v : Value} {l : List (Int × Int)} (h : OM w gp v l) (hn : Nw w w') : Upd w gp v l v w' :=
  ⟨h.nw hn, (Chg.of_nw hn : Chg [] w w').wide (by simp), .inl rfl⟩
theorem Moved.le {w w2 : World} {v v' : Value} (h : Moved w2 v v') (hs : w.heap.size ≤ w2.heap.size) : Moved w v v' :=
  h.imp id fun ⟨g, e, hg⟩ => ⟨g, e, Nat.le_trans hs hg⟩
theorem Upd.after {w w2 w' : World} {gp : Nat} {v v' : Value} {l : List (Int × Int)} (hn : Nw w w2) (h : Upd w2 gp v l v' w') : Upd w gp v l v' w' :=
  ⟨h.om, (Chg.of_nw hn).trans h.chg, h.moved.le hn.grown.size⟩
theorem Upd.nw {w w2 w' : World} {gp : Nat} {v v' : Value} {l : List (Int × Int)} (h : Upd w gp v l v' w2) (hn : Nw w2 w') : Upd w gp v l v' w' :=
  ⟨h.om.nw hn, h.chg.trans (Chg.of_nw hn), h.moved⟩
theorem Upd.trans {w w1 w2 : World} {gp : Nat} {v v1 v2 : Value} {l1 l2 : List (Int × Int)} (h : Upd w gp v l1 v1 w1) (k : Upd w1 gp v1 l2 v2 w2) : Upd w gp v l2 v2 w2 := by
  refine ⟨k.om, h.chg.then k.chg fun y hy => ?_, ?_⟩
  · rcases mem_foot.1 hy with rfl | hy
    · exact .inl (mem_foot.2 (.inl rfl))
    · rcases h.moved with e | ⟨q, e, hq⟩
      · exact .inl (mem_foot.2 (.inr (e ▸ hy)))
      · rw [e] at hy; cases hy; exact .inr hq
  · rcases k.moved with e | ⟨q, e, hq⟩
    · rcases h.moved with e2 | ⟨q, e2, hq⟩
      · exact .inl (e.trans e2)
      · exact .inr ⟨q, e.trans e2, hq⟩
    · exact .inr ⟨q, e, Nat.le_trans h.chg.size hq⟩
theorem Upd.store {w W3 : World} {gp : Nat} {v v' x : Value} {l : List (Int × Int)} (hp : W3.cell? ⟨gp, 0, none⟩ = some x) (hz : W3.frozen? ⟨gp, 0, none⟩ = false) (hrow : W3.ownsRow 0 85 2 v' l.length (pcells l)) (ne : v'.ownBlock ≠ some gp) (ha : asc l) (hc : Chg v.ownBlock.toList w W3) (hm : Moved w v v') : Upd w gp v l v' (W3.setCell ⟨gp, 0, none⟩ v') := by
  have hs1 := Chg.set1 W3 gp 0 v'
  refine ⟨⟨World.cell?_setCell_same _ _ _ hp, own_chg hrow hs1 (fun g hg hx => by simp at hx; subst hx; exact ne hg), ne, by rw [World.frozen?_setCell]; exact hz, ha⟩, ?_, hm⟩
  exact (hc.wide (Y := foot gp v) (fun y hy => by rw [mem_foot]; exact .inr (by simpa using hy))).then hs1 (fun y hy => by simp at hy; subst hy; exact .inl (mem_foot.2 (.inl rfl)))
theorem set_upd {w : World} {gp : Nat} {v : Value} {l : List (Int × Int)} (h : OM w gp v l) (hn : l.length ≤ 1000000) (k x : Int) :
    Calls Tryd.prog 64 #[.pointer (some ⟨gp, 0, none⟩), .int .u64 k, .int .u64 x] w fun e w' => e = .returned (.tuple #[]) ∧ ∃ v', Upd w gp v (putL k x l) v' w' := by
  refine (set_any w gp v l k x h hn).mono ?_
  rintro e w' ⟨rfl, v', h1, h2, h3⟩
  exact ⟨rfl, v', h1, h2, h3⟩
theorem get_val {k : Int} {l : List (Int × Int)} : getL k l = if hasK k l then some (valL k l) else none := by
  rw [hasK_get]; unfold valL; cases getL k l <;> rfl
theorem val_not {k : Int} {l : List (Int × Int)} (h : hasK k l = false) : valL k l = 0 := by
  rw [hasK_get] at h; unfold valL; cases hg : getL k l <;> simp_all
set_option maxRecDepth 20000 in
set_option maxHeartbeats 4000000 in
theorem get_om {w : World} {gp : Nat} {v : Value} {l : List (Int × Int)} (h : OM w gp v l) (hn : l.length ≤ 1000000) (k : Int) :
    Calls Tryd.prog 58 #[.pointer (some ⟨gp, 0, none⟩), .int .u64 k] w fun e w' => e = .returned (.tuple #[.int .u64 (valL k l), .bool (hasK k l)]) ∧ Nw w w' := by
  have p0 := h.p0
  haveI : In gp w := ⟨h.lt⟩
  have HF := Lib.hid (find_om h hn k)
  cases hh : hasK k l with
  | false =>
    rw [val_not hh]
    rw [hh] at HF
    clear h hn hh
    go_enter Tryd.func58, Tryd.ntmps58
    go_wp2_with fail
    refine HF.out.mono ?_
    rintro e w' ⟨rfl, dW, rfl⟩
    go_wp2
    exact bodyPost_ret (results_tmp2 rfl _ _ _) rfl ⟨rfl, (by repeat (first | exact Xt.Nw.refl _ | refine Xt.Nw.drew ?_ | refine Xt.Nw.drewN ?_ _ | refine Xt.Nw.alloc ?_ _ | refine Xt.Nw.joined ?_ | refine Xt.Nw.drewd ?_ | refine Xt.Nw.drewdN ?_ | refine Xt.Nw.ext ?_ | refine Xt.Nw.ext_some ?_ (by assumption) | refine Xt.Nw.setCell ?_ (by simp [go_sem] <;> omega) _))⟩
  | true =>
    have hat := get_at k l (valL k l) (by rw [get_val, hh]; rfl)
    have hP := (List.getElem?_eq_some_iff.1 hat).1
    rcases h.form with ⟨rfl, rfl⟩ | ⟨g, c, rfl, -, -, -⟩
    · cases hh
    have c1 := (h.pat.at' _ _ hat).2
    haveI : In g w := ⟨World.block_lt_of_cell? w _ c1⟩
    rw [hh] at HF
    obtain ⟨P, hPe⟩ : ∃ P, P = pos k l := ⟨_, rfl⟩
    rw [← hPe] at HF hP c1
    obtain ⟨n, hne⟩ : ∃ n, n = l.length := ⟨_, rfl⟩
    rw [← hne] at hP p0
    obtain ⟨x, hx⟩ : ∃ x, x = valL k l := ⟨_, rfl⟩
    rw [← hx] at c1 ⊢
    have q1 : (P : Int) < (n : Int) := by omega
    have q0 : (0 : Int) ≤ (P : Int) := by omega
    clear h hat hPe hne hx hh
    go_enter Tryd.func58, Tryd.ntmps58
    go_wp2_with fail
    refine HF.out.mono ?_
    rintro e w' ⟨rfl, dW, rfl⟩
    go_wp2
    exact bodyPost_ret (results_tmp2 rfl _ _ _) rfl ⟨rfl, (by repeat (first | exact Xt.Nw.refl _ | refine Xt.Nw.drew ?_ | refine Xt.Nw.drewN ?_ _ | refine Xt.Nw.alloc ?_ _ | refine Xt.Nw.joined ?_ | refine Xt.Nw.drewd ?_ | refine Xt.Nw.drewdN ?_ | refine Xt.Nw.ext ?_ | refine Xt.Nw.ext_some ?_ (by assumption) | refine Xt.Nw.setCell ?_ (by simp [go_sem] <;> omega) _))⟩
set_option maxRecDepth 20000 in
set_option maxHeartbeats 4000000 in
theorem put_om {w : World} {gp : Nat} {v : Value} {l : List (Int × Int)} (h : OM w gp v l) (hn : l.length ≤ 1000000) (k x : Int) :
    Calls Tryd.prog 67 #[.pointer (some ⟨gp, 0, none⟩), .int .u64 k, .int .u64 x] w fun e w' => e = .returned (.tuple #[.int .u64 (valL k l), .bool (hasK k l), .int .i64 0]) ∧ ∃ v', Upd w gp v (putL k x l) v' w' := by
  haveI : In gp w := ⟨h.lt⟩
  have HF := Lib.hid (get_om h hn k)
  have HS := Lib.hid (fun W (hw : Nw w W) => set_upd (h.nw hw) hn k x)
  obtain ⟨y, hy⟩ : ∃ y, y = valL k l := ⟨_, rfl⟩
  obtain ⟨b, hb⟩ : ∃ b, b = hasK k l := ⟨_, rfl⟩
  rw [← hy, ← hb] at HF ⊢
  clear h hy hb
  go_enter Tryd.func67, Tryd.ntmps67
  go_wp2_with fail
  refine HF.out.mono ?_
  rintro e W2 ⟨rfl, hn2⟩
  have HN := Lib.hid hn2
  clear hn2
  go_wp2_with fail
  refine (HS.out W2 HN.out).mono ?_
  rintro e W3 ⟨rfl, hu⟩
  have HU := Lib.hid hu
  clear hu
  go_wp2
  obtain ⟨v', hu⟩ := HU.out
  refine bodyPost_ret (v := .tuple #[.int .u64 y, .bool b, .int .i64 0]) ?_ rfl ⟨rfl, v', hu.after HN.out⟩
  simp [results, Tryd.results67, go_sem]
/-- A pair put if its key is absent. -/
def addL (k x : Int) (l : List (Int × Int)) : List (Int × Int) := if hasK k l then l else putL k x l
set_option maxRecDepth 20000 in
set_option maxHeartbeats 4000000 in
theorem add_om {w : World} {gp : Nat} {v : Value} {l : List (Int × Int)} (h : OM w gp v l) (hn : l.length ≤ 1000000) (k x : Int) :
    Calls Tryd.prog 68 #[.pointer (some ⟨gp, 0, none⟩), .int .u64 k, .int .u64 x] w fun e w' => e = .returned (.tuple #[.int .u64 (valL k l), .bool (hasK k l), .int .i64 0]) ∧ ∃ v', Upd w gp v (addL k x l) v' w' := by
  haveI : In gp w := ⟨h.lt⟩
  have HF := Lib.hid (get_om h hn k)
  unfold addL
  cases hb : hasK k l with
  | true =>
    have HU := Lib.hid (fun W (hw : Nw w W) => Upd.same h hw)
    rw [hb] at HF
    obtain ⟨y, hy⟩ : ∃ y, y = valL k l := ⟨_, rfl⟩
    rw [← hy] at HF ⊢
    clear h hy hb
    go_enter Tryd.func68, Tryd.ntmps68
    go_wp2_with fail
    refine HF.out.mono ?_
    rintro e W2 ⟨rfl, hn2⟩
    have HN := Lib.hid hn2
    clear hn2
    go_wp2
    refine bodyPost_ret (v := .tuple #[.int .u64 y, .bool true, .int .i64 0]) ?_ rfl ⟨rfl, v, HU.out _ HN.out⟩
    simp [results, Tryd.results68, go_sem]
  | false =>
    have HS := Lib.hid (fun W (hw : Nw w W) => set_upd (h.nw hw) hn k x)
    rw [hb] at HF
    obtain ⟨y, hy⟩ : ∃ y, y = valL k l := ⟨_, rfl⟩
    rw [← hy] at HF ⊢
    clear h hy hb
    go_enter Tryd.func68, Tryd.ntmps68
    go_wp2_with fail
    refine HF.out.mono ?_
    rintro e W2 ⟨rfl, hn2⟩
    have HN := Lib.hid hn2
    clear hn2
    go_wp2_with fail
    refine (HS.out W2 HN.out).mono ?_
    rintro e W3 ⟨rfl, hu⟩
    have HU := Lib.hid hu
    clear hu
    go_wp2
    obtain ⟨v', hu⟩ := HU.out
    refine bodyPost_ret (v := .tuple #[.int .u64 y, .bool false, .int .i64 0]) ?_ rfl ⟨rfl, v', hu.after HN.out⟩
    simp [results, Tryd.results68, go_sem]
/-- A value put if the key has the old one. -/
def casB (k o : Int) (l : List (Int × Int)) : Bool := hasK k l && decide (valL k l = o)
def casL (k o x : Int) (l : List (Int × Int)) : List (Int × Int) := if casB k o l then putL k x l else l
set_option maxRecDepth 20000 in
set_option maxHeartbeats 4000000 in
theorem cas_om {w : World} {gp : Nat} {v : Value} {l : List (Int × Int)} (h : OM w gp v l) (hn : l.length ≤ 1000000) (k o x : Int) :
    Calls Tryd.prog 70 #[.pointer (some ⟨gp, 0, none⟩), .int .u64 k, .int .u64 o, .int .u64 x] w fun e w' => e = .returned (.tuple #[.int .u64 (valL k l), .bool (hasK k l), .bool (casB k o l), .int .i64 0]) ∧ ∃ v', Upd w gp v (casL k o x l) v' w' := by
  haveI : In gp w := ⟨h.lt⟩
  have HF := Lib.hid (get_om h hn k)
  have HU := Lib.hid (fun W (hw : Nw w W) => Upd.same h hw)
  have HS := Lib.hid (fun W (hw : Nw w W) => set_upd (h.nw hw) hn k x)
  cases hb : hasK k l with
  | false =>
    have e1 : casB k o l = false := by simp [casB, hb]
    have e2 : casL k o x l = l := by simp [casL, e1]
    rw [hb] at HF
    rw [e1, e2]
    obtain ⟨y, hy⟩ : ∃ y, y = valL k l := ⟨_, rfl⟩
    rw [← hy] at HF ⊢
    clear h hy hb e1 e2
    go_enter Tryd.func70, Tryd.ntmps70
    go_wp2_with fail
    refine HF.out.mono ?_
    rintro e W2 ⟨rfl, hn2⟩
    have HN := Lib.hid hn2
    clear hn2
    go_wp2
    refine bodyPost_ret (v := .tuple #[.int .u64 y, .bool false, .bool false, .int .i64 0]) ?_ rfl ⟨rfl, v, HU.out _ HN.out⟩
    simp [results, Tryd.results70, go_sem]
  | true =>
    rw [hb] at HF
    by_cases hyo : valL k l = o
    · have e1 : casB k o l = true := by simp [casB, hb, hyo]
      have e2 : casL k o x l = putL k x l := by simp [casL, e1]
      rw [e1, e2]
      obtain ⟨y, hy⟩ : ∃ y, y = valL k l := ⟨_, rfl⟩
      rw [← hy] at HF hyo ⊢
      subst hyo
      clear h hy hb e1 e2
      go_enter Tryd.func70, Tryd.ntmps70
      go_wp2_with fail
      refine HF.out.mono ?_
      rintro e W2 ⟨rfl, hn2⟩
      have HN := Lib.hid hn2
      clear hn2
      go_wp2_with fail
      refine (HS.out W2 HN.out).mono ?_
      rintro e W3 ⟨rfl, hu⟩
      have HU3 := Lib.hid hu
      clear hu
      go_wp2
      obtain ⟨v', hu⟩ := HU3.out
      refine bodyPost_ret (v := .tuple #[.int .u64 y, .bool true, .bool true, .int .i64 0]) ?_ rfl ⟨rfl, v', hu.after HN.out⟩
      simp [results, Tryd.results70, go_sem]
    · have e1 : casB k o l = false := by simp [casB, hyo]
      have e2 : casL k o x l = l := by simp [casL, e1]
      rw [e1, e2]
      obtain ⟨y, hy⟩ : ∃ y, y = valL k l := ⟨_, rfl⟩
      rw [← hy] at HF hyo ⊢
      have hq : (y == o) = false := by simp [hyo]
      clear h hy hb e1 e2
      go_enter Tryd.func70, Tryd.ntmps70
      go_wp2_with fail
      refine HF.out.mono ?_
      rintro e W2 ⟨rfl, hn2⟩
      have HN := Lib.hid hn2
      clear hn2
      go_wp2
      refine bodyPost_ret (v := .tuple #[.int .u64 y, .bool true, .bool false, .int .i64 0]) ?_ rfl ⟨rfl, v, HU.out _ HN.out⟩
      simp [results, Tryd.results70, go_sem]
theorem len_om {w : World} {gp : Nat} {v : Value} {l : List (Int × Int)} (h : OM w gp v l) :
    Calls Tryd.prog 74 #[.pointer (some ⟨gp, 0, none⟩)] w fun e w' => e = .returned (.int .i64 l.length) ∧ Nw w w' := by
  have p0 := h.p0
  rcases h.form with ⟨rfl, rfl⟩ | ⟨g, c, rfl, -, -, -⟩
  · clear h
    go_enter Tryd.func74, Tryd.ntmps74
    go_wp2
    go_ret
    exact ⟨rfl, Nw.refl _⟩
  · clear h
    go_enter Tryd.func74, Tryd.ntmps74
    go_wp2
    go_ret
    exact ⟨rfl, Nw.refl _⟩
set_option maxRecDepth 20000 in
set_option maxHeartbeats 4000000 in
theorem del_om {w : World} {gp : Nat} {v : Value} {l : List (Int × Int)} (h : OM w gp v l) (hn : l.length ≤ 1000000) (k : Int) :
    Calls Tryd.prog 69 #[.pointer (some ⟨gp, 0, none⟩), .int .u64 k] w fun e w' => e = .returned (.tuple #[.int .u64 (valL k l), .bool (hasK k l), .int .i64 0]) ∧ ∃ v', Upd w gp v (delL k l) v' w' := by
  haveI : In gp w := ⟨h.lt⟩
  have HF := Lib.hid (find_om h hn k)
  cases hh : hasK k l with
  | false =>
    have HU := Lib.hid (fun W (hw : Nw w W) => Upd.same h hw)
    rw [val_not hh, del_not k l hh]
    rw [hh] at HF
    clear h hh
    go_enter Tryd.func69, Tryd.ntmps69
    go_wp2_with fail
    refine HF.out.mono ?_
    rintro e W2 ⟨rfl, hn2⟩
    have HN := Lib.hid hn2
    clear hn2
    go_wp2
    refine bodyPost_ret (v := .tuple #[.int .u64 0, .bool false, .int .i64 0]) ?_ rfl ⟨rfl, v, HU.out _ HN.out⟩
    simp [results, Tryd.results69, go_sem]
  | true =>
    have hat := get_at k l (valL k l) (by rw [get_val, hh]; rfl)
    have hP := (List.getElem?_eq_some_iff.1 hat).1
    rcases h.form with ⟨rfl, rfl⟩ | ⟨g, c, rfl, -, -, -⟩
    · cases hh
    have HD := Lib.hid (del_had k l hh)
    have HH := Lib.hid h
    have p0 := h.p0
    have c1 := (h.pat.at' _ _ hat).2
    haveI : In g w := ⟨World.block_lt_of_cell? w _ c1⟩
    rw [hh] at HF
    obtain ⟨P, hPe⟩ : ∃ P, P = pos k l := ⟨_, rfl⟩
    rw [← hPe] at HF hP c1 HD
    obtain ⟨n, hne⟩ : ∃ n, n = l.length := ⟨_, rfl⟩
    rw [← hne] at hP p0 HH hn ⊢
    obtain ⟨x, hx⟩ : ∃ x, x = valL k l := ⟨_, rfl⟩
    rw [← hx] at c1 ⊢
    have q1 : (P : Int) < (n : Int) := by omega
    have q0 : (0 : Int) ≤ (P : Int) := by omega
    have q2 : IntKind.i64.wrap ((P : Int) + 1) = ((P + 1 : Nat) : Int) := by rw [IntKind.wrap_i64]; omega
    have HNE := Lib.hid hne
    clear h hat hPe hne hx hh
    go_enter Tryd.func69, Tryd.ntmps69
    go_wp2_with fail
    refine HF.out.mono ?_
    rintro e W2 ⟨rfl, hn2⟩
    have h2 := HH.out.nw hn2
    have hrow := h2.row
    rw [← HNE.out] at hrow
    have r0 := cell_nw p0 hn2
    have r1 := cell_nw c1 hn2
    haveI : In gp W2 := ⟨h2.lt⟩
    haveI : In g W2 := ⟨World.block_lt_of_cell? W2 _ r1⟩
    have H2 := Lib.hid h2
    have HR := Lib.hid hrow
    have HN2 := Lib.hid hn2
    clear h2 hrow hn2
    go_wp2_with fail
    refine (delete_some 0 g n c l P (P + 1) (n - 1) W2 HR.out HNE.out.symm (by omega) (by omega) hn (by omega)).mono ?_
    rintro e W3 ⟨rfl, hown, hch⟩
    have hgp : gp ∉ [g] := by have := H2.out.ne; simp [Value.ownBlock] at this ⊢; omega
    have r3 := hch.cell H2.out.p0 hgp
    have z3 := (hch.frozen H2.out.lt hgp).trans H2.out.pz
    have HOW := Lib.hid hown
    have HCH := Lib.hid hch
    clear hown hch hgp r0 r1
    go_wp2
    have hlen : (delL k l).length = n - 1 := by
      have := HNE.out
      rw [← HD.out]; simp; omega
    have hu : Upd W2 gp (.slice (some ⟨g, 0, none⟩) n c) (delL k l) (.slice (some ⟨g, 0, none⟩) (n - 1) c) (W3.setCell ⟨gp, 0, none⟩ (.slice (some ⟨g, 0, none⟩) (n - 1) c)) :=
      Upd.store r3 z3 (by rw [hlen, ← HD.out]; exact HOW.out) H2.out.ne (asc_sub H2.out.asc (del_sub k l)) HCH.out (.inl rfl)
    refine bodyPost_ret (v := .tuple #[.int .u64 x, .bool true, .int .i64 0]) ?_ rfl ⟨rfl, _, hu.after HN2.out⟩
    simp [results, Tryd.results69, go_sem]
end Go.Proofs.YtdjcndpnjoahmaaDoor
namespace Go.Proofs.YtdjcndpnjoahmaaDoor
open Go.RowKit Go.Xt
/-! The ordered map at any pairs: ends, DeleteRange, Next. -/
def spV (lo hi : Int) : Value := .agg #[.int .u64 lo, .int .u64 hi]
theorem spcheck_ok (lo hi : Int) (h : lo ≤ hi) (w : World) :
    Calls Tryd.prog 65 #[spV lo hi] w fun e w' => e = .returned (.int .i64 0) ∧ Nw w w' := by
  have h2 : ¬ hi < lo := by omega
  unfold spV
  go_enter Tryd.func65, Tryd.ntmps65
  go_wp2
  go_ret
  exact ⟨rfl, (by repeat (first | exact Xt.Nw.refl _ | refine Xt.Nw.drew ?_ | refine Xt.Nw.drewN ?_ _ | refine Xt.Nw.alloc ?_ _ | refine Xt.Nw.joined ?_ | refine Xt.Nw.drewd ?_ | refine Xt.Nw.drewdN ?_ | refine Xt.Nw.ext ?_ | refine Xt.Nw.ext_some ?_ (by assumption) | refine Xt.Nw.setCell ?_ (by simp [go_sem] <;> omega) _))⟩
set_option maxRecDepth 20000 in
set_option maxHeartbeats 4000000 in
theorem ends_om {w : World} {gp : Nat} {v : Value} {l : List (Int × Int)} (h : OM w gp v l) (hn : l.length ≤ 1000000) (lo hi : Int) (hlh : lo ≤ hi) :
    Calls Tryd.prog 87 #[.pointer (some ⟨gp, 0, none⟩), spV lo hi] w fun e w' => e = .returned (.tuple #[.int .i64 (pos lo l), .int .i64 (posTo hi l), .int .i64 0]) ∧ Nw w w' := by
  haveI : In gp w := ⟨h.lt⟩
  have HF := Lib.hid (fun W (hw : Nw w W) k => find_om (h.nw hw) hn k)
  have HC := Lib.hid (spcheck_ok lo hi hlh)
  unfold spV at HC ⊢
  have hp := posTo_le hi l
  unfold posTo at hp ⊢
  have HB := Lib.hid (HF.out w (Nw.refl w) hi)
  have HF2 := Lib.hid (fun W (hw : Nw w W) => HF.out W hw hi)
  obtain ⟨P, hP⟩ : ∃ P, P = pos hi l := ⟨_, rfl⟩
  rw [← hP] at HF2 hp ⊢
  cases hb : hasK hi l with
  | true =>
    rw [hb] at HF2
    have hw1 : IntKind.i64.wrap ((P : Int) + 1) = ((P + 1 : Nat) : Int) := by rw [hb] at hp; simp at hp; rw [IntKind.wrap_i64]; omega
    have e1 : (if true = true then P + 1 else P) = P + 1 := rfl
    rw [e1]
    clear h hlh hb hP HB e1 hp
    go_enter Tryd.func87, Tryd.ntmps87
    go_wp2_with fail
    refine (HC.out _).mono ?_
    rintro e w2 ⟨rfl, d2, rfl⟩
    go_wp2_with fail
    refine (HF.out _ ((by repeat (first | exact Xt.Nw.refl _ | refine Xt.Nw.drew ?_ | refine Xt.Nw.drewN ?_ _ | refine Xt.Nw.alloc ?_ _ | refine Xt.Nw.joined ?_ | refine Xt.Nw.drewd ?_ | refine Xt.Nw.drewdN ?_ | refine Xt.Nw.ext ?_ | refine Xt.Nw.ext_some ?_ (by assumption) | refine Xt.Nw.setCell ?_ (by simp [go_sem] <;> omega) _))) lo).mono ?_
    rintro e w3 ⟨rfl, d3, rfl⟩
    go_wp2_with fail
    refine (HF2.out _ ((by repeat (first | exact Xt.Nw.refl _ | refine Xt.Nw.drew ?_ | refine Xt.Nw.drewN ?_ _ | refine Xt.Nw.alloc ?_ _ | refine Xt.Nw.joined ?_ | refine Xt.Nw.drewd ?_ | refine Xt.Nw.drewdN ?_ | refine Xt.Nw.ext ?_ | refine Xt.Nw.ext_some ?_ (by assumption) | refine Xt.Nw.setCell ?_ (by simp [go_sem] <;> omega) _)))).mono ?_
    rintro e w4 ⟨rfl, d4, rfl⟩
    go_wp2
    refine bodyPost_ret (v := .tuple #[.int .i64 (pos lo l), .int .i64 (P + 1 : Nat), .int .i64 0]) ?_ rfl ⟨rfl, (by repeat (first | exact Xt.Nw.refl _ | refine Xt.Nw.drew ?_ | refine Xt.Nw.drewN ?_ _ | refine Xt.Nw.alloc ?_ _ | refine Xt.Nw.joined ?_ | refine Xt.Nw.drewd ?_ | refine Xt.Nw.drewdN ?_ | refine Xt.Nw.ext ?_ | refine Xt.Nw.ext_some ?_ (by assumption) | refine Xt.Nw.setCell ?_ (by simp [go_sem] <;> omega) _))⟩
    simp [results, Tryd.results87, go_sem]
  | false =>
    rw [hb] at HF2
    have e1 : (if false = true then P + 1 else P) = P := rfl
    rw [e1]
    clear h hlh hb hP HB e1 hp
    go_enter Tryd.func87, Tryd.ntmps87
    go_wp2_with fail
    refine (HC.out _).mono ?_
    rintro e w2 ⟨rfl, d2, rfl⟩
    go_wp2_with fail
    refine (HF.out _ ((by repeat (first | exact Xt.Nw.refl _ | refine Xt.Nw.drew ?_ | refine Xt.Nw.drewN ?_ _ | refine Xt.Nw.alloc ?_ _ | refine Xt.Nw.joined ?_ | refine Xt.Nw.drewd ?_ | refine Xt.Nw.drewdN ?_ | refine Xt.Nw.ext ?_ | refine Xt.Nw.ext_some ?_ (by assumption) | refine Xt.Nw.setCell ?_ (by simp [go_sem] <;> omega) _))) lo).mono ?_
    rintro e w3 ⟨rfl, d3, rfl⟩
    go_wp2_with fail
    refine (HF2.out _ ((by repeat (first | exact Xt.Nw.refl _ | refine Xt.Nw.drew ?_ | refine Xt.Nw.drewN ?_ _ | refine Xt.Nw.alloc ?_ _ | refine Xt.Nw.joined ?_ | refine Xt.Nw.drewd ?_ | refine Xt.Nw.drewdN ?_ | refine Xt.Nw.ext ?_ | refine Xt.Nw.ext_some ?_ (by assumption) | refine Xt.Nw.setCell ?_ (by simp [go_sem] <;> omega) _)))).mono ?_
    rintro e w4 ⟨rfl, d4, rfl⟩
    go_wp2
    refine bodyPost_ret (v := .tuple #[.int .i64 (pos lo l), .int .i64 P, .int .i64 0]) ?_ rfl ⟨rfl, (by repeat (first | exact Xt.Nw.refl _ | refine Xt.Nw.drew ?_ | refine Xt.Nw.drewN ?_ _ | refine Xt.Nw.alloc ?_ _ | refine Xt.Nw.joined ?_ | refine Xt.Nw.drewd ?_ | refine Xt.Nw.drewdN ?_ | refine Xt.Nw.ext ?_ | refine Xt.Nw.ext_some ?_ (by assumption) | refine Xt.Nw.setCell ?_ (by simp [go_sem] <;> omega) _))⟩
    simp [results, Tryd.results87, go_sem]
theorem outR_sub (lo hi : Int) (l : List (Int × Int)) : (outR lo hi l).Sublist l := List.filter_sublist
theorem inR_len {lo hi : Int} (hlh : lo ≤ hi) {l : List (Int × Int)} (ha : asc l) : (inR lo hi l).length = posTo hi l - pos lo l := by
  rw [← (split_range hlh ha).1, List.length_drop, List.length_take, Nat.min_eq_left (posTo_le hi l)]
theorem outR_len {lo hi : Int} (hlh : lo ≤ hi) {l : List (Int × Int)} (ha : asc l) : (outR lo hi l).length = pos lo l + (l.length - posTo hi l) := by
  rw [← (split_range hlh ha).2, List.length_append, List.length_drop, List.length_take, Nat.min_eq_left (pos_le lo l)]
set_option maxRecDepth 20000 in
set_option maxHeartbeats 4000000 in
theorem delr_om {w : World} {gp : Nat} {v : Value} {l : List (Int × Int)} (h : OM w gp v l) (hn : l.length ≤ 1000000) (lo hi : Int) (hlh : lo ≤ hi) :
    Calls Tryd.prog 73 #[.pointer (some ⟨gp, 0, none⟩), spV lo hi] w fun e w' => e = .returned (.tuple #[.int .i64 (inR lo hi l).length, .int .i64 0]) ∧ ∃ v', Upd w gp v (outR lo hi l) v' w' := by
  haveI : In gp w := ⟨h.lt⟩
  have HE := Lib.hid (fun W (hw : Nw w W) => ends_om (h.nw hw) hn lo hi hlh)
  have HIL := Lib.hid (inR_len hlh h.asc)
  have HOL := Lib.hid (outR_len hlh h.asc)
  have HSP := Lib.hid (split_range hlh h.asc).2
  have hle := pos_le_to hlh h.asc
  have hto := posTo_le hi l
  rw [HIL.out]
  obtain ⟨i, hi'⟩ : ∃ i, i = pos lo l := ⟨_, rfl⟩
  obtain ⟨j, hj'⟩ : ∃ j, j = posTo hi l := ⟨_, rfl⟩
  simp only [← hi', ← hj'] at HE HIL HOL HSP hle hto ⊢
  have q1 : IntKind.i64.wrap ((j : Int) - (i : Int)) = ((j - i : Nat) : Int) := by rw [IntKind.wrap_i64]; omega
  have HH := Lib.hid h
  have HLE := Lib.hid hle
  have HTO := Lib.hid hto
  unfold spV at HE ⊢
  clear h hlh hi' hj' hle hto
  go_enter Tryd.func73, Tryd.ntmps73
  go_wp2_with fail
  refine (HE.out _ ((by repeat (first | exact Xt.Nw.refl _ | refine Xt.Nw.drew ?_ | refine Xt.Nw.drewN ?_ _ | refine Xt.Nw.alloc ?_ _ | refine Xt.Nw.joined ?_ | refine Xt.Nw.drewd ?_ | refine Xt.Nw.drewdN ?_ | refine Xt.Nw.ext ?_ | refine Xt.Nw.ext_some ?_ (by assumption) | refine Xt.Nw.setCell ?_ (by simp [go_sem] <;> omega) _)))).mono ?_
  rintro e W2 ⟨rfl, hn2⟩
  have hn2 : Nw w W2 := Nw.trans (by exact (by repeat (first | exact Xt.Nw.refl _ | refine Xt.Nw.drew ?_ | refine Xt.Nw.drewN ?_ _ | refine Xt.Nw.alloc ?_ _ | refine Xt.Nw.joined ?_ | refine Xt.Nw.drewd ?_ | refine Xt.Nw.drewdN ?_ | refine Xt.Nw.ext ?_ | refine Xt.Nw.ext_some ?_ (by assumption) | refine Xt.Nw.setCell ?_ (by simp [go_sem] <;> omega) _))) hn2
  have h2 := HH.out.nw hn2
  have p2 := h2.p0
  haveI : In gp W2 := ⟨h2.lt⟩
  have H2 := Lib.hid h2
  have HN2 := Lib.hid hn2
  clear h2 hn2
  go_wp2_with fail
  refine (delete_any v l i j (i + (l.length - j)) W2 H2.out.row HLE.out HTO.out hn rfl).mono ?_
  rintro e W3 ⟨v', rfl, hown, hch, hvb⟩
  have hgp : gp ∉ v.ownBlock.toList := by rw [Option.mem_toList]; exact H2.out.ne
  have r3 := hch.cell H2.out.p0 hgp
  have z3 := (hch.frozen H2.out.lt hgp).trans H2.out.pz
  obtain ⟨A, n', c', hv'⟩ : ∃ A n' c', v' = .slice A n' c' := by
    rcases own_forms hown with ⟨rfl, _⟩ | ⟨g, c, rfl, _⟩
    · exact ⟨_, _, _, rfl⟩
    · exact ⟨_, _, _, rfl⟩
  have HU := Lib.hid (Upd.store (v := v) (w := W2) r3 z3 (by rw [HOL.out, ← HSP.out]; exact hown) (by rw [hvb]; exact H2.out.ne) (asc_sub H2.out.asc (outR_sub lo hi l)) hch (.inl hvb))
  subst hv'
  clear hown hch hgp hvb
  go_wp2
  refine bodyPost_ret (v := .tuple #[.int .i64 (j - i : Nat), .int .i64 0]) ?_ rfl ⟨rfl, _, HU.out.after HN2.out⟩
  simp [results, Tryd.results73, go_sem]
end Go.Proofs.YtdjcndpnjoahmaaDoor
namespace Go.Proofs.YtdjcndpnjoahmaaDoor
open Go.RowKit Go.Xt
/-! The ordered map at any pairs: Next, Move. -/
theorem inR_head {lo hi : Int} (hlh : lo ≤ hi) {l : List (Int × Int)} (ha : asc l) : (inR lo hi l)[0]? = if pos lo l < posTo hi l then l[pos lo l]? else none := by
  rw [← (split_range hlh ha).1, List.getElem?_drop, List.getElem?_take]
  simp
/-- The first pair of a range. -/
def nextL (lo hi : Int) (l : List (Int × Int)) : Option (Int × Int) := (inR lo hi l)[0]?
set_option maxRecDepth 20000 in
set_option maxHeartbeats 4000000 in
theorem next_none {w : World} {gp : Nat} {v : Value} {l : List (Int × Int)} (h : OM w gp v l) (hn : l.length ≤ 1000000) (lo hi : Int) (hlh : lo ≤ hi) (hx : nextL lo hi l = none) :
    Calls Tryd.prog 75 #[.pointer (some ⟨gp, 0, none⟩), spV lo hi] w fun e w' => e = .returned (.tuple #[spV 0 0, .bool false, .int .i64 0]) ∧ Nw w w' := by
  haveI : In gp w := ⟨h.lt⟩
  have HE := Lib.hid (fun W (hw : Nw w W) => ends_om (h.nw hw) hn lo hi hlh)
  have hpe : posTo hi l = pos lo l := by
    have h1 := inR_head hlh h.asc
    have h2 := pos_le_to hlh h.asc
    have h3 := posTo_le hi l
    unfold nextL at hx
    rw [hx] at h1
    split at h1
    · rw [List.getElem?_eq_getElem (by omega)] at h1; cases h1
    · omega
  rw [hpe] at HE
  obtain ⟨i, hi'⟩ : ∃ i, i = pos lo l := ⟨_, rfl⟩
  simp only [← hi'] at HE
  unfold spV at HE ⊢
  clear h hlh hi' hpe hx
  go_enter Tryd.func75, Tryd.ntmps75
  go_wp2_with fail
  refine (HE.out _ ((by repeat (first | exact Xt.Nw.refl _ | refine Xt.Nw.drew ?_ | refine Xt.Nw.drewN ?_ _ | refine Xt.Nw.alloc ?_ _ | refine Xt.Nw.joined ?_ | refine Xt.Nw.drewd ?_ | refine Xt.Nw.drewdN ?_ | refine Xt.Nw.ext ?_ | refine Xt.Nw.ext_some ?_ (by assumption) | refine Xt.Nw.setCell ?_ (by simp [go_sem] <;> omega) _)))).mono ?_
  rintro e W2 ⟨rfl, d2, rfl⟩
  go_wp2
  refine bodyPost_ret (v := .tuple #[.agg #[.int .u64 0, .int .u64 0], .bool false, .int .i64 0]) ?_ rfl ⟨rfl, (by repeat (first | exact Xt.Nw.refl _ | refine Xt.Nw.drew ?_ | refine Xt.Nw.drewN ?_ _ | refine Xt.Nw.alloc ?_ _ | refine Xt.Nw.joined ?_ | refine Xt.Nw.drewd ?_ | refine Xt.Nw.drewdN ?_ | refine Xt.Nw.ext ?_ | refine Xt.Nw.ext_some ?_ (by assumption) | refine Xt.Nw.setCell ?_ (by simp [go_sem] <;> omega) _))⟩
  simp [results, Tryd.results75, go_sem]
set_option maxRecDepth 20000 in
set_option maxHeartbeats 4000000 in
theorem next_some {w : World} {gp : Nat} {v : Value} {l : List (Int × Int)} (h : OM w gp v l) (hn : l.length ≤ 1000000) (lo hi : Int) (hlh : lo ≤ hi) (k x : Int) (hx : nextL lo hi l = some (k, x)) :
    Calls Tryd.prog 75 #[.pointer (some ⟨gp, 0, none⟩), spV lo hi] w fun e w' => e = .returned (.tuple #[spV k x, .bool true, .int .i64 0]) ∧ Nw w w' := by
  haveI : In gp w := ⟨h.lt⟩
  have HE := Lib.hid (fun W (hw : Nw w W) => ends_om (h.nw hw) hn lo hi hlh)
  have hpe : pos lo l < posTo hi l ∧ l[pos lo l]? = some (k, x) := by
    have h1 := inR_head hlh h.asc
    unfold nextL at hx
    rw [hx] at h1
    split at h1
    · rename_i h2; exact ⟨h2, h1.symm⟩
    · cases h1
  have p0 := h.p0
  rcases h.form with ⟨rfl, rfl⟩ | ⟨g, c, rfl, -, -, -⟩
  · simp at hpe
  have c0 := (h.pat.at' _ _ hpe.2).1
  have c1 := (h.pat.at' _ _ hpe.2).2
  have hP := (List.getElem?_eq_some_iff.1 hpe.2).1
  haveI : In g w := ⟨World.block_lt_of_cell? w _ c0⟩
  obtain ⟨i, hi'⟩ : ∃ i, i = pos lo l := ⟨_, rfl⟩
  obtain ⟨j, hj'⟩ : ∃ j, j = posTo hi l := ⟨_, rfl⟩
  obtain ⟨n, hne⟩ : ∃ n, n = l.length := ⟨_, rfl⟩
  simp only [← hi', ← hj'] at HE hpe hP c0 c1
  rw [← hne] at hP p0
  have q0 : ((i : Int) == (j : Int)) = false := by simp; omega
  have q1 : (i : Int) < (n : Int) := by omega
  have q2 : (0 : Int) ≤ (i : Int) := by omega
  have q3 : ¬ i = j := by omega
  unfold spV at HE ⊢
  clear h hlh hi' hj' hne hpe hx
  go_enter Tryd.func75, Tryd.ntmps75
  go_wp2_with fail
  refine (HE.out _ ((by repeat (first | exact Xt.Nw.refl _ | refine Xt.Nw.drew ?_ | refine Xt.Nw.drewN ?_ _ | refine Xt.Nw.alloc ?_ _ | refine Xt.Nw.joined ?_ | refine Xt.Nw.drewd ?_ | refine Xt.Nw.drewdN ?_ | refine Xt.Nw.ext ?_ | refine Xt.Nw.ext_some ?_ (by assumption) | refine Xt.Nw.setCell ?_ (by simp [go_sem] <;> omega) _)))).mono ?_
  rintro e W2 ⟨rfl, d2, rfl⟩
  go_wp2
  refine bodyPost_ret (v := .tuple #[.agg #[.int .u64 k, .int .u64 x], .bool true, .int .i64 0]) ?_ rfl ⟨rfl, (by repeat (first | exact Xt.Nw.refl _ | refine Xt.Nw.drew ?_ | refine Xt.Nw.drewN ?_ _ | refine Xt.Nw.alloc ?_ _ | refine Xt.Nw.joined ?_ | refine Xt.Nw.drewd ?_ | refine Xt.Nw.drewdN ?_ | refine Xt.Nw.ext ?_ | refine Xt.Nw.ext_some ?_ (by assumption) | refine Xt.Nw.setCell ?_ (by simp [go_sem] <;> omega) _))⟩
  simp [results, Tryd.results75, go_sem]
/-- Pairs put, their keys moved. -/
def mvL (b : Int) (r l : List (Int × Int)) : List (Int × Int) := r.foldl (fun m p => putL (p.1 + b) p.2 m) l
/-- A map after a move. -/
def moveL (lo hi b : Int) (l : List (Int × Int)) : List (Int × Int) := mvL b (inR lo hi l) (outR lo hi l)
theorem mvL_snoc (b : Int) (r l : List (Int × Int)) (p : Int × Int) : mvL b (r ++ [p]) l = putL (p.1 + b) p.2 (mvL b r l) := by simp [mvL]
theorem mvL_len (b : Int) : ∀ (r l : List (Int × Int)), (mvL b r l).length ≤ l.length + r.length
  | [], l => Nat.le_refl _
  | p :: r, l => by
    have h1 := mvL_len b r (putL (p.1 + b) p.2 l)
    have h2 := put_le (p.1 + b) p.2 l
    show (mvL b r (putL (p.1 + b) p.2 l)).length ≤ _
    simp; omega
theorem mvL_asc (b : Int) : ∀ (r l : List (Int × Int)), asc l → asc (mvL b r l)
  | [], l, h => h
  | p :: r, l, h => mvL_asc b r _ (put_asc _ _ h)
theorem filter_two {α : Type} (p : α → Bool) (l : List α) : (l.filter fun x => !p x).length + (l.filter p).length = l.length := by
  induction l with
  | nil => rfl
  | cons x l ih => cases hp : p x <;> simp [List.filter_cons, hp] <;> omega
theorem outR_inR (lo hi : Int) (l : List (Int × Int)) : (outR lo hi l).length + (inR lo hi l).length = l.length := filter_two _ _
/-- Keys and values are numbers of 64 bits. -/
def U64s (l : List (Int × Int)) : Prop := ∀ p ∈ l, (0 ≤ p.1 ∧ p.1 < 18446744073709551616) ∧ 0 ≤ p.2 ∧ p.2 < 18446744073709551616
set_option maxRecDepth 20000 in
set_option maxHeartbeats 4000000 in
theorem move_nil {w : World} {gp : Nat} (h : OM w gp (.slice none 0 0) []) (lo hi by_ : Int) (hlh : lo ≤ hi) (hlo : 0 ≤ lo) (hb0 : 0 < by_) (hb1 : by_ ≤ 18446744073709551615 - hi) :
    Calls Tryd.prog 71 #[.pointer (some ⟨gp, 0, none⟩), spV lo hi, .int .u64 by_] w fun e w' => e = .returned (.tuple #[.int .i64 0, .int .i64 0]) ∧ ∃ v', Upd w gp (.slice none 0 0) [] v' w' := by
  haveI : In gp w := ⟨h.lt⟩
  have p0 := h.p0
  have z0 := h.pz
  have HE := Lib.hid (fun W (hw : Nw w W) => ends_om (h.nw hw) (by simp) lo hi hlh)
  have q1 : (by_ == 0) = false := by simp; omega
  have q2 : ¬ by_ = 0 := by omega
  have q3 : IntKind.u64.wrap (18446744073709551615 - hi) = 18446744073709551615 - hi := by rw [IntKind.wrap_u64]; omega
  have q4 : decide (18446744073709551615 - hi < by_) = false := by simp; omega
  have HH := Lib.hid h
  have HCN := Lib.hid (fun W => clone_any none 0 0 [] W ⟨rfl, fun h => by omega⟩ (by omega) (fun _ => ⟨rfl, rfl⟩))
  have HDN := Lib.hid delete_nil
  have e1 : pos lo [] = 0 := rfl
  have e2 : posTo hi [] = 0 := rfl
  rw [e1, e2] at HE
  unfold spV at HE ⊢
  clear h hlh hlo hb0 hb1 e1 e2
  go_enter Tryd.func71, Tryd.ntmps71
  go_wp2_with fail
  refine (HE.out _ ((by repeat (first | exact Xt.Nw.refl _ | refine Xt.Nw.drew ?_ | refine Xt.Nw.drewN ?_ _ | refine Xt.Nw.alloc ?_ _ | refine Xt.Nw.joined ?_ | refine Xt.Nw.drewd ?_ | refine Xt.Nw.drewdN ?_ | refine Xt.Nw.ext ?_ | refine Xt.Nw.ext_some ?_ (by assumption) | refine Xt.Nw.setCell ?_ (by simp [go_sem] <;> omega) _)))).mono ?_
  rintro e W2 ⟨rfl, d2, rfl⟩
  go_wp2_with fail
  refine (HCN.out _).mono ?_
  rintro e W3 ⟨vC, rfl, hown, d3, rfl⟩
  obtain ⟨A, cC, hvC⟩ : ∃ A cC, vC = .slice A 0 cC := by
    rcases own_forms hown with ⟨rfl, _⟩ | ⟨g, c, rfl, _⟩
    · exact ⟨_, _, rfl⟩
    · exact ⟨_, _, rfl⟩
  subst hvC
  clear hown
  go_wp2_with fail
  refine (HDN.out _).mono ?_
  rintro e W4 ⟨rfl, hn4⟩
  have hn4 : Nw w W4 := Nw.trans (by exact (by repeat (first | exact Xt.Nw.refl _ | refine Xt.Nw.drew ?_ | refine Xt.Nw.drewN ?_ _ | refine Xt.Nw.alloc ?_ _ | refine Xt.Nw.joined ?_ | refine Xt.Nw.drewd ?_ | refine Xt.Nw.drewdN ?_ | refine Xt.Nw.ext ?_ | refine Xt.Nw.ext_some ?_ (by assumption) | refine Xt.Nw.setCell ?_ (by simp [go_sem] <;> omega) _))) hn4
  have r0 := cell_nw p0 hn4
  have rz := (frozen_nw HH.out.lt hn4).trans z0
  have hu : Upd W4 gp (.slice none 0 0) [] (.slice none 0 0) (W4.setCell ⟨gp, 0, none⟩ (.slice none 0 0)) :=
    Upd.store r0 rz (World.ownsRow_nil _ _ _ _) (by simp [Value.ownBlock]) List.Pairwise.nil ((Chg.of_nw (Nw.refl W4) : Chg [] W4 W4).wide (by simp)) (.inl rfl)
  have HU := Lib.hid (hu.after hn4)
  clear hu hn4
  go_wp2
  go_loopw [54] (fun a wr => a = .int .i64 0 ∧ wr = W4.setCell ⟨gp, 0, none⟩ (.slice none 0 0)) (fun _ _ => 0)
  case atStart => exact ⟨rfl, rfl⟩
  case round =>
    obtain ⟨rfl, rfl⟩ := hrel
    go_wp2
    refine bodyPost_ret (v := .tuple #[.int .i64 0, .int .i64 0]) ?_ rfl ⟨rfl, _, HU.out⟩
    simp [results, Tryd.results71, go_sem]
end Go.Proofs.YtdjcndpnjoahmaaDoor
namespace Go.Proofs.YtdjcndpnjoahmaaDoor
open Go.RowKit Go.Xt
/-! The ordered map at any pairs: Move. -/
theorem take_get {α : Type} {l : List α} {i : Nat} {x : α} (h : l[i]? = some x) : l.take (i + 1) = l.take i ++ [x] := by
  rw [List.take_add_one, h]; rfl
set_option maxRecDepth 20000 in
set_option maxHeartbeats 8000000 in
theorem move_some {w : World} {gp g c : Nat} {l : List (Int × Int)} (h : OM w gp (.slice (some ⟨g, 0, none⟩) l.length c) l) (hn : l.length ≤ 500000) (lo hi by_ : Int) (hlh : lo ≤ hi) (hlo : 0 ≤ lo) (hb0 : 0 < by_) (hb1 : by_ ≤ 18446744073709551615 - hi) :
    Calls Tryd.prog 71 #[.pointer (some ⟨gp, 0, none⟩), spV lo hi, .int .u64 by_] w fun e w' => e = .returned (.tuple #[.int .i64 (inR lo hi l).length, .int .i64 0]) ∧ ∃ v', Upd w gp (.slice (some ⟨g, 0, none⟩) l.length c) (moveL lo hi by_ l) v' w' := by
  haveI : In gp w := ⟨h.lt⟩
  have hgl := h.rlt rfl
  haveI : In g w := ⟨hgl⟩
  have p0 := h.p0
  have HE := Lib.hid (fun W (hw : Nw w W) => ends_om (h.nw hw) (by omega) lo hi hlh)
  have HIL := Lib.hid (inR_len hlh h.asc)
  have HOL := Lib.hid (outR_len hlh h.asc)
  have HSP := Lib.hid (split_range hlh h.asc)
  have hle := pos_le_to hlh h.asc
  have hto := posTo_le hi l
  have hin : ∀ p ∈ inR lo hi l, lo ≤ p.1 ∧ p.1 ≤ hi := fun p hp => by
    have := (List.mem_filter.1 hp).2
    simpa using this
  obtain ⟨i, hi'⟩ : ∃ i, i = pos lo l := ⟨_, rfl⟩
  obtain ⟨j, hj'⟩ : ∃ j, j = posTo hi l := ⟨_, rfl⟩
  simp only [← hi', ← hj'] at HE HIL HOL HSP hle hto
  have q1 : (by_ == 0) = false := by simp; omega
  have q2 : ¬ by_ = 0 := by omega
  have q3 : IntKind.u64.wrap (18446744073709551615 - hi) = 18446744073709551615 - hi := by rw [IntKind.wrap_u64]; omega
  have q4 : decide (18446744073709551615 - hi < by_) = false := by simp; omega
  have HH := Lib.hid h
  have HLE := Lib.hid hle
  have HTO := Lib.hid hto
  have HIN := Lib.hid hin
  have HLO := Lib.hid hlo
  have HHI := Lib.hid hb1
  have HB0 := Lib.hid hb0
  have HN := Lib.hid hn
  have HOI := Lib.hid (outR_inR lo hi l)
  unfold moveL
  obtain ⟨R, hR⟩ : ∃ R, R = inR lo hi l := ⟨_, rfl⟩
  obtain ⟨O, hO⟩ : ∃ O, O = outR lo hi l := ⟨_, rfl⟩
  simp only [← hR, ← hO] at HIL HOL HSP HIN HOI ⊢
  have HOS := Lib.hid (hO ▸ outR_sub lo hi l : O.Sublist l)
  obtain ⟨m, hm⟩ : ∃ m, m = R.length := ⟨_, rfl⟩
  rw [← hm] at HIL HOI ⊢
  have HM := Lib.hid hm
  have HGL := Lib.hid hgl
  clear hgl
  have hlc : l.length ≤ c := by
    obtain ⟨_, _, _, _, h5⟩ := own_full h.row
    exact h5
  have HRD : ∀ (W : World) (A : Option Addr) (k : Nat), Nw w W → k = m → (A = some ⟨g, i * 2, none⟩ ∨ m = 0) → Rd W 2 A k (pcells R) := by
    rintro W A k hw rfl hA
    refine ⟨by rw [pcells_len, HM.out], fun h0 => ?_⟩
    rcases hA with rfl | h1
    · have hwh := HH.out.nw hw
      refine ⟨g, i * 2, rfl, hwh.rlt rfl, fun q u hu => ?_⟩
      have hq := (List.getElem?_eq_some_iff.1 hu).1
      rw [pcells_len, ← HM.out, HIL.out] at hq
      have ht := HTO.out
      rw [hwh.row.cellAt _ (by omega)]
      have e1 : pcells l = pcells (l.take i) ++ (pcells R ++ pcells (l.drop j)) := by
        rw [← HSP.out.1, ← pcells_app, ← pcells_app]
        congr 1
        have e2 : l.take i = (l.take j).take i := by rw [List.take_take, Nat.min_eq_left HLE.out]
        rw [e2, ← List.append_assoc, List.take_append_drop, List.take_append_drop]
      rw [e1, List.getElem?_append_right (by rw [pcells_len, List.length_take]; omega), pcells_len, List.length_take, Nat.min_eq_left (by have := HLE.out; omega), show i * 2 + q - i * 2 = q by omega, List.getElem?_append_left (by rw [pcells_len, ← HM.out, HIL.out]; omega)]
      exact hu
    · omega
  have HRDh := Lib.hid HRD
  obtain ⟨n, hne⟩ : ∃ n, n = l.length := ⟨_, rfl⟩
  have HNE := Lib.hid hne
  rw [← hne] at HH HTO HOL hlc p0 HN hto ⊢
  have b1 : (i : Int) ≤ (j : Int) := by omega
  have b2 : (j : Int) ≤ (n : Int) := by omega
  have b3 : (n : Int) ≤ (c : Int) := by omega
  have b4 : (j : Int) ≤ (c : Int) := by omega
  have b5 : i ≤ j := by omega
  have b6 : j ≤ c := by omega
  unfold spV at HE ⊢
  clear h hlh hi' hj' hle hto hin hlo hb0 hb1 hn hR hO hne hm HRD
  have fin : ∀ (W2 W3 W4 : World) (k : Nat) (vC v' : Value) (ops : Nat), True := fun _ _ _ _ _ _ _ => trivial
  clear fin
  by_cases hci : c ≤ i
  · go_enter Tryd.func71, Tryd.ntmps71
    go_wp2_with fail
    refine (HE.out _ ((by repeat (first | exact Xt.Nw.refl _ | refine Xt.Nw.drew ?_ | refine Xt.Nw.drewN ?_ _ | refine Xt.Nw.alloc ?_ _ | refine Xt.Nw.joined ?_ | refine Xt.Nw.drewd ?_ | refine Xt.Nw.drewdN ?_ | refine Xt.Nw.ext ?_ | refine Xt.Nw.ext_some ?_ (by assumption) | refine Xt.Nw.setCell ?_ (by simp [go_sem] <;> omega) _)))).mono ?_
    rintro e W2 ⟨rfl, d2, rfl⟩
    go_wp2_with fail
    refine (clone_any _ _ _ R _ (HRDh.out _ _ _ ((by repeat (first | exact Xt.Nw.refl _ | refine Xt.Nw.drew ?_ | refine Xt.Nw.drewN ?_ _ | refine Xt.Nw.alloc ?_ _ | refine Xt.Nw.joined ?_ | refine Xt.Nw.drewd ?_ | refine Xt.Nw.drewdN ?_ | refine Xt.Nw.ext ?_ | refine Xt.Nw.ext_some ?_ (by assumption) | refine Xt.Nw.setCell ?_ (by simp [go_sem] <;> omega) _))) HIL.out.symm (by first | exact .inl rfl | exact .inr (by have := HIL.out; have := HTO.out; omega))) (by have := HN.out; have := HTO.out; omega) (by intro h; cases h)).mono ?_
    rintro e W3 ⟨vC, rfl, hown, hn3⟩
    have hn3 : Nw w W3 := Nw.trans (by exact (by repeat (first | exact Xt.Nw.refl _ | refine Xt.Nw.drew ?_ | refine Xt.Nw.drewN ?_ _ | refine Xt.Nw.alloc ?_ _ | refine Xt.Nw.joined ?_ | refine Xt.Nw.drewd ?_ | refine Xt.Nw.drewdN ?_ | refine Xt.Nw.ext ?_ | refine Xt.Nw.ext_some ?_ (by assumption) | refine Xt.Nw.setCell ?_ (by simp [go_sem] <;> omega) _))) hn3
    obtain ⟨A, cC, hvC⟩ : ∃ A cC, vC = .slice A m cC := by
      rcases own_forms hown with ⟨rfl, h0⟩ | ⟨g, c, rfl, _⟩
      · rw [HIL.out, h0]; exact ⟨_, _, rfl⟩
      · rw [HIL.out]; exact ⟨_, _, rfl⟩
    rw [← HIL.out] at hown
    have h3 := HH.out.nw hn3
    have hown' : W3.ownsRow w.heap.size 85 2 (.slice A m cC) m (pcells R) := hvC ▸ own_le hown (Nw.grown (by exact (by repeat (first | exact Xt.Nw.refl _ | refine Xt.Nw.drew ?_ | refine Xt.Nw.drewN ?_ _ | refine Xt.Nw.alloc ?_ _ | refine Xt.Nw.joined ?_ | refine Xt.Nw.drewd ?_ | refine Xt.Nw.drewdN ?_ | refine Xt.Nw.ext ?_ | refine Xt.Nw.ext_some ?_ (by assumption) | refine Xt.Nw.setCell ?_ (by simp [go_sem] <;> omega) _)))).size
    have p3 := cell_nw p0 hn3
    haveI : In gp W3 := ⟨h3.lt⟩
    haveI : In g W3 := ⟨h3.rlt rfl⟩
    have H3 := Lib.hid h3
    have HN3 := Lib.hid hn3
    have HOW := Lib.hid hown'
    subst hvC
    clear h3 hn3 hown hown'
    go_wp2_with fail
    refine (delete_any _ l i j (i + (n - j)) W3 H3.out.row HLE.out (by have := HTO.out; have := HNE.out; omega) (by have := HN.out; have := HNE.out; omega) (by rw [HNE.out])).mono ?_
    rintro e W4 ⟨v4, rfl, hown4, hch4, hvb⟩
    have hgp : gp ∉ (Value.slice (some ⟨g, 0, none⟩) n c).ownBlock.toList := by rw [Option.mem_toList]; exact H3.out.ne
    have r4 := hch4.cell H3.out.p0 hgp
    have z4 := (hch4.frozen H3.out.lt hgp).trans H3.out.pz
    obtain ⟨A4, n4, c4, hv4⟩ : ∃ A n' c', v4 = .slice A n' c' := by
      rcases own_forms hown4 with ⟨rfl, _⟩ | ⟨g, c, rfl, _⟩
      · exact ⟨_, _, _, rfl⟩
      · exact ⟨_, _, _, rfl⟩
    have hst := Upd.store (v := (Value.slice (some ⟨g, 0, none⟩) n c)) (w := W3) r4 z4 (l := O) (by rw [HOL.out, ← HSP.out.2]; exact hown4) (by rw [hvb]; exact H3.out.ne) (asc_sub H3.out.asc HOS.out) hch4 (.inl hvb)
    have hdis : ∀ q, (Value.slice A m cC).ownBlock = some q → q ≠ gp ∧ v4.ownBlock ≠ some q := fun q hq => by
      have h1 := (HOW.out.lt q hq).1
      have h2 := HH.out.lt
      have h3 := HGL.out
      refine ⟨by omega, fun h => ?_⟩
      rw [hvb] at h; cases h; simp at h1; omega
    have hrow5 := own_chg HOW.out hst.chg (fun q hq hx => by
      rcases mem_foot.1 hx with h | h
      · exact (hdis q hq).1 h
      · cases h; have h1 := (HOW.out.lt _ hq).1; have h3 := HGL.out; simp at h1; omega)
    have HST := Lib.hid (⟨hst.after HN3.out, hrow5, hdis⟩ : Upd w gp (Value.slice (some ⟨g, 0, none⟩) n c) O v4 (W4.setCell ⟨gp, 0, none⟩ v4) ∧ (W4.setCell ⟨gp, 0, none⟩ v4).ownsRow w.heap.size 85 2 (.slice A m cC) m (pcells R) ∧ ∀ q, (Value.slice A m cC).ownBlock = some q → q ≠ gp ∧ v4.ownBlock ≠ some q)
    subst hv4
    clear hown4 hch4 hvb hgp hst hdis hrow5
    go_wp2_with fail
    go_loopw [13, 54] (fun _ a wr => ∃ (q : Nat) (v' : Value), q ≤ m ∧ a = .int .i64 q ∧ Hid (Upd w gp (Value.slice (some ⟨g, 0, none⟩) n c) (mvL by_ (R.take q) O) v' wr ∧ wr.ownsRow w.heap.size 85 2 (.slice A m cC) m (pcells R) ∧ ∀ b, (Value.slice A m cC).ownBlock = some b → b ≠ gp ∧ v'.ownBlock ≠ some b)) (fun _ a _ => m - (intOf a).toNat)
    case atStart => exact ⟨0, _, Nat.zero_le _, rfl, HST⟩
    case round =>
      obtain ⟨q, v', hq, rfl, HU⟩ := hrel
      by_cases hqm : q < m
      · obtain ⟨⟨pk, px⟩, hp⟩ : ∃ p, R[q]? = some p := ⟨_, List.getElem?_eq_getElem (by have := HM.out; omega)⟩
        rcases own_forms HU.out.2.1 with ⟨hA, h0⟩ | ⟨gC, cC', hA, _, hin, _, _⟩
        · omega
        injection hA with a1 a2 a3
        subst a1 a3
        obtain ⟨y0, y1⟩ := pcells_get R q _ hp
        have hl := (List.getElem?_eq_some_iff.1 y1).1
        rw [pcells_len, ← HM.out] at hl
        have c0 : wr.cell? ⟨gC, q * 2, none⟩ = some (.int .u64 pk) := (HU.out.2.1.cellAt _ (by omega)).trans y0
        have c1 : wr.cell? ⟨gC, q * 2 + 1, none⟩ = some (.int .u64 px) := (HU.out.2.1.cellAt _ (by omega)).trans y1
        haveI : In gC wr := ⟨World.block_lt_of_cell? wr _ c0⟩
        haveI : In gp wr := ⟨HU.out.1.om.lt⟩
        have hpk := HIN.out _ (List.mem_of_getElem? hp)
        have qk : IntKind.u64.wrap (pk + by_) = pk + by_ := by
          have h1 := HLO.out; have h2 := HHI.out; have h3 := HB0.out
          simp at hpk
          rw [IntKind.wrap_u64]; omega
        have i1 : (q : Int) < (m : Int) := by omega
        have i2 : (0 : Int) ≤ (q : Int) := by omega
        have i3 : q < 1000000 := by have := HN.out; have := HTO.out; have := HIL.out; omega
        have HP := Lib.hid (take_get hp)
        have HQM := Lib.hid hqm
        clear y0 y1 hl hpk hp hin
        go_wp2_with fail
        refine (set_upd (HU.out.1.om.nw ((by repeat (first | exact Xt.Nw.refl _ | refine Xt.Nw.drew ?_ | refine Xt.Nw.drewN ?_ _ | refine Xt.Nw.alloc ?_ _ | refine Xt.Nw.joined ?_ | refine Xt.Nw.drewd ?_ | refine Xt.Nw.drewdN ?_ | refine Xt.Nw.ext ?_ | refine Xt.Nw.ext_some ?_ (by assumption) | refine Xt.Nw.setCell ?_ (by simp [go_sem] <;> omega) _)))) (by have h1 := mvL_len by_ (R.take q) O; have h2 := HN.out; have h3 := HOI.out; have h4 := HNE.out; have h5 : (R.take q).length ≤ q := List.length_take_le _ _; omega) _ _).mono ?_
        rintro e W7 ⟨rfl, v2, hu2⟩
        have hu2 : Upd wr gp v' _ v2 W7 := Upd.after ((by repeat (first | exact Xt.Nw.refl _ | refine Xt.Nw.drew ?_ | refine Xt.Nw.drewN ?_ _ | refine Xt.Nw.alloc ?_ _ | refine Xt.Nw.joined ?_ | refine Xt.Nw.drewd ?_ | refine Xt.Nw.drewdN ?_ | refine Xt.Nw.ext ?_ | refine Xt.Nw.ext_some ?_ (by assumption) | refine Xt.Nw.setCell ?_ (by simp [go_sem] <;> omega) _))) hu2
        have hrow7 := own_chg HU.out.2.1 hu2.chg (fun b hb hx => by
          have h1 := HU.out.2.2 b hb
          rcases mem_foot.1 hx with h | h
          · exact h1.1 h
          · exact h1.2 h)
        have hdis7 : ∀ b, (Value.slice (some ⟨gC, 0, none⟩) m cC).ownBlock = some b → b ≠ gp ∧ v2.ownBlock ≠ some b := fun b hb => by
          have h1 := HU.out.2.2 b hb
          have h2 := (HU.out.2.1.lt b hb).2
          refine ⟨h1.1, fun h => ?_⟩
          rcases hu2.moved with e | ⟨r, e, hr⟩
          · exact h1.2 (e ▸ h)
          · rw [e] at h; cases h; omega
        have HR := Lib.hid (⟨by rw [HP.out, mvL_snoc]; exact HU.out.1.trans hu2, hrow7, hdis7⟩ : Upd w gp (Value.slice (some ⟨g, 0, none⟩) n c) (mvL by_ (R.take (q + 1)) O) v2 W7 ∧ W7.ownsRow w.heap.size 85 2 (.slice (some ⟨gC, 0, none⟩) m cC) m (pcells R) ∧ ∀ b, (Value.slice (some ⟨gC, 0, none⟩) m cC).ownBlock = some b → b ≠ gp ∧ v2.ownBlock ≠ some b)
        clear hu2 hrow7 hdis7
        go_wp2
        exact ⟨⟨q + 1, v2, by have := HQM.out; omega, by go_num, HR⟩, by have := HQM.out; simp [intOf]; omega⟩
      · obtain rfl : q = m := by omega
        have hfull : R.take q = R := List.take_of_length_le (by rw [← HM.out]; exact Nat.le_refl _)
        rw [hfull] at HU
        clear hfull
        go_wp2
        refine bodyPost_ret (v := .tuple #[.int .i64 q, .int .i64 0]) ?_ rfl ⟨rfl, _, HU.out.1⟩
        simp [results, Tryd.results71, go_sem]
  · have hci2 : ¬ c = i := by omega
    go_enter Tryd.func71, Tryd.ntmps71
    go_wp2_with fail
    refine (HE.out _ ((by repeat (first | exact Xt.Nw.refl _ | refine Xt.Nw.drew ?_ | refine Xt.Nw.drewN ?_ _ | refine Xt.Nw.alloc ?_ _ | refine Xt.Nw.joined ?_ | refine Xt.Nw.drewd ?_ | refine Xt.Nw.drewdN ?_ | refine Xt.Nw.ext ?_ | refine Xt.Nw.ext_some ?_ (by assumption) | refine Xt.Nw.setCell ?_ (by simp [go_sem] <;> omega) _)))).mono ?_
    rintro e W2 ⟨rfl, d2, rfl⟩
    go_wp2_with fail
    refine (clone_any _ _ _ R _ (HRDh.out _ _ _ ((by repeat (first | exact Xt.Nw.refl _ | refine Xt.Nw.drew ?_ | refine Xt.Nw.drewN ?_ _ | refine Xt.Nw.alloc ?_ _ | refine Xt.Nw.joined ?_ | refine Xt.Nw.drewd ?_ | refine Xt.Nw.drewdN ?_ | refine Xt.Nw.ext ?_ | refine Xt.Nw.ext_some ?_ (by assumption) | refine Xt.Nw.setCell ?_ (by simp [go_sem] <;> omega) _))) HIL.out.symm (by first | exact .inl rfl | exact .inr (by have := HIL.out; have := HTO.out; omega))) (by have := HN.out; have := HTO.out; omega) (by intro h; cases h)).mono ?_
    rintro e W3 ⟨vC, rfl, hown, hn3⟩
    have hn3 : Nw w W3 := Nw.trans (by exact (by repeat (first | exact Xt.Nw.refl _ | refine Xt.Nw.drew ?_ | refine Xt.Nw.drewN ?_ _ | refine Xt.Nw.alloc ?_ _ | refine Xt.Nw.joined ?_ | refine Xt.Nw.drewd ?_ | refine Xt.Nw.drewdN ?_ | refine Xt.Nw.ext ?_ | refine Xt.Nw.ext_some ?_ (by assumption) | refine Xt.Nw.setCell ?_ (by simp [go_sem] <;> omega) _))) hn3
    obtain ⟨A, cC, hvC⟩ : ∃ A cC, vC = .slice A m cC := by
      rcases own_forms hown with ⟨rfl, h0⟩ | ⟨g, c, rfl, _⟩
      · rw [HIL.out, h0]; exact ⟨_, _, rfl⟩
      · rw [HIL.out]; exact ⟨_, _, rfl⟩
    rw [← HIL.out] at hown
    have h3 := HH.out.nw hn3
    have hown' : W3.ownsRow w.heap.size 85 2 (.slice A m cC) m (pcells R) := hvC ▸ own_le hown (Nw.grown (by exact (by repeat (first | exact Xt.Nw.refl _ | refine Xt.Nw.drew ?_ | refine Xt.Nw.drewN ?_ _ | refine Xt.Nw.alloc ?_ _ | refine Xt.Nw.joined ?_ | refine Xt.Nw.drewd ?_ | refine Xt.Nw.drewdN ?_ | refine Xt.Nw.ext ?_ | refine Xt.Nw.ext_some ?_ (by assumption) | refine Xt.Nw.setCell ?_ (by simp [go_sem] <;> omega) _)))).size
    have p3 := cell_nw p0 hn3
    haveI : In gp W3 := ⟨h3.lt⟩
    haveI : In g W3 := ⟨h3.rlt rfl⟩
    have H3 := Lib.hid h3
    have HN3 := Lib.hid hn3
    have HOW := Lib.hid hown'
    subst hvC
    clear h3 hn3 hown hown'
    go_wp2_with fail
    refine (delete_any _ l i j (i + (n - j)) W3 H3.out.row HLE.out (by have := HTO.out; have := HNE.out; omega) (by have := HN.out; have := HNE.out; omega) (by rw [HNE.out])).mono ?_
    rintro e W4 ⟨v4, rfl, hown4, hch4, hvb⟩
    have hgp : gp ∉ (Value.slice (some ⟨g, 0, none⟩) n c).ownBlock.toList := by rw [Option.mem_toList]; exact H3.out.ne
    have r4 := hch4.cell H3.out.p0 hgp
    have z4 := (hch4.frozen H3.out.lt hgp).trans H3.out.pz
    obtain ⟨A4, n4, c4, hv4⟩ : ∃ A n' c', v4 = .slice A n' c' := by
      rcases own_forms hown4 with ⟨rfl, _⟩ | ⟨g, c, rfl, _⟩
      · exact ⟨_, _, _, rfl⟩
      · exact ⟨_, _, _, rfl⟩
    have hst := Upd.store (v := (Value.slice (some ⟨g, 0, none⟩) n c)) (w := W3) r4 z4 (l := O) (by rw [HOL.out, ← HSP.out.2]; exact hown4) (by rw [hvb]; exact H3.out.ne) (asc_sub H3.out.asc HOS.out) hch4 (.inl hvb)
    have hdis : ∀ q, (Value.slice A m cC).ownBlock = some q → q ≠ gp ∧ v4.ownBlock ≠ some q := fun q hq => by
      have h1 := (HOW.out.lt q hq).1
      have h2 := HH.out.lt
      have h3 := HGL.out
      refine ⟨by omega, fun h => ?_⟩
      rw [hvb] at h; cases h; simp at h1; omega
    have hrow5 := own_chg HOW.out hst.chg (fun q hq hx => by
      rcases mem_foot.1 hx with h | h
      · exact (hdis q hq).1 h
      · cases h; have h1 := (HOW.out.lt _ hq).1; have h3 := HGL.out; simp at h1; omega)
    have HST := Lib.hid (⟨hst.after HN3.out, hrow5, hdis⟩ : Upd w gp (Value.slice (some ⟨g, 0, none⟩) n c) O v4 (W4.setCell ⟨gp, 0, none⟩ v4) ∧ (W4.setCell ⟨gp, 0, none⟩ v4).ownsRow w.heap.size 85 2 (.slice A m cC) m (pcells R) ∧ ∀ q, (Value.slice A m cC).ownBlock = some q → q ≠ gp ∧ v4.ownBlock ≠ some q)
    subst hv4
    clear hown4 hch4 hvb hgp hst hdis hrow5
    go_wp2_with fail
    go_loopw [13, 54] (fun _ a wr => ∃ (q : Nat) (v' : Value), q ≤ m ∧ a = .int .i64 q ∧ Hid (Upd w gp (Value.slice (some ⟨g, 0, none⟩) n c) (mvL by_ (R.take q) O) v' wr ∧ wr.ownsRow w.heap.size 85 2 (.slice A m cC) m (pcells R) ∧ ∀ b, (Value.slice A m cC).ownBlock = some b → b ≠ gp ∧ v'.ownBlock ≠ some b)) (fun _ a _ => m - (intOf a).toNat)
    case atStart => exact ⟨0, _, Nat.zero_le _, rfl, HST⟩
    case round =>
      obtain ⟨q, v', hq, rfl, HU⟩ := hrel
      by_cases hqm : q < m
      · obtain ⟨⟨pk, px⟩, hp⟩ : ∃ p, R[q]? = some p := ⟨_, List.getElem?_eq_getElem (by have := HM.out; omega)⟩
        rcases own_forms HU.out.2.1 with ⟨hA, h0⟩ | ⟨gC, cC', hA, _, hin, _, _⟩
        · omega
        injection hA with a1 a2 a3
        subst a1 a3
        obtain ⟨y0, y1⟩ := pcells_get R q _ hp
        have hl := (List.getElem?_eq_some_iff.1 y1).1
        rw [pcells_len, ← HM.out] at hl
        have c0 : wr.cell? ⟨gC, q * 2, none⟩ = some (.int .u64 pk) := (HU.out.2.1.cellAt _ (by omega)).trans y0
        have c1 : wr.cell? ⟨gC, q * 2 + 1, none⟩ = some (.int .u64 px) := (HU.out.2.1.cellAt _ (by omega)).trans y1
        haveI : In gC wr := ⟨World.block_lt_of_cell? wr _ c0⟩
        haveI : In gp wr := ⟨HU.out.1.om.lt⟩
        have hpk := HIN.out _ (List.mem_of_getElem? hp)
        have qk : IntKind.u64.wrap (pk + by_) = pk + by_ := by
          have h1 := HLO.out; have h2 := HHI.out; have h3 := HB0.out
          simp at hpk
          rw [IntKind.wrap_u64]; omega
        have i1 : (q : Int) < (m : Int) := by omega
        have i2 : (0 : Int) ≤ (q : Int) := by omega
        have i3 : q < 1000000 := by have := HN.out; have := HTO.out; have := HIL.out; omega
        have HP := Lib.hid (take_get hp)
        have HQM := Lib.hid hqm
        clear y0 y1 hl hpk hp hin
        go_wp2_with fail
        refine (set_upd (HU.out.1.om.nw ((by repeat (first | exact Xt.Nw.refl _ | refine Xt.Nw.drew ?_ | refine Xt.Nw.drewN ?_ _ | refine Xt.Nw.alloc ?_ _ | refine Xt.Nw.joined ?_ | refine Xt.Nw.drewd ?_ | refine Xt.Nw.drewdN ?_ | refine Xt.Nw.ext ?_ | refine Xt.Nw.ext_some ?_ (by assumption) | refine Xt.Nw.setCell ?_ (by simp [go_sem] <;> omega) _)))) (by have h1 := mvL_len by_ (R.take q) O; have h2 := HN.out; have h3 := HOI.out; have h4 := HNE.out; have h5 : (R.take q).length ≤ q := List.length_take_le _ _; omega) _ _).mono ?_
        rintro e W7 ⟨rfl, v2, hu2⟩
        have hu2 : Upd wr gp v' _ v2 W7 := Upd.after ((by repeat (first | exact Xt.Nw.refl _ | refine Xt.Nw.drew ?_ | refine Xt.Nw.drewN ?_ _ | refine Xt.Nw.alloc ?_ _ | refine Xt.Nw.joined ?_ | refine Xt.Nw.drewd ?_ | refine Xt.Nw.drewdN ?_ | refine Xt.Nw.ext ?_ | refine Xt.Nw.ext_some ?_ (by assumption) | refine Xt.Nw.setCell ?_ (by simp [go_sem] <;> omega) _))) hu2
        have hrow7 := own_chg HU.out.2.1 hu2.chg (fun b hb hx => by
          have h1 := HU.out.2.2 b hb
          rcases mem_foot.1 hx with h | h
          · exact h1.1 h
          · exact h1.2 h)
        have hdis7 : ∀ b, (Value.slice (some ⟨gC, 0, none⟩) m cC).ownBlock = some b → b ≠ gp ∧ v2.ownBlock ≠ some b := fun b hb => by
          have h1 := HU.out.2.2 b hb
          have h2 := (HU.out.2.1.lt b hb).2
          refine ⟨h1.1, fun h => ?_⟩
          rcases hu2.moved with e | ⟨r, e, hr⟩
          · exact h1.2 (e ▸ h)
          · rw [e] at h; cases h; omega
        have HR := Lib.hid (⟨by rw [HP.out, mvL_snoc]; exact HU.out.1.trans hu2, hrow7, hdis7⟩ : Upd w gp (Value.slice (some ⟨g, 0, none⟩) n c) (mvL by_ (R.take (q + 1)) O) v2 W7 ∧ W7.ownsRow w.heap.size 85 2 (.slice (some ⟨gC, 0, none⟩) m cC) m (pcells R) ∧ ∀ b, (Value.slice (some ⟨gC, 0, none⟩) m cC).ownBlock = some b → b ≠ gp ∧ v2.ownBlock ≠ some b)
        clear hu2 hrow7 hdis7
        go_wp2
        exact ⟨⟨q + 1, v2, by have := HQM.out; omega, by go_num, HR⟩, by have := HQM.out; simp [intOf]; omega⟩
      · obtain rfl : q = m := by omega
        have hfull : R.take q = R := List.take_of_length_le (by rw [← HM.out]; exact Nat.le_refl _)
        rw [hfull] at HU
        clear hfull
        go_wp2
        refine bodyPost_ret (v := .tuple #[.int .i64 q, .int .i64 0]) ?_ rfl ⟨rfl, _, HU.out.1⟩
        simp [results, Tryd.results71, go_sem]
/-- Move: the pairs of the range are moved. -/
theorem move_om {w : World} {gp : Nat} {v : Value} {l : List (Int × Int)} (h : OM w gp v l) (hn : l.length ≤ 500000) (lo hi by_ : Int) (hlh : lo ≤ hi) (hlo : 0 ≤ lo) (hb0 : 0 < by_) (hb1 : by_ ≤ 18446744073709551615 - hi) :
    Calls Tryd.prog 71 #[.pointer (some ⟨gp, 0, none⟩), spV lo hi, .int .u64 by_] w fun e w' => e = .returned (.tuple #[.int .i64 (inR lo hi l).length, .int .i64 0]) ∧ ∃ v', Upd w gp v (moveL lo hi by_ l) v' w' := by
  rcases h.form with ⟨rfl, rfl⟩ | ⟨g, c, rfl, -, -, -⟩
  · exact move_nil h lo hi by_ hlh hlo hb0 hb1
  · exact move_some h hn lo hi by_ hlh hlo hb0 hb1
end Go.Proofs.YtdjcndpnjoahmaaDoor
namespace Go.Proofs.YtdjcndpnjoahmaaDoor
open Go.RowKit Go.Xt
/-! The model at any threads: what it is in memory. -/
/-- A thread: its iterator (open, more, what is left), its session. -/
structure Th where
  op : Bool
  mo : Bool
  lo : Int
  hi : Int
  se : Bool
deriving DecidableEq
def thc (x : Th) : List Value := [.bool x.op, .bool x.mo, .int .u64 x.lo, .int .u64 x.hi, .bool x.se]
def tcells (l : List Th) : List Value := l.flatMap thc
theorem tcells_len (l : List Th) : (tcells l).length = l.length * 5 := by
  induction l with
  | nil => rfl
  | cons x l ih => rw [tcells, List.flatMap_cons, List.length_append, ← tcells, ih, List.length_cons]; simp [thc]; omega
theorem tcells_cons (x : Th) (l : List Th) (k j : Nat) : (tcells (x :: l))[(k + 1) * 5 + j]? = (tcells l)[k * 5 + j]? := by
  rw [show (k + 1) * 5 + j = (k * 5 + j) + 5 by omega]; rfl
theorem tcells_get : ∀ (l : List Th) (k : Nat) (x : Th), l[k]? = some x → (tcells l)[k * 5]? = some (.bool x.op) ∧ (tcells l)[k * 5 + 1]? = some (.bool x.mo) ∧ (tcells l)[k * 5 + 2]? = some (.int .u64 x.lo) ∧ (tcells l)[k * 5 + 3]? = some (.int .u64 x.hi) ∧ (tcells l)[k * 5 + 4]? = some (.bool x.se)
  | [], k, s, h => by simp at h
  | x :: b, 0, s, h => by simp at h; subst h; exact ⟨rfl, rfl, rfl, rfl, rfl⟩
  | x :: b, k + 1, s, h => by
    have h2 := tcells_get b k s (by simpa using h)
    exact ⟨(tcells_cons x b k 0).trans h2.1, (tcells_cons x b k 1).trans h2.2.1, (tcells_cons x b k 2).trans h2.2.2.1, (tcells_cons x b k 3).trans h2.2.2.2.1, (tcells_cons x b k 4).trans h2.2.2.2.2⟩
theorem tcells_setj (j : Nat) (hj : j < 5) (f : Th → Th) (v : Value) (hf : ∀ x, thc (f x) = (thc x).set j v) : ∀ (l : List Th) (k : Nat) (x : Th), l[k]? = some x → tcells (l.set k (f x)) = (tcells l).set (k * 5 + j) v
  | [], k, s, h => by simp at h
  | x :: b, 0, s, h => by
    simp at h; subst h
    show thc (f x) ++ tcells b = (thc x ++ tcells b).set (0 * 5 + j) v
    rw [hf, List.set_append_left _ _ (by simp [thc]; omega)]; simp
  | x :: b, k + 1, s, h => by
    have h2 := tcells_setj j hj f v hf b k s (by simpa using h)
    show thc x ++ tcells (b.set k (f s)) = (thc x ++ tcells b).set ((k + 1) * 5 + j) v
    rw [h2, List.set_append_right _ _ (by simp [thc]; omega)]
    congr 2; simp [thc]; omega
/-- The row of the threads. -/
def ThR (W : World) (gt : Nat) (th : List Th) : Prop := ∃ c, W.ownsRow 0 81 5 (.slice (some ⟨gt, 0, none⟩) th.length c) th.length (tcells th)
theorem ThR.setj {W : World} {gt : Nat} {th : List Th} (h : ThR W gt th) {k : Nat} {x : Th} (hk : th[k]? = some x) (j : Nat) (hj : j < 5) (f : Th → Th) (v : Value) (hf : ∀ x, thc (f x) = (thc x).set j v) : ThR (W.setCell ⟨gt, k * 5 + j, none⟩ v) gt (th.set k (f x)) := by
  obtain ⟨c, h⟩ := h
  have h2 := (h.stored (k * 5 + j) v).1
  rw [← tcells_setj j hj f v hf th k x hk] at h2
  refine ⟨c, ?_⟩
  rw [List.length_set]; exact h2
theorem ThR.inn {W : World} {gt : Nat} {th : List Th} (h : ThR W gt th) : gt < W.heap.size := by
  obtain ⟨c, h⟩ := h; exact (World.ownsRow.lt h gt rfl).2
theorem ThR.frozen {W : World} {gt : Nat} {th : List Th} (h : ThR W gt th) (o : Nat) : W.frozen? ⟨gt, o, none⟩ = false := by
  obtain ⟨c, h⟩ := h; exact World.ownsRow.frozenAt h _
theorem ThR.op {W : World} {gt : Nat} {th : List Th} (h : ThR W gt th) {k : Nat} {x : Th} (hk : th[k]? = some x) (v : Bool) : ThR (W.setCell ⟨gt, k * 5, none⟩ (.bool v)) gt (th.set k { x with op := v }) := h.setj hk 0 (by omega) (fun x => { x with op := v }) _ (fun _ => rfl)
theorem ThR.mo {W : World} {gt : Nat} {th : List Th} (h : ThR W gt th) {k : Nat} {x : Th} (hk : th[k]? = some x) (v : Bool) : ThR (W.setCell ⟨gt, k * 5 + 1, none⟩ (.bool v)) gt (th.set k { x with mo := v }) := h.setj hk 1 (by omega) (fun x => { x with mo := v }) _ (fun _ => rfl)
theorem ThR.lo {W : World} {gt : Nat} {th : List Th} (h : ThR W gt th) {k : Nat} {x : Th} (hk : th[k]? = some x) (v : Int) : ThR (W.setCell ⟨gt, k * 5 + 2, none⟩ (.int .u64 v)) gt (th.set k { x with lo := v }) := h.setj hk 2 (by omega) (fun x => { x with lo := v }) _ (fun _ => rfl)
theorem ThR.hi {W : World} {gt : Nat} {th : List Th} (h : ThR W gt th) {k : Nat} {x : Th} (hk : th[k]? = some x) (v : Int) : ThR (W.setCell ⟨gt, k * 5 + 3, none⟩ (.int .u64 v)) gt (th.set k { x with hi := v }) := h.setj hk 3 (by omega) (fun x => { x with hi := v }) _ (fun _ => rfl)
theorem ThR.se {W : World} {gt : Nat} {th : List Th} (h : ThR W gt th) {k : Nat} {x : Th} (hk : th[k]? = some x) (v : Bool) : ThR (W.setCell ⟨gt, k * 5 + 4, none⟩ (.bool v)) gt (th.set k { x with se := v }) := h.setj hk 4 (by omega) (fun x => { x with se := v }) _ (fun _ => rfl)
theorem set_at {α : Type} {l : List α} {k : Nat} {x : α} (h : l[k]? = some x) (y : α) : (l.set k y)[k]? = some y := by
  rw [List.getElem?_set_self (List.getElem?_eq_some_iff.1 h).1]
theorem ThR.lt {W : World} {gt : Nat} {th : List Th} (h : ThR W gt th) {k : Nat} {x : Th} (_hk : th[k]? = some x) : gt < W.heap.size := h.inn
theorem ThR.cells {W : World} {gt : Nat} {th : List Th} (h : ThR W gt th) {k : Nat} {x : Th} (hk : th[k]? = some x) :
    W.cell? ⟨gt, k * 5, none⟩ = some (.bool x.op) ∧ W.cell? ⟨gt, k * 5 + 1, none⟩ = some (.bool x.mo) ∧ W.cell? ⟨gt, k * 5 + 2, none⟩ = some (.int .u64 x.lo) ∧ W.cell? ⟨gt, k * 5 + 3, none⟩ = some (.int .u64 x.hi) ∧ W.cell? ⟨gt, k * 5 + 4, none⟩ = some (.bool x.se) := by
  obtain ⟨p, _⟩ := List.getElem?_eq_some_iff.1 hk
  obtain ⟨c, h⟩ := h
  obtain ⟨g0, g1, g2, g3, g4⟩ := tcells_get th k x hk
  have hl := tcells_len th
  exact ⟨(World.ownsRow.cellAt h _ (by omega)).trans g0, (World.ownsRow.cellAt h _ (by omega)).trans g1, (World.ownsRow.cellAt h _ (by omega)).trans g2, (World.ownsRow.cellAt h _ (by omega)).trans g3, (World.ownsRow.cellAt h _ (by omega)).trans g4⟩
theorem ThR.chg {W W' : World} {gt : Nat} {th : List Th} {X : List Nat} (h : ThR W gt th) (hc : Chg X W W') (hx : gt ∉ X) : ThR W' gt th := by
  obtain ⟨c, h⟩ := h; exact ⟨c, own_chg h hc (fun g hg => by cases hg; exact hx)⟩
theorem ThR.nw {W W' : World} {gt : Nat} {th : List Th} (h : ThR W gt th) (hn : Nw W W') : ThR W' gt th := by
  obtain ⟨c, h⟩ := h; exact ⟨c, own_nw h hn⟩
/-- Where a model lies: itself, its threads, its map, the map's slice. -/
structure Pl where
  gm : Nat
  gt : Nat
  gp : Nat
  v : Value
def Pl.foot (p : Pl) : List Nat := p.gm :: p.gt :: Go.Proofs.YtdjcndpnjoahmaaDoor.foot p.gp p.v
theorem Pl.mem {p : Pl} {g : Nat} : g ∈ p.foot ↔ g = p.gm ∨ g = p.gt ∨ g = p.gp ∨ p.v.ownBlock = some g := by
  simp [Pl.foot, mem_foot]
/-- A model's state. -/
structure Md where
  slots : Int
  l : List (Int × Int)
  th : List Th
structure MAt (W : World) (p : Pl) (s : Md) : Prop where
  m0 : W.cell? ⟨p.gm, 0, none⟩ = some (.int .i64 s.slots)
  m1 : W.cell? ⟨p.gm, 1, none⟩ = some (.pointer (some ⟨p.gp, 0, none⟩))
  m2 : ∃ c, W.cell? ⟨p.gm, 2, none⟩ = some (.slice (some ⟨p.gt, 0, none⟩) s.th.length c)
  mz : ∀ o, W.frozen? ⟨p.gm, o, none⟩ = false
  th : ThR W p.gt s.th
  om : OM W p.gp p.v s.l
  nmt : p.gm ≠ p.gt
  nmp : p.gm ≠ p.gp
  ntp : p.gt ≠ p.gp
  nmv : p.v.ownBlock ≠ some p.gm
  ntv : p.v.ownBlock ≠ some p.gt
theorem MAt.im {W : World} {p : Pl} {s : Md} (h : MAt W p s) : p.gm < W.heap.size := World.block_lt_of_cell? W _ h.m0
theorem MAt.it {W : World} {p : Pl} {s : Md} (h : MAt W p s) : p.gt < W.heap.size := h.th.inn
theorem MAt.lt {W : World} {p : Pl} {s : Md} (h : MAt W p s) {g : Nat} (hg : g ∈ p.foot) : g < W.heap.size := by
  rcases Pl.mem.1 hg with rfl | rfl | rfl | h1
  · exact h.im
  · exact h.it
  · exact h.om.lt
  · exact h.om.rlt h1
theorem MAt.chg {W W' : World} {p : Pl} {s : Md} {X : List Nat} (h : MAt W p s) (hc : Chg X W W') (hx : ∀ g ∈ p.foot, g ∉ X) : MAt W' p s :=
  { h with
    m0 := hc.cell h.m0 (hx _ (Pl.mem.2 (.inl rfl)))
    m1 := hc.cell h.m1 (hx _ (Pl.mem.2 (.inl rfl)))
    m2 := h.m2.imp fun _ e => hc.cell e (hx _ (Pl.mem.2 (.inl rfl)))
    mz := fun o => (hc.frozen h.im (hx _ (Pl.mem.2 (.inl rfl)))).trans (h.mz o)
    th := h.th.chg hc (hx _ (Pl.mem.2 (.inr (.inl rfl))))
    om := h.om.chg hc (hx _ (Pl.mem.2 (.inr (.inr (.inl rfl))))) (fun g hg => hx _ (Pl.mem.2 (.inr (.inr (.inr hg))))) }
theorem MAt.nw {W W' : World} {p : Pl} {s : Md} (h : MAt W p s) (hn : Nw W W') : MAt W' p s := h.chg (Chg.of_nw hn : Chg [] W W') (by simp)
/-- A model that has been worked on. -/
structure MUp (w : World) (p : Pl) (s : Md) (p' : Pl) (w' : World) : Prop where
  at' : MAt w' p' s
  chg : Chg p.foot w w'
  mv : ∀ y ∈ p'.foot, y ∈ p.foot ∨ w.heap.size ≤ y
  gm : p'.gm = p.gm
theorem MUp.same {w w' : World} {p : Pl} {s : Md} (h : MAt w p s) (hn : Nw w w') : MUp w p s p w' := ⟨h.nw hn, Chg.of_nw hn, fun y hy => .inl hy, rfl⟩
theorem MUp.after {w w2 w' : World} {p p' : Pl} {s : Md} (hn : Nw w w2) (h : MUp w2 p s p' w') : MUp w p s p' w' :=
  ⟨h.at', (Chg.of_nw hn).trans h.chg, fun y hy => (h.mv y hy).imp id fun h => Nat.le_trans hn.grown.size h, h.gm⟩
theorem MUp.nw {w w2 w' : World} {p p' : Pl} {s : Md} (h : MUp w p s p' w2) (hn : Nw w2 w') : MUp w p s p' w' :=
  ⟨h.at'.nw hn, h.chg.trans (Chg.of_nw hn), h.mv, h.gm⟩
theorem MUp.trans {w w1 w2 : World} {p p1 p2 : Pl} {s1 s2 : Md} (h : MUp w p s1 p1 w1) (k : MUp w1 p1 s2 p2 w2) : MUp w p s2 p2 w2 := by
  refine ⟨k.at', h.chg.then k.chg h.mv, fun y hy => ?_, k.gm.trans h.gm⟩
  rcases k.mv y hy with h1 | h1
  · exact h.mv y h1
  · exact .inr (Nat.le_trans h.chg.size h1)
/-- Stores into new memory after a change: they do not matter. -/
theorem MUp.new {w w2 w' : World} {p p' : Pl} {s : Md} {X : List Nat} (h : MUp w p s p' w2) (hc : Chg X w2 w') (hx : ∀ g ∈ X, w.heap.size ≤ g) (hd : ∀ g ∈ p'.foot, g ∉ X) : MUp w p s p' w' :=
  ⟨h.at'.chg hc hd, ⟨hc.os.trans h.chg.os, hc.tape.trans h.chg.tape, hc.output.trans h.chg.output, Nat.le_trans h.chg.size hc.size, fun k hk hk2 => (hc.block k (Nat.lt_of_lt_of_le hk h.chg.size) (fun e => by have := hx k e; omega)).trans (h.chg.block k hk hk2)⟩, h.mv, h.gm⟩
/-- The map has been worked on. -/
theorem MUp.map {w w' : World} {p : Pl} {s : Md} {l : List (Int × Int)} {v' : Value} (h : MAt w p s) (hu : Upd w p.gp p.v l v' w') : MUp w p { s with l := l } { p with v := v' } w' := by
  have hf : ∀ g, g ∈ foot p.gp p.v → g ∈ p.foot := fun g hg => by simp [Pl.foot, hg]
  have hmf : p.gm ∉ foot p.gp p.v := fun e => by
    rcases mem_foot.1 e with e | e
    · exact h.nmp e
    · exact h.nmv e
  have htf : p.gt ∉ foot p.gp p.v := fun e => by
    rcases mem_foot.1 e with e | e
    · exact h.ntp e
    · exact h.ntv e
  refine ⟨⟨hu.chg.cell h.m0 hmf, hu.chg.cell h.m1 hmf, h.m2.imp (fun _ e => hu.chg.cell e hmf), fun o => (hu.chg.frozen h.im hmf).trans (h.mz o), h.th.chg hu.chg htf, hu.om, h.nmt, h.nmp, h.ntp, ?_, ?_⟩, hu.chg.wide hf, ?_, rfl⟩
  · rcases hu.moved with e | ⟨q, e, hq⟩
    · show v'.ownBlock ≠ _; rw [e]; exact h.nmv
    · show v'.ownBlock ≠ _; rw [e]; intro he; cases he; have := h.im; simp at hq; omega
  · rcases hu.moved with e | ⟨q, e, hq⟩
    · show v'.ownBlock ≠ _; rw [e]; exact h.ntv
    · show v'.ownBlock ≠ _; rw [e]; intro he; cases he; have := h.it; simp at hq; omega
  · intro y hy
    rcases Pl.mem.1 hy with rfl | rfl | rfl | h1
    · exact .inl (Pl.mem.2 (.inl rfl))
    · exact .inl (Pl.mem.2 (.inr (.inl rfl)))
    · exact .inl (Pl.mem.2 (.inr (.inr (.inl rfl))))
    · have h1 : v'.ownBlock = some y := h1
      rcases hu.moved with e | ⟨q, e, hq⟩
      · exact .inl (Pl.mem.2 (.inr (.inr (.inr (e ▸ h1)))))
      · rw [e] at h1; cases h1; exact .inr hq
/-- The threads have been worked on. -/
theorem MUp.ths {w w' : World} {p : Pl} {s : Md} {th' : List Th} (h : MAt w p s) (hl : th'.length = s.th.length) (hr : ThR w' p.gt th') (hc : Chg [p.gt] w w') : MUp w p { s with th := th' } p w' := by
  have hmf : p.gm ∉ [p.gt] := by simpa using h.nmt
  refine ⟨⟨hc.cell h.m0 hmf, hc.cell h.m1 hmf, h.m2.imp (fun c e => by show w'.cell? _ = some (.slice _ th'.length c); rw [hl]; exact hc.cell e hmf), fun o => (hc.frozen h.im hmf).trans (h.mz o), hr, h.om.chg hc (by have := h.ntp; simp; omega) (fun g hg => by have := h.ntv; simp; rintro rfl; exact this hg), h.nmt, h.nmp, h.ntp, h.nmv, h.ntv⟩, hc.wide (fun y hy => by simp at hy; subst hy; exact Pl.mem.2 (.inr (.inl rfl))), fun y hy => .inl hy, rfl⟩
end Go.Proofs.YtdjcndpnjoahmaaDoor
namespace Go.Proofs.YtdjcndpnjoahmaaDoor
open Go.RowKit Go.Xt
/-! client.Check at any operation. -/
/-- An operation. -/
structure Ox where
  k : Int
  key : Int
  hi : Int
  val : Int
  old : Int
  by_ : Int
  draw : Int
def opV (o : Ox) : Value := op7 o.k o.key o.hi o.val o.old o.by_ o.draw
/-- Whether a kind uses a field. -/
def uK (k : Int) : Bool := decide (k = 3) || decide (k = 4) || decide (k = 5) || decide (k = 6) || decide (k = 7) || decide (k = 8) || decide (k = 9) || decide (k = 11) || decide (k = 13)
def uH (k : Int) : Bool := decide (k = 8) || decide (k = 9) || decide (k = 11)
def uV (k : Int) : Bool := decide (k = 4) || decide (k = 5) || decide (k = 7)
def uO (k : Int) : Bool := decide (k = 7)
def uB (k : Int) : Bool := decide (k = 8)
def uD (k : Int) : Bool := decide (k = 4) || decide (k = 5) || decide (k = 8)
def Ox.formed (o : Ox) : Bool := decide (1 ≤ o.k) && decide (o.k ≤ 15) && (uK o.k || decide (o.key = 0)) && (uH o.k || decide (o.hi = 0)) && (uV o.k || decide (o.val = 0)) && (uO o.k || decide (o.old = 0)) && (uB o.k || decide (o.by_ = 0)) && (uD o.k || decide (o.draw = 0))
/-- The error of an operation whatever the state is. -/
def chkO (o : Ox) : Int :=
  if o.formed = false then 2
  else if uH o.k = true ∧ o.hi < o.key ∨ o.k = 8 ∧ o.by_ = 0 then 13
  else if o.k = 8 ∧ 18446744073709551615 - o.by_ < o.hi then 12
  else 0
structure Ox.Wf (o : Ox) : Prop where
  k : 0 ≤ o.k ∧ o.k < 256
  key : 0 ≤ o.key ∧ o.key < 18446744073709551616
  hi : 0 ≤ o.hi ∧ o.hi < 18446744073709551616
  val : 0 ≤ o.val ∧ o.val < 18446744073709551616
  old : 0 ≤ o.old ∧ o.old < 18446744073709551616
  by_ : 0 ≤ o.by_ ∧ o.by_ < 18446744073709551616
  draw : 0 ≤ o.draw ∧ o.draw < 18446744073709551616
/-- Whether two operations are the same. -/
def eqB (k a b c d e f k' a' b' c' d' e' f' : Int) : Bool := decide (k = k') && (decide (a = a') && (decide (b = b') && (decide (c = c') && (decide (d = d') && (decide (e = e') && decide (f = f'))))))
@[go_sem 20000] theorem eqOpB (k a b c d e f k' a' b' c' d' e' f' : Int) (w : World) : (Op.equalIn 10000 25 (op7 k a b c d e f) (op7 k' a' b' c' d' e' f')).run Tryd.prog w = .ok (eqB k a b c d e f k' a' b' c' d' e' f') w := eqOp k a b c d e f k' a' b' c' d' e' f' w
def spE (lo hi : Int) : Int := if lo ≤ hi then 0 else 13
theorem spcheck_any (lo hi : Int) (w : World) :
    Calls Tryd.prog 65 #[spV lo hi] w fun e w' => e = .returned (.int .i64 (spE lo hi)) ∧ Nw w w' := by
  unfold spV spE
  go_enter Tryd.func65, Tryd.ntmps65
  go_wp2
  all_goals (go_ret; exact ⟨by simp [*]; try omega, (by repeat (first | exact Xt.Nw.refl _ | refine Xt.Nw.drew ?_ | refine Xt.Nw.drewN ?_ _ | refine Xt.Nw.alloc ?_ _ | refine Xt.Nw.joined ?_ | refine Xt.Nw.drewd ?_ | refine Xt.Nw.drewdN ?_ | refine Xt.Nw.ext ?_ | refine Xt.Nw.ext_some ?_ (by assumption) | refine Xt.Nw.setCell ?_ (by simp [go_sem] <;> omega) _))⟩)
set_option maxRecDepth 20000 in
set_option maxHeartbeats 4000000 in
theorem ccheck_1 (a b c d e f : Int) (w : World) : Calls Tryd.prog 39 #[op7 1 a b c d e f] w fun r w' => r = .returned (.int .i64 (if eqB 1 0 0 0 0 0 0 1 a b c d e f = false then (2 : Int) else 0)) ∧ Nw w w' := by
  obtain ⟨B, hB⟩ : ∃ B, B = eqB 1 0 0 0 0 0 0 1 a b c d e f := ⟨_, rfl⟩
  obtain ⟨R, hR⟩ : ∃ R, R = (if eqB 1 0 0 0 0 0 0 1 a b c d e f = false then (2 : Int) else 0) := ⟨_, rfl⟩
  rw [← hR]
  rw [← hB] at hR
  have HR := Lib.hid hR
  have hB' := hB.symm
  clear hR hB
  go_enter Tryd.func39, Tryd.ntmps39
  go_wp2
  all_goals (go_ret; refine ⟨?_, (by repeat (first | exact Xt.Nw.refl _ | refine Xt.Nw.drew ?_ | refine Xt.Nw.drewN ?_ _ | refine Xt.Nw.alloc ?_ _ | refine Xt.Nw.joined ?_ | refine Xt.Nw.drewd ?_ | refine Xt.Nw.drewdN ?_ | refine Xt.Nw.ext ?_ | refine Xt.Nw.ext_some ?_ (by assumption) | refine Xt.Nw.setCell ?_ (by simp [go_sem] <;> omega) _))⟩; have := HR.out; simp_all)
set_option maxRecDepth 20000 in
set_option maxHeartbeats 4000000 in
theorem ccheck_2 (a b c d e f : Int) (w : World) : Calls Tryd.prog 39 #[op7 2 a b c d e f] w fun r w' => r = .returned (.int .i64 (if eqB 2 0 0 0 0 0 0 2 a b c d e f = false then (2 : Int) else 0)) ∧ Nw w w' := by
  obtain ⟨B, hB⟩ : ∃ B, B = eqB 2 0 0 0 0 0 0 2 a b c d e f := ⟨_, rfl⟩
  obtain ⟨R, hR⟩ : ∃ R, R = (if eqB 2 0 0 0 0 0 0 2 a b c d e f = false then (2 : Int) else 0) := ⟨_, rfl⟩
  rw [← hR]
  rw [← hB] at hR
  have HR := Lib.hid hR
  have hB' := hB.symm
  clear hR hB
  go_enter Tryd.func39, Tryd.ntmps39
  go_wp2
  all_goals (go_ret; refine ⟨?_, (by repeat (first | exact Xt.Nw.refl _ | refine Xt.Nw.drew ?_ | refine Xt.Nw.drewN ?_ _ | refine Xt.Nw.alloc ?_ _ | refine Xt.Nw.joined ?_ | refine Xt.Nw.drewd ?_ | refine Xt.Nw.drewdN ?_ | refine Xt.Nw.ext ?_ | refine Xt.Nw.ext_some ?_ (by assumption) | refine Xt.Nw.setCell ?_ (by simp [go_sem] <;> omega) _))⟩; have := HR.out; simp_all)
set_option maxRecDepth 20000 in
set_option maxHeartbeats 4000000 in
theorem ccheck_3 (a b c d e f : Int) (w : World) : Calls Tryd.prog 39 #[op7 3 a b c d e f] w fun r w' => r = .returned (.int .i64 (if eqB 3 a 0 0 0 0 0 3 a b c d e f = false then (2 : Int) else 0)) ∧ Nw w w' := by
  obtain ⟨B, hB⟩ : ∃ B, B = eqB 3 a 0 0 0 0 0 3 a b c d e f := ⟨_, rfl⟩
  obtain ⟨R, hR⟩ : ∃ R, R = (if eqB 3 a 0 0 0 0 0 3 a b c d e f = false then (2 : Int) else 0) := ⟨_, rfl⟩
  rw [← hR]
  rw [← hB] at hR
  have HR := Lib.hid hR
  have hB' := hB.symm
  clear hR hB
  go_enter Tryd.func39, Tryd.ntmps39
  go_wp2
  all_goals (go_ret; refine ⟨?_, (by repeat (first | exact Xt.Nw.refl _ | refine Xt.Nw.drew ?_ | refine Xt.Nw.drewN ?_ _ | refine Xt.Nw.alloc ?_ _ | refine Xt.Nw.joined ?_ | refine Xt.Nw.drewd ?_ | refine Xt.Nw.drewdN ?_ | refine Xt.Nw.ext ?_ | refine Xt.Nw.ext_some ?_ (by assumption) | refine Xt.Nw.setCell ?_ (by simp [go_sem] <;> omega) _))⟩; have := HR.out; simp_all)
set_option maxRecDepth 20000 in
set_option maxHeartbeats 4000000 in
theorem ccheck_4 (a b c d e f : Int) (w : World) : Calls Tryd.prog 39 #[op7 4 a b c d e f] w fun r w' => r = .returned (.int .i64 (if eqB 4 a 0 c 0 0 f 4 a b c d e f = false then (2 : Int) else 0)) ∧ Nw w w' := by
  obtain ⟨B, hB⟩ : ∃ B, B = eqB 4 a 0 c 0 0 f 4 a b c d e f := ⟨_, rfl⟩
  obtain ⟨R, hR⟩ : ∃ R, R = (if eqB 4 a 0 c 0 0 f 4 a b c d e f = false then (2 : Int) else 0) := ⟨_, rfl⟩
  rw [← hR]
  rw [← hB] at hR
  have HR := Lib.hid hR
  have hB' := hB.symm
  clear hR hB
  go_enter Tryd.func39, Tryd.ntmps39
  go_upto_region 9 with (fail)
  go_region
  go_wp2
  all_goals (go_ret; refine ⟨?_, (by repeat (first | exact Xt.Nw.refl _ | refine Xt.Nw.drew ?_ | refine Xt.Nw.drewN ?_ _ | refine Xt.Nw.alloc ?_ _ | refine Xt.Nw.joined ?_ | refine Xt.Nw.drewd ?_ | refine Xt.Nw.drewdN ?_ | refine Xt.Nw.ext ?_ | refine Xt.Nw.ext_some ?_ (by assumption) | refine Xt.Nw.setCell ?_ (by simp [go_sem] <;> omega) _))⟩; have := HR.out; simp_all)
set_option maxRecDepth 20000 in
set_option maxHeartbeats 4000000 in
theorem ccheck_5 (a b c d e f : Int) (w : World) : Calls Tryd.prog 39 #[op7 5 a b c d e f] w fun r w' => r = .returned (.int .i64 (if eqB 5 a 0 c 0 0 f 5 a b c d e f = false then (2 : Int) else 0)) ∧ Nw w w' := by
  obtain ⟨B, hB⟩ : ∃ B, B = eqB 5 a 0 c 0 0 f 5 a b c d e f := ⟨_, rfl⟩
  obtain ⟨R, hR⟩ : ∃ R, R = (if eqB 5 a 0 c 0 0 f 5 a b c d e f = false then (2 : Int) else 0) := ⟨_, rfl⟩
  rw [← hR]
  rw [← hB] at hR
  have HR := Lib.hid hR
  have hB' := hB.symm
  clear hR hB
  go_enter Tryd.func39, Tryd.ntmps39
  go_upto_region 9 with (fail)
  go_region
  go_wp2
  all_goals (go_ret; refine ⟨?_, (by repeat (first | exact Xt.Nw.refl _ | refine Xt.Nw.drew ?_ | refine Xt.Nw.drewN ?_ _ | refine Xt.Nw.alloc ?_ _ | refine Xt.Nw.joined ?_ | refine Xt.Nw.drewd ?_ | refine Xt.Nw.drewdN ?_ | refine Xt.Nw.ext ?_ | refine Xt.Nw.ext_some ?_ (by assumption) | refine Xt.Nw.setCell ?_ (by simp [go_sem] <;> omega) _))⟩; have := HR.out; simp_all)
set_option maxRecDepth 20000 in
set_option maxHeartbeats 4000000 in
theorem ccheck_6 (a b c d e f : Int) (w : World) : Calls Tryd.prog 39 #[op7 6 a b c d e f] w fun r w' => r = .returned (.int .i64 (if eqB 6 a 0 0 0 0 0 6 a b c d e f = false then (2 : Int) else 0)) ∧ Nw w w' := by
  obtain ⟨B, hB⟩ : ∃ B, B = eqB 6 a 0 0 0 0 0 6 a b c d e f := ⟨_, rfl⟩
  obtain ⟨R, hR⟩ : ∃ R, R = (if eqB 6 a 0 0 0 0 0 6 a b c d e f = false then (2 : Int) else 0) := ⟨_, rfl⟩
  rw [← hR]
  rw [← hB] at hR
  have HR := Lib.hid hR
  have hB' := hB.symm
  clear hR hB
  go_enter Tryd.func39, Tryd.ntmps39
  go_wp2
  all_goals (go_ret; refine ⟨?_, (by repeat (first | exact Xt.Nw.refl _ | refine Xt.Nw.drew ?_ | refine Xt.Nw.drewN ?_ _ | refine Xt.Nw.alloc ?_ _ | refine Xt.Nw.joined ?_ | refine Xt.Nw.drewd ?_ | refine Xt.Nw.drewdN ?_ | refine Xt.Nw.ext ?_ | refine Xt.Nw.ext_some ?_ (by assumption) | refine Xt.Nw.setCell ?_ (by simp [go_sem] <;> omega) _))⟩; have := HR.out; simp_all)
set_option maxRecDepth 20000 in
set_option maxHeartbeats 4000000 in
theorem ccheck_7 (a b c d e f : Int) (w : World) : Calls Tryd.prog 39 #[op7 7 a b c d e f] w fun r w' => r = .returned (.int .i64 (if eqB 7 a 0 c d 0 0 7 a b c d e f = false then (2 : Int) else 0)) ∧ Nw w w' := by
  obtain ⟨B, hB⟩ : ∃ B, B = eqB 7 a 0 c d 0 0 7 a b c d e f := ⟨_, rfl⟩
  obtain ⟨R, hR⟩ : ∃ R, R = (if eqB 7 a 0 c d 0 0 7 a b c d e f = false then (2 : Int) else 0) := ⟨_, rfl⟩
  rw [← hR]
  rw [← hB] at hR
  have HR := Lib.hid hR
  have hB' := hB.symm
  clear hR hB
  go_enter Tryd.func39, Tryd.ntmps39
  go_upto_region 11 with (fail)
  go_region
  go_wp2
  all_goals (go_ret; refine ⟨?_, (by repeat (first | exact Xt.Nw.refl _ | refine Xt.Nw.drew ?_ | refine Xt.Nw.drewN ?_ _ | refine Xt.Nw.alloc ?_ _ | refine Xt.Nw.joined ?_ | refine Xt.Nw.drewd ?_ | refine Xt.Nw.drewdN ?_ | refine Xt.Nw.ext ?_ | refine Xt.Nw.ext_some ?_ (by assumption) | refine Xt.Nw.setCell ?_ (by simp [go_sem] <;> omega) _))⟩; have := HR.out; simp_all)
set_option maxRecDepth 20000 in
set_option maxHeartbeats 4000000 in
theorem ccheck_8 (a b c d e f : Int) (he : 0 ≤ e ∧ e < 18446744073709551616) (w : World) : Calls Tryd.prog 39 #[op7 8 a b c d e f] w fun r w' => r = .returned (.int .i64 (if eqB 8 a b 0 0 e f 8 a b c d e f = false then (2 : Int) else if spE a b ≠ 0 ∨ e = 0 then 13 else if 18446744073709551615 - e < b then 12 else 0)) ∧ Nw w w' := by
  have HC := Lib.hid (fun W => spcheck_any a b W)
  unfold spV at HC
  obtain ⟨z, hz⟩ : ∃ z, z = spE a b := ⟨_, rfl⟩
  obtain ⟨B, hB⟩ : ∃ B, B = eqB 8 a b 0 0 e f 8 a b c d e f := ⟨_, rfl⟩
  obtain ⟨R, hR⟩ : ∃ R, R = (if eqB 8 a b 0 0 e f 8 a b c d e f = false then (2 : Int) else if spE a b ≠ 0 ∨ e = 0 then 13 else if 18446744073709551615 - e < b then 12 else 0) := ⟨_, rfl⟩
  rw [← hR]
  rw [← hB, ← hz] at hR
  have HR := Lib.hid hR
  have hB' := hB.symm
  rw [← hz] at HC
  have q3 : IntKind.u64.wrap (18446744073709551615 - e) = 18446744073709551615 - e := by rw [IntKind.wrap_u64]; omega
  clear hR hB hz he
  go_enter Tryd.func39, Tryd.ntmps39
  go_upto_region 13 with (fail)
  go_region
  go_wp2_with (go_at_call 65; refine (HC.out _).mono ?_; rintro e w' ⟨rfl, dW, rfl⟩)
  all_goals (go_ret; refine ⟨?_, (by repeat (first | exact Xt.Nw.refl _ | refine Xt.Nw.drew ?_ | refine Xt.Nw.drewN ?_ _ | refine Xt.Nw.alloc ?_ _ | refine Xt.Nw.joined ?_ | refine Xt.Nw.drewd ?_ | refine Xt.Nw.drewdN ?_ | refine Xt.Nw.ext ?_ | refine Xt.Nw.ext_some ?_ (by assumption) | refine Xt.Nw.setCell ?_ (by simp [go_sem] <;> omega) _))⟩; have := HR.out; simp_all)
set_option maxRecDepth 20000 in
set_option maxHeartbeats 4000000 in
theorem ccheck_9 (a b c d e f : Int) (w : World) : Calls Tryd.prog 39 #[op7 9 a b c d e f] w fun r w' => r = .returned (.int .i64 (if eqB 9 a b 0 0 0 0 9 a b c d e f = false then (2 : Int) else if spE a b ≠ 0 then 13 else 0)) ∧ Nw w w' := by
  have HC := Lib.hid (fun W => spcheck_any a b W)
  unfold spV at HC
  obtain ⟨z, hz⟩ : ∃ z, z = spE a b := ⟨_, rfl⟩
  obtain ⟨B, hB⟩ : ∃ B, B = eqB 9 a b 0 0 0 0 9 a b c d e f := ⟨_, rfl⟩
  obtain ⟨R, hR⟩ : ∃ R, R = (if eqB 9 a b 0 0 0 0 9 a b c d e f = false then (2 : Int) else if spE a b ≠ 0 then 13 else 0) := ⟨_, rfl⟩
  rw [← hR]
  rw [← hB, ← hz] at hR
  have HR := Lib.hid hR
  have hB' := hB.symm
  rw [← hz] at HC
  clear hR hB hz
  go_enter Tryd.func39, Tryd.ntmps39
  go_upto_region 16 with (fail)
  go_region
  go_wp2_with (go_at_call 65; refine (HC.out _).mono ?_; rintro e w' ⟨rfl, dW, rfl⟩)
  all_goals (go_ret; refine ⟨?_, (by repeat (first | exact Xt.Nw.refl _ | refine Xt.Nw.drew ?_ | refine Xt.Nw.drewN ?_ _ | refine Xt.Nw.alloc ?_ _ | refine Xt.Nw.joined ?_ | refine Xt.Nw.drewd ?_ | refine Xt.Nw.drewdN ?_ | refine Xt.Nw.ext ?_ | refine Xt.Nw.ext_some ?_ (by assumption) | refine Xt.Nw.setCell ?_ (by simp [go_sem] <;> omega) _))⟩; have := HR.out; simp_all)
set_option maxRecDepth 20000 in
set_option maxHeartbeats 4000000 in
theorem ccheck_10 (a b c d e f : Int) (w : World) : Calls Tryd.prog 39 #[op7 10 a b c d e f] w fun r w' => r = .returned (.int .i64 (if eqB 10 0 0 0 0 0 0 10 a b c d e f = false then (2 : Int) else 0)) ∧ Nw w w' := by
  obtain ⟨B, hB⟩ : ∃ B, B = eqB 10 0 0 0 0 0 0 10 a b c d e f := ⟨_, rfl⟩
  obtain ⟨R, hR⟩ : ∃ R, R = (if eqB 10 0 0 0 0 0 0 10 a b c d e f = false then (2 : Int) else 0) := ⟨_, rfl⟩
  rw [← hR]
  rw [← hB] at hR
  have HR := Lib.hid hR
  have hB' := hB.symm
  clear hR hB
  go_enter Tryd.func39, Tryd.ntmps39
  go_wp2
  all_goals (go_ret; refine ⟨?_, (by repeat (first | exact Xt.Nw.refl _ | refine Xt.Nw.drew ?_ | refine Xt.Nw.drewN ?_ _ | refine Xt.Nw.alloc ?_ _ | refine Xt.Nw.joined ?_ | refine Xt.Nw.drewd ?_ | refine Xt.Nw.drewdN ?_ | refine Xt.Nw.ext ?_ | refine Xt.Nw.ext_some ?_ (by assumption) | refine Xt.Nw.setCell ?_ (by simp [go_sem] <;> omega) _))⟩; have := HR.out; simp_all)
set_option maxRecDepth 20000 in
set_option maxHeartbeats 4000000 in
theorem ccheck_11 (a b c d e f : Int) (w : World) : Calls Tryd.prog 39 #[op7 11 a b c d e f] w fun r w' => r = .returned (.int .i64 (if eqB 11 a b 0 0 0 0 11 a b c d e f = false then (2 : Int) else if spE a b ≠ 0 then 13 else 0)) ∧ Nw w w' := by
  have HC := Lib.hid (fun W => spcheck_any a b W)
  unfold spV at HC
  obtain ⟨z, hz⟩ : ∃ z, z = spE a b := ⟨_, rfl⟩
  obtain ⟨B, hB⟩ : ∃ B, B = eqB 11 a b 0 0 0 0 11 a b c d e f := ⟨_, rfl⟩
  obtain ⟨R, hR⟩ : ∃ R, R = (if eqB 11 a b 0 0 0 0 11 a b c d e f = false then (2 : Int) else if spE a b ≠ 0 then 13 else 0) := ⟨_, rfl⟩
  rw [← hR]
  rw [← hB, ← hz] at hR
  have HR := Lib.hid hR
  have hB' := hB.symm
  rw [← hz] at HC
  clear hR hB hz
  go_enter Tryd.func39, Tryd.ntmps39
  go_upto_region 16 with (fail)
  go_region
  go_wp2_with (go_at_call 65; refine (HC.out _).mono ?_; rintro e w' ⟨rfl, dW, rfl⟩)
  all_goals (go_ret; refine ⟨?_, (by repeat (first | exact Xt.Nw.refl _ | refine Xt.Nw.drew ?_ | refine Xt.Nw.drewN ?_ _ | refine Xt.Nw.alloc ?_ _ | refine Xt.Nw.joined ?_ | refine Xt.Nw.drewd ?_ | refine Xt.Nw.drewdN ?_ | refine Xt.Nw.ext ?_ | refine Xt.Nw.ext_some ?_ (by assumption) | refine Xt.Nw.setCell ?_ (by simp [go_sem] <;> omega) _))⟩; have := HR.out; simp_all)
set_option maxRecDepth 20000 in
set_option maxHeartbeats 4000000 in
theorem ccheck_12 (a b c d e f : Int) (w : World) : Calls Tryd.prog 39 #[op7 12 a b c d e f] w fun r w' => r = .returned (.int .i64 (if eqB 12 0 0 0 0 0 0 12 a b c d e f = false then (2 : Int) else 0)) ∧ Nw w w' := by
  obtain ⟨B, hB⟩ : ∃ B, B = eqB 12 0 0 0 0 0 0 12 a b c d e f := ⟨_, rfl⟩
  obtain ⟨R, hR⟩ : ∃ R, R = (if eqB 12 0 0 0 0 0 0 12 a b c d e f = false then (2 : Int) else 0) := ⟨_, rfl⟩
  rw [← hR]
  rw [← hB] at hR
  have HR := Lib.hid hR
  have hB' := hB.symm
  clear hR hB
  go_enter Tryd.func39, Tryd.ntmps39
  go_wp2
  all_goals (go_ret; refine ⟨?_, (by repeat (first | exact Xt.Nw.refl _ | refine Xt.Nw.drew ?_ | refine Xt.Nw.drewN ?_ _ | refine Xt.Nw.alloc ?_ _ | refine Xt.Nw.joined ?_ | refine Xt.Nw.drewd ?_ | refine Xt.Nw.drewdN ?_ | refine Xt.Nw.ext ?_ | refine Xt.Nw.ext_some ?_ (by assumption) | refine Xt.Nw.setCell ?_ (by simp [go_sem] <;> omega) _))⟩; have := HR.out; simp_all)
set_option maxRecDepth 20000 in
set_option maxHeartbeats 4000000 in
theorem ccheck_13 (a b c d e f : Int) (w : World) : Calls Tryd.prog 39 #[op7 13 a b c d e f] w fun r w' => r = .returned (.int .i64 (if eqB 13 a 0 0 0 0 0 13 a b c d e f = false then (2 : Int) else 0)) ∧ Nw w w' := by
  obtain ⟨B, hB⟩ : ∃ B, B = eqB 13 a 0 0 0 0 0 13 a b c d e f := ⟨_, rfl⟩
  obtain ⟨R, hR⟩ : ∃ R, R = (if eqB 13 a 0 0 0 0 0 13 a b c d e f = false then (2 : Int) else 0) := ⟨_, rfl⟩
  rw [← hR]
  rw [← hB] at hR
  have HR := Lib.hid hR
  have hB' := hB.symm
  clear hR hB
  go_enter Tryd.func39, Tryd.ntmps39
  go_wp2
  all_goals (go_ret; refine ⟨?_, (by repeat (first | exact Xt.Nw.refl _ | refine Xt.Nw.drew ?_ | refine Xt.Nw.drewN ?_ _ | refine Xt.Nw.alloc ?_ _ | refine Xt.Nw.joined ?_ | refine Xt.Nw.drewd ?_ | refine Xt.Nw.drewdN ?_ | refine Xt.Nw.ext ?_ | refine Xt.Nw.ext_some ?_ (by assumption) | refine Xt.Nw.setCell ?_ (by simp [go_sem] <;> omega) _))⟩; have := HR.out; simp_all)
set_option maxRecDepth 20000 in
set_option maxHeartbeats 4000000 in
theorem ccheck_14 (a b c d e f : Int) (w : World) : Calls Tryd.prog 39 #[op7 14 a b c d e f] w fun r w' => r = .returned (.int .i64 (if eqB 14 0 0 0 0 0 0 14 a b c d e f = false then (2 : Int) else 0)) ∧ Nw w w' := by
  obtain ⟨B, hB⟩ : ∃ B, B = eqB 14 0 0 0 0 0 0 14 a b c d e f := ⟨_, rfl⟩
  obtain ⟨R, hR⟩ : ∃ R, R = (if eqB 14 0 0 0 0 0 0 14 a b c d e f = false then (2 : Int) else 0) := ⟨_, rfl⟩
  rw [← hR]
  rw [← hB] at hR
  have HR := Lib.hid hR
  have hB' := hB.symm
  clear hR hB
  go_enter Tryd.func39, Tryd.ntmps39
  go_wp2
  all_goals (go_ret; refine ⟨?_, (by repeat (first | exact Xt.Nw.refl _ | refine Xt.Nw.drew ?_ | refine Xt.Nw.drewN ?_ _ | refine Xt.Nw.alloc ?_ _ | refine Xt.Nw.joined ?_ | refine Xt.Nw.drewd ?_ | refine Xt.Nw.drewdN ?_ | refine Xt.Nw.ext ?_ | refine Xt.Nw.ext_some ?_ (by assumption) | refine Xt.Nw.setCell ?_ (by simp [go_sem] <;> omega) _))⟩; have := HR.out; simp_all)
set_option maxRecDepth 20000 in
set_option maxHeartbeats 4000000 in
theorem ccheck_15 (a b c d e f : Int) (w : World) : Calls Tryd.prog 39 #[op7 15 a b c d e f] w fun r w' => r = .returned (.int .i64 (if eqB 15 0 0 0 0 0 0 15 a b c d e f = false then (2 : Int) else 0)) ∧ Nw w w' := by
  obtain ⟨B, hB⟩ : ∃ B, B = eqB 15 0 0 0 0 0 0 15 a b c d e f := ⟨_, rfl⟩
  obtain ⟨R, hR⟩ : ∃ R, R = (if eqB 15 0 0 0 0 0 0 15 a b c d e f = false then (2 : Int) else 0) := ⟨_, rfl⟩
  rw [← hR]
  rw [← hB] at hR
  have HR := Lib.hid hR
  have hB' := hB.symm
  clear hR hB
  go_enter Tryd.func39, Tryd.ntmps39
  go_wp2
  all_goals (go_ret; refine ⟨?_, (by repeat (first | exact Xt.Nw.refl _ | refine Xt.Nw.drew ?_ | refine Xt.Nw.drewN ?_ _ | refine Xt.Nw.alloc ?_ _ | refine Xt.Nw.joined ?_ | refine Xt.Nw.drewd ?_ | refine Xt.Nw.drewdN ?_ | refine Xt.Nw.ext ?_ | refine Xt.Nw.ext_some ?_ (by assumption) | refine Xt.Nw.setCell ?_ (by simp [go_sem] <;> omega) _))⟩; have := HR.out; simp_all)
set_option maxRecDepth 20000 in
set_option maxHeartbeats 4000000 in
theorem ccheck_out (k a b c d e f : Int) (h : k < 1 ∨ 15 < k) (w : World) : Calls Tryd.prog 39 #[op7 k a b c d e f] w fun e w' => e = .returned (.int .i64 2) ∧ Nw w w' := by
  have e3 : (k == 3) = false := by simp; omega
  have n3 : ¬ k = 3 := by omega
  have e4 : (k == 4) = false := by simp; omega
  have n4 : ¬ k = 4 := by omega
  have e5 : (k == 5) = false := by simp; omega
  have n5 : ¬ k = 5 := by omega
  have e6 : (k == 6) = false := by simp; omega
  have n6 : ¬ k = 6 := by omega
  have e7 : (k == 7) = false := by simp; omega
  have n7 : ¬ k = 7 := by omega
  have e8 : (k == 8) = false := by simp; omega
  have n8 : ¬ k = 8 := by omega
  have e9 : (k == 9) = false := by simp; omega
  have n9 : ¬ k = 9 := by omega
  have e11 : (k == 11) = false := by simp; omega
  have n11 : ¬ k = 11 := by omega
  have e13 : (k == 13) = false := by simp; omega
  have n13 : ¬ k = 13 := by omega
  rcases h with h | h
  · have d0 : decide (k < 1) = true := by simp; omega
    go_enter Tryd.func39, Tryd.ntmps39
    go_wp2
    go_ret
    exact ⟨rfl, (by repeat (first | exact Xt.Nw.refl _ | refine Xt.Nw.drew ?_ | refine Xt.Nw.drewN ?_ _ | refine Xt.Nw.alloc ?_ _ | refine Xt.Nw.joined ?_ | refine Xt.Nw.drewd ?_ | refine Xt.Nw.drewdN ?_ | refine Xt.Nw.ext ?_ | refine Xt.Nw.ext_some ?_ (by assumption) | refine Xt.Nw.setCell ?_ (by simp [go_sem] <;> omega) _))⟩
  · have d0 : decide (k < 1) = false := by simp; omega
    have d1 : decide (15 < k) = true := by simp; omega
    go_enter Tryd.func39, Tryd.ntmps39
    go_wp2
    go_ret
    exact ⟨rfl, (by repeat (first | exact Xt.Nw.refl _ | refine Xt.Nw.drew ?_ | refine Xt.Nw.drewN ?_ _ | refine Xt.Nw.alloc ?_ _ | refine Xt.Nw.joined ?_ | refine Xt.Nw.drewd ?_ | refine Xt.Nw.drewdN ?_ | refine Xt.Nw.ext ?_ | refine Xt.Nw.ext_some ?_ (by assumption) | refine Xt.Nw.setCell ?_ (by simp [go_sem] <;> omega) _))⟩
end Go.Proofs.YtdjcndpnjoahmaaDoor
namespace Go.Proofs.YtdjcndpnjoahmaaDoor
open Go.RowKit Go.Xt
/-- client.Check of any operation. -/
theorem check_any (o : Ox) (hw : o.Wf) (w : World) : Calls Tryd.prog 39 #[opV o] w fun e w' => e = .returned (.int .i64 (chkO o)) ∧ Nw w w' := by
  obtain ⟨k, a, b, c, d, e, f⟩ := o
  have he := hw.by_
  simp only at he
  unfold opV
  simp only
  by_cases hk : 1 ≤ k ∧ k ≤ 15
  · rcases (by omega : k = 1 ∨ k = 2 ∨ k = 3 ∨ k = 4 ∨ k = 5 ∨ k = 6 ∨ k = 7 ∨ k = 8 ∨ k = 9 ∨ k = 10 ∨ k = 11 ∨ k = 12 ∨ k = 13 ∨ k = 14 ∨ k = 15) with rfl | rfl | rfl | rfl | rfl | rfl | rfl | rfl | rfl | rfl | rfl | rfl | rfl | rfl | rfl
    · have e0 : Ox.formed ⟨1, a, b, c, d, e, f⟩ = eqB 1 0 0 0 0 0 0 1 a b c d e f := by
        have hh : ∀ x : Int, decide ((0 : Int) = x) = decide (x = 0) := fun x => decide_eq_decide.2 ⟨Eq.symm, Eq.symm⟩
        simp [Ox.formed, eqB, uK, uH, uV, uO, uB, uD, hh, Bool.and_assoc]
      have e1 : (if eqB 1 0 0 0 0 0 0 1 a b c d e f = false then (2 : Int) else 0) = chkO ⟨1, a, b, c, d, e, f⟩ := by
        rw [chkO, e0]
        simp [uH]
      rw [← e1]
      exact ccheck_1 a b c d e f w
    · have e0 : Ox.formed ⟨2, a, b, c, d, e, f⟩ = eqB 2 0 0 0 0 0 0 2 a b c d e f := by
        have hh : ∀ x : Int, decide ((0 : Int) = x) = decide (x = 0) := fun x => decide_eq_decide.2 ⟨Eq.symm, Eq.symm⟩
        simp [Ox.formed, eqB, uK, uH, uV, uO, uB, uD, hh, Bool.and_assoc]
      have e1 : (if eqB 2 0 0 0 0 0 0 2 a b c d e f = false then (2 : Int) else 0) = chkO ⟨2, a, b, c, d, e, f⟩ := by
        rw [chkO, e0]
        simp [uH]
      rw [← e1]
      exact ccheck_2 a b c d e f w
    · have e0 : Ox.formed ⟨3, a, b, c, d, e, f⟩ = eqB 3 a 0 0 0 0 0 3 a b c d e f := by
        have hh : ∀ x : Int, decide ((0 : Int) = x) = decide (x = 0) := fun x => decide_eq_decide.2 ⟨Eq.symm, Eq.symm⟩
        simp [Ox.formed, eqB, uK, uH, uV, uO, uB, uD, hh, Bool.and_assoc]
      have e1 : (if eqB 3 a 0 0 0 0 0 3 a b c d e f = false then (2 : Int) else 0) = chkO ⟨3, a, b, c, d, e, f⟩ := by
        rw [chkO, e0]
        simp [uH]
      rw [← e1]
      exact ccheck_3 a b c d e f w
    · have e0 : Ox.formed ⟨4, a, b, c, d, e, f⟩ = eqB 4 a 0 c 0 0 f 4 a b c d e f := by
        have hh : ∀ x : Int, decide ((0 : Int) = x) = decide (x = 0) := fun x => decide_eq_decide.2 ⟨Eq.symm, Eq.symm⟩
        simp [Ox.formed, eqB, uK, uH, uV, uO, uB, uD, hh, Bool.and_assoc]
      have e1 : (if eqB 4 a 0 c 0 0 f 4 a b c d e f = false then (2 : Int) else 0) = chkO ⟨4, a, b, c, d, e, f⟩ := by
        rw [chkO, e0]
        simp [uH]
      rw [← e1]
      exact ccheck_4 a b c d e f w
    · have e0 : Ox.formed ⟨5, a, b, c, d, e, f⟩ = eqB 5 a 0 c 0 0 f 5 a b c d e f := by
        have hh : ∀ x : Int, decide ((0 : Int) = x) = decide (x = 0) := fun x => decide_eq_decide.2 ⟨Eq.symm, Eq.symm⟩
        simp [Ox.formed, eqB, uK, uH, uV, uO, uB, uD, hh, Bool.and_assoc]
      have e1 : (if eqB 5 a 0 c 0 0 f 5 a b c d e f = false then (2 : Int) else 0) = chkO ⟨5, a, b, c, d, e, f⟩ := by
        rw [chkO, e0]
        simp [uH]
      rw [← e1]
      exact ccheck_5 a b c d e f w
    · have e0 : Ox.formed ⟨6, a, b, c, d, e, f⟩ = eqB 6 a 0 0 0 0 0 6 a b c d e f := by
        have hh : ∀ x : Int, decide ((0 : Int) = x) = decide (x = 0) := fun x => decide_eq_decide.2 ⟨Eq.symm, Eq.symm⟩
        simp [Ox.formed, eqB, uK, uH, uV, uO, uB, uD, hh, Bool.and_assoc]
      have e1 : (if eqB 6 a 0 0 0 0 0 6 a b c d e f = false then (2 : Int) else 0) = chkO ⟨6, a, b, c, d, e, f⟩ := by
        rw [chkO, e0]
        simp [uH]
      rw [← e1]
      exact ccheck_6 a b c d e f w
    · have e0 : Ox.formed ⟨7, a, b, c, d, e, f⟩ = eqB 7 a 0 c d 0 0 7 a b c d e f := by
        have hh : ∀ x : Int, decide ((0 : Int) = x) = decide (x = 0) := fun x => decide_eq_decide.2 ⟨Eq.symm, Eq.symm⟩
        simp [Ox.formed, eqB, uK, uH, uV, uO, uB, uD, hh, Bool.and_assoc]
      have e1 : (if eqB 7 a 0 c d 0 0 7 a b c d e f = false then (2 : Int) else 0) = chkO ⟨7, a, b, c, d, e, f⟩ := by
        rw [chkO, e0]
        simp [uH]
      rw [← e1]
      exact ccheck_7 a b c d e f w
    · have e0 : Ox.formed ⟨8, a, b, c, d, e, f⟩ = eqB 8 a b 0 0 e f 8 a b c d e f := by
        have hh : ∀ x : Int, decide ((0 : Int) = x) = decide (x = 0) := fun x => decide_eq_decide.2 ⟨Eq.symm, Eq.symm⟩
        simp [Ox.formed, eqB, uK, uH, uV, uO, uB, uD, hh, Bool.and_assoc]
      have e1 : (if eqB 8 a b 0 0 e f 8 a b c d e f = false then (2 : Int) else if spE a b ≠ 0 ∨ e = 0 then 13 else if 18446744073709551615 - e < b then 12 else 0) = chkO ⟨8, a, b, c, d, e, f⟩ := by
        rw [chkO, e0]
        congr 1
        simp only [spE, uH]
        by_cases h1 : a ≤ b
        · have h2 : ¬ b < a := by omega
          simp [h1, h2]
        · have h2 : b < a := by omega
          simp [h1, h2]
      rw [← e1]
      exact ccheck_8 a b c d e f he w
    · have e0 : Ox.formed ⟨9, a, b, c, d, e, f⟩ = eqB 9 a b 0 0 0 0 9 a b c d e f := by
        have hh : ∀ x : Int, decide ((0 : Int) = x) = decide (x = 0) := fun x => decide_eq_decide.2 ⟨Eq.symm, Eq.symm⟩
        simp [Ox.formed, eqB, uK, uH, uV, uO, uB, uD, hh, Bool.and_assoc]
      have e1 : (if eqB 9 a b 0 0 0 0 9 a b c d e f = false then (2 : Int) else if spE a b ≠ 0 then 13 else 0) = chkO ⟨9, a, b, c, d, e, f⟩ := by
        rw [chkO, e0]
        congr 1
        simp only [spE, uH]
        by_cases h1 : a ≤ b
        · have h2 : ¬ b < a := by omega
          simp [h1, h2]
        · have h2 : b < a := by omega
          simp [h1, h2]
      rw [← e1]
      exact ccheck_9 a b c d e f w
    · have e0 : Ox.formed ⟨10, a, b, c, d, e, f⟩ = eqB 10 0 0 0 0 0 0 10 a b c d e f := by
        have hh : ∀ x : Int, decide ((0 : Int) = x) = decide (x = 0) := fun x => decide_eq_decide.2 ⟨Eq.symm, Eq.symm⟩
        simp [Ox.formed, eqB, uK, uH, uV, uO, uB, uD, hh, Bool.and_assoc]
      have e1 : (if eqB 10 0 0 0 0 0 0 10 a b c d e f = false then (2 : Int) else 0) = chkO ⟨10, a, b, c, d, e, f⟩ := by
        rw [chkO, e0]
        simp [uH]
      rw [← e1]
      exact ccheck_10 a b c d e f w
    · have e0 : Ox.formed ⟨11, a, b, c, d, e, f⟩ = eqB 11 a b 0 0 0 0 11 a b c d e f := by
        have hh : ∀ x : Int, decide ((0 : Int) = x) = decide (x = 0) := fun x => decide_eq_decide.2 ⟨Eq.symm, Eq.symm⟩
        simp [Ox.formed, eqB, uK, uH, uV, uO, uB, uD, hh, Bool.and_assoc]
      have e1 : (if eqB 11 a b 0 0 0 0 11 a b c d e f = false then (2 : Int) else if spE a b ≠ 0 then 13 else 0) = chkO ⟨11, a, b, c, d, e, f⟩ := by
        rw [chkO, e0]
        congr 1
        simp only [spE, uH]
        by_cases h1 : a ≤ b
        · have h2 : ¬ b < a := by omega
          simp [h1, h2]
        · have h2 : b < a := by omega
          simp [h1, h2]
      rw [← e1]
      exact ccheck_11 a b c d e f w
    · have e0 : Ox.formed ⟨12, a, b, c, d, e, f⟩ = eqB 12 0 0 0 0 0 0 12 a b c d e f := by
        have hh : ∀ x : Int, decide ((0 : Int) = x) = decide (x = 0) := fun x => decide_eq_decide.2 ⟨Eq.symm, Eq.symm⟩
        simp [Ox.formed, eqB, uK, uH, uV, uO, uB, uD, hh, Bool.and_assoc]
      have e1 : (if eqB 12 0 0 0 0 0 0 12 a b c d e f = false then (2 : Int) else 0) = chkO ⟨12, a, b, c, d, e, f⟩ := by
        rw [chkO, e0]
        simp [uH]
      rw [← e1]
      exact ccheck_12 a b c d e f w
    · have e0 : Ox.formed ⟨13, a, b, c, d, e, f⟩ = eqB 13 a 0 0 0 0 0 13 a b c d e f := by
        have hh : ∀ x : Int, decide ((0 : Int) = x) = decide (x = 0) := fun x => decide_eq_decide.2 ⟨Eq.symm, Eq.symm⟩
        simp [Ox.formed, eqB, uK, uH, uV, uO, uB, uD, hh, Bool.and_assoc]
      have e1 : (if eqB 13 a 0 0 0 0 0 13 a b c d e f = false then (2 : Int) else 0) = chkO ⟨13, a, b, c, d, e, f⟩ := by
        rw [chkO, e0]
        simp [uH]
      rw [← e1]
      exact ccheck_13 a b c d e f w
    · have e0 : Ox.formed ⟨14, a, b, c, d, e, f⟩ = eqB 14 0 0 0 0 0 0 14 a b c d e f := by
        have hh : ∀ x : Int, decide ((0 : Int) = x) = decide (x = 0) := fun x => decide_eq_decide.2 ⟨Eq.symm, Eq.symm⟩
        simp [Ox.formed, eqB, uK, uH, uV, uO, uB, uD, hh, Bool.and_assoc]
      have e1 : (if eqB 14 0 0 0 0 0 0 14 a b c d e f = false then (2 : Int) else 0) = chkO ⟨14, a, b, c, d, e, f⟩ := by
        rw [chkO, e0]
        simp [uH]
      rw [← e1]
      exact ccheck_14 a b c d e f w
    · have e0 : Ox.formed ⟨15, a, b, c, d, e, f⟩ = eqB 15 0 0 0 0 0 0 15 a b c d e f := by
        have hh : ∀ x : Int, decide ((0 : Int) = x) = decide (x = 0) := fun x => decide_eq_decide.2 ⟨Eq.symm, Eq.symm⟩
        simp [Ox.formed, eqB, uK, uH, uV, uO, uB, uD, hh, Bool.and_assoc]
      have e1 : (if eqB 15 0 0 0 0 0 0 15 a b c d e f = false then (2 : Int) else 0) = chkO ⟨15, a, b, c, d, e, f⟩ := by
        rw [chkO, e0]
        simp [uH]
      rw [← e1]
      exact ccheck_15 a b c d e f w
  · have e1 : chkO ⟨k, a, b, c, d, e, f⟩ = 2 := by
      unfold chkO Ox.formed
      simp only
      rw [if_pos]
      by_cases h1 : 1 ≤ k
      · have h2 : decide (k ≤ 15) = false := by simp; omega
        simp [h2]
      · simp [h1]
    rw [e1]; exact ccheck_out k a b c d e f (by omega) w
end Go.Proofs.YtdjcndpnjoahmaaDoor
