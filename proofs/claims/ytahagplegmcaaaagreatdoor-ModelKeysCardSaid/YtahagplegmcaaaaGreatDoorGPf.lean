import Derived.Test.YtahagplegmcaaaaGreatDoorGPc
import Derived.Maps.AppendAt
set_option linter.unusedVariables false
set_option linter.unusedSimpArgs false
set_option linter.unnecessarySimpa false
namespace Go.Proofs.YtahagplegmcaaaaGreatDoor
open Go.RowKit Go.Xt
/-! The ordered map: what it holds in memory; slices.Insert, find, set at any pairs. -/
def Moved (w : World) (v v' : Value) : Prop := v'.ownBlock = v.ownBlock ∨ ∃ g, v'.ownBlock = some g ∧ w.heap.size ≤ g
set_option maxRecDepth 20000 in
set_option maxHeartbeats 4000000 in
theorem insert_last (v : Value) (n : Nat) (l : List (Int × Int)) (gv : Nat) (k x : Int) (w : World) (hown : w.ownsRow 0 106 2 v n (pcells l)) (hn : n ≤ 1000000)
    (h0 : w.cell? ⟨gv, 0, none⟩ = some (.int .u64 k)) (h1 : w.cell? ⟨gv, 1, none⟩ = some (.int .u64 x)) :
    Calls Tryz.prog 78 #[v, .int .i64 n, .slice (some ⟨gv, 0, none⟩) 1 1] w fun e w' => ∃ v', e = .returned v' ∧ w'.ownsRow 0 106 2 v' (n + 1) (pcells (l ++ [(k, x)])) ∧ w.grownBy w' v.ownBlock ∧ Moved w v v' := by
  haveI : In gv w := ⟨World.block_lt_of_cell? w _ h0⟩
  have HO := Lib.hid hown
  obtain ⟨i, hi1, hz0, hz1, hz2⟩ := info_parts pairInfo
  have HI := Lib.hid (⟨hi1, hz0, hz1, hz2⟩ : _ ∧ _ ∧ _ ∧ _)
  clear hi1 hz0 hz1 hz2
  have hnews : ∀ j u, [Value.int .u64 k, Value.int .u64 x][j]? = some u → w.cell? ((⟨gv, 0, none⟩ : Addr).add j) = some u := by
    intro j u hu
    have hadd : (⟨gv, 0, none⟩ : Addr).add j = ⟨gv, j, none⟩ := by unfold Addr.add; split <;> simp_all
    rw [hadd]
    match j, hu with
    | 0, hu => simp at hu; subst hu; exact h0
    | 1, hu => simp at hu; subst hu; exact h1
    | j + 2, hu => simp at hu
  have HN := Lib.hid hnews
  clear hnews
  have fin : ∀ (w' : World) (v' : Value), w'.ownsRow 0 106 2 v' (n + 1) (pcells l ++ [.int .u64 k, .int .u64 x]) → w'.ownsRow 0 106 2 v' (n + 1) (pcells (l ++ [(k, x)])) := fun w' v' h => by rw [pcells_app]; exact h
  have FIN := Lib.hid fin
  have mvd : ∀ (v' : Value), (v'.ownBlock = v.ownBlock ∨ v'.ownBlock = some w.heap.size) → Moved w v v' := fun v' h => h.imp id fun h => ⟨_, h, Nat.le_refl _⟩
  have MVD := Lib.hid mvd
  clear fin mvd
  rcases own_forms hown with ⟨rfl, rfl⟩ | ⟨g, c, rfl, hg, hin, hc1, hc2⟩
  · clear hown
    go_enter Tryz.func78, Tryz.ntmps78
    go_wp2_with (at_builtin; refine wpList_append_own_at w rfl _ _ 62 rfl 0 106 i (.agg #[.int .u64 0, .int .u64 0]) 2 16 Tryz.underlying62 HI.out.1 HI.out.2.1 HI.out.2.2.1 HI.out.2.2.2 rfl (by decide) _ 0 _ rfl HO.out ⟨gv, 0, none⟩ 1 1 [.int .u64 k, .int .u64 x] rfl rfl HN.out (by intro u hu; simp at hu; rcases hu with rfl | rfl <;> rfl) (by unfold maxLen; omega) (by omega) (Nat.zero_le _) ?_; intro vA wA hownA hgrA _ hmvA)
    exact bodyPost_ret (results_tmp rfl _ _ _) rfl ⟨vA, rfl, FIN.out _ _ hownA, hgrA, MVD.out _ hmvA⟩
  · have c1 : (n : Int) ≤ (c : Int) := by omega
    clear hown
    go_enter Tryz.func78, Tryz.ntmps78
    go_wp2_with (at_builtin; refine wpList_append_own_at w rfl _ _ 62 rfl 0 106 i (.agg #[.int .u64 0, .int .u64 0]) 2 16 Tryz.underlying62 HI.out.1 HI.out.2.1 HI.out.2.2.1 HI.out.2.2.2 rfl (by decide) _ n _ rfl HO.out ⟨gv, 0, none⟩ 1 1 [.int .u64 k, .int .u64 x] rfl rfl HN.out (by intro u hu; simp at hu; rcases hu with rfl | rfl <;> rfl) (by unfold maxLen; omega) (by omega) (Nat.zero_le _) ?_; intro vA wA hownA hgrA _ hmvA)
    all_goals exact bodyPost_ret (results_tmp rfl _ _ _) rfl ⟨vA, rfl, FIN.out _ _ hownA, hgrA, MVD.out _ hmvA⟩
theorem insM_end (l : List (Int × Int)) (y : Int × Int) : insM l l.length y = l ++ [y] := by simp [insM]
theorem insert_any (v : Value) (n : Nat) (l : List (Int × Int)) (P gv : Nat) (k x : Int) (w : World) (hown : w.ownsRow 0 106 2 v n (pcells l)) (hl : l.length = n) (hP : P ≤ n) (hn : n ≤ 1000000)
    (h0 : w.cell? ⟨gv, 0, none⟩ = some (.int .u64 k)) (h1 : w.cell? ⟨gv, 1, none⟩ = some (.int .u64 x)) (hne : v.ownBlock ≠ some gv) (tA : TypeId) (kA : Nat) (hsv : w.shape? gv = some (tA, kA)) (hfv : ∀ o, w.frozen? ⟨gv, o, none⟩ = false) :
    Calls Tryz.prog 78 #[v, .int .i64 P, .slice (some ⟨gv, 0, none⟩) 1 1] w fun e w' => ∃ v', e = .returned v' ∧ w'.ownsRow 0 106 2 v' (n + 1) (pcells (insM l P (k, x))) ∧ w.grownBy w' v.ownBlock ∧ Moved w v v' := by
  by_cases h : P = n
  · subst h
    rw [← hl, insM_end, hl]
    exact insert_last v P l gv k x w hown hn h0 h1
  · rcases own_forms hown with ⟨rfl, rfl⟩ | ⟨g, c, rfl, hg, hin, hc1, hc2⟩
    · omega
    · by_cases hc : n + 1 ≤ c
      · refine (insert_mid 0 g n c l P gv k x w hown hl (by omega) hc hn h0 h1 (fun e => hne (by rw [e]; rfl)) tA kA hsv hfv).mono ?_
        rintro e w' ⟨rfl, ho, hg⟩
        exact ⟨_, rfl, ho, hg, .inl rfl⟩
      · obtain rfl : n = c := by omega
        refine (insert_grow 0 g n l P gv k x w hown (Nat.zero_le _) hl (by omega) hn h0 h1).mono ?_
        rintro e w' ⟨v', rfl, ho, hnw, hmv⟩
        exact ⟨_, rfl, ho, grown_weak hnw.grown _, .inr hmv⟩
end Go.Proofs.YtahagplegmcaaaaGreatDoor
namespace Go.Proofs.YtahagplegmcaaaaGreatDoor
open Go.RowKit Go.Xt
/-! The ordered map, plain. -/
/-- A pair put. -/
def putL (k x : Int) : List (Int × Int) → List (Int × Int)
  | [] => [(k, x)]
  | y :: r => if y.1 < k then y :: putL k x r else if y.1 = k then (k, x) :: r else (k, x) :: y :: r
/-- A key's value. -/
def getL (k : Int) : List (Int × Int) → Option Int
  | [] => none
  | y :: r => if y.1 < k then getL k r else if y.1 = k then some y.2 else none
theorem hasK_cons (k : Int) (y : Int × Int) (r : List (Int × Int)) : hasK k (y :: r) = if y.1 < k then hasK k r else decide (y.1 = k) := by
  unfold hasK
  rw [pos]
  by_cases h : y.1 < k
  · rw [if_pos h, if_pos h]; rfl
  · rw [if_neg h, if_neg h]; rfl
theorem hasK_get (k : Int) : ∀ l, hasK k l = (getL k l).isSome
  | [] => rfl
  | y :: r => by
    rw [hasK_cons, getL]
    split
    · exact hasK_get k r
    · split <;> simp_all
theorem get_at (k : Int) : ∀ (l : List (Int × Int)) (x : Int), getL k l = some x → l[pos k l]? = some (k, x)
  | [], x, h => by cases h
  | y :: r, x, h => by
    rw [getL] at h
    rw [pos]
    split at h
    · rename_i hy; rw [if_pos hy]; exact get_at k r x h
    · rename_i hy
      rw [if_neg hy]
      split at h
      · rename_i he; cases h; subst he; rfl
      · cases h
theorem put_had (k x : Int) : ∀ l, hasK k l = true → l.set (pos k l) (k, x) = putL k x l
  | [], h => by cases h
  | y :: r, h => by
    rw [hasK_cons] at h
    rw [pos, putL]
    split
    · rename_i hy; rw [if_pos hy] at h; simp [put_had k x r h]
    · rename_i hy; rw [if_neg hy] at h; simp at h; rw [if_pos h]; rfl
theorem put_new (k x : Int) : ∀ l, hasK k l = false → insM l (pos k l) (k, x) = putL k x l
  | [], h => rfl
  | y :: r, h => by
    rw [hasK_cons] at h
    rw [pos, putL]
    split
    · rename_i hy; rw [if_pos hy] at h; rw [← put_new k x r h]; rfl
    · rename_i hy; rw [if_neg hy] at h; simp at h; rw [if_neg h]; rfl
theorem put_mem {k x : Int} {z : Int × Int} : ∀ {l}, z ∈ putL k x l → z ∈ l ∨ z = (k, x)
  | [], h => by simp [putL] at h; exact .inr h
  | y :: r, h => by
    rw [putL] at h
    split at h
    · rcases List.mem_cons.1 h with rfl | h
      · simp
      · rcases put_mem h with h | h <;> simp [h]
    · split at h
      · rcases List.mem_cons.1 h with rfl | h <;> simp_all
      · rcases List.mem_cons.1 h with rfl | h <;> simp_all
theorem put_asc (k x : Int) : ∀ {l}, asc l → asc (putL k x l)
  | [], _ => by simp [putL, asc]
  | y :: r, h => by
    have h2 := List.pairwise_cons.1 h
    rw [putL]
    split
    · rename_i hy
      refine List.pairwise_cons.2 ⟨fun z hz => ?_, put_asc k x h2.2⟩
      rcases put_mem hz with h | rfl
      · exact h2.1 _ h
      · exact hy
    · split
      · rename_i he
        exact List.pairwise_cons.2 ⟨fun z hz => by rw [← he]; exact h2.1 _ hz, h2.2⟩
      · exact List.pairwise_cons.2 ⟨fun z hz => by
          rcases List.mem_cons.1 hz with rfl | h
          · show k < _; omega
          · have := h2.1 _ h; show k < _; omega, h⟩
theorem put_len (k x : Int) : ∀ l, (putL k x l).length = if hasK k l then l.length else l.length + 1
  | [] => rfl
  | y :: r => by
    rw [putL, hasK_cons]
    split
    · rw [List.length_cons, put_len k x r]; split <;> simp
    · split <;> simp_all
theorem put_le (k x : Int) (l : List (Int × Int)) : (putL k x l).length ≤ l.length + 1 := by rw [put_len]; split <;> omega
/-- A key taken out. -/
def delL (k : Int) : List (Int × Int) → List (Int × Int)
  | [] => []
  | y :: r => if y.1 < k then y :: delL k r else if y.1 = k then r else y :: r
theorem del_had (k : Int) : ∀ l, hasK k l = true → l.take (pos k l) ++ l.drop (pos k l + 1) = delL k l
  | [], h => by cases h
  | y :: r, h => by
    rw [hasK_cons] at h
    rw [pos, delL]
    split
    · rename_i hy; rw [if_pos hy] at h; rw [← del_had k r h]; rfl
    · rename_i hy; rw [if_neg hy] at h; simp at h; rw [if_pos h]; rfl
theorem del_not (k : Int) : ∀ l, hasK k l = false → delL k l = l
  | [], h => rfl
  | y :: r, h => by
    rw [hasK_cons] at h
    rw [delL]
    split
    · rename_i hy; rw [if_pos hy] at h; rw [del_not k r h]
    · rename_i hy; rw [if_neg hy] at h; simp at h; rw [if_neg h]
theorem asc_sub {l m : List (Int × Int)} (h : asc l) (hs : m.Sublist l) : asc m := List.Pairwise.sublist hs h
theorem del_sub (k : Int) : ∀ l, (delL k l).Sublist l
  | [] => .slnil
  | y :: r => by
    rw [delL]
    split
    · exact (del_sub k r).cons_cons _
    · split
      · exact List.sublist_cons_self _ _
      · exact List.Sublist.refl _
/-- Where the keys of a range end. -/
def posTo (k : Int) (l : List (Int × Int)) : Nat := if hasK k l then pos k l + 1 else pos k l
/-- The pairs of a range. -/
def inR (lo hi : Int) (l : List (Int × Int)) : List (Int × Int) := l.filter fun x => decide (lo ≤ x.1) && decide (x.1 ≤ hi)
def outR (lo hi : Int) (l : List (Int × Int)) : List (Int × Int) := l.filter fun x => !(decide (lo ≤ x.1) && decide (x.1 ≤ hi))
theorem posTo_cons (k : Int) (y : Int × Int) (r : List (Int × Int)) : posTo k (y :: r) = if y.1 < k then posTo k r + 1 else if y.1 = k then 1 else 0 := by
  unfold posTo
  rw [hasK_cons, pos]
  by_cases h : y.1 < k
  · simp only [h, if_true]; split <;> rfl
  · by_cases h2 : y.1 = k
    · simp [h, h2]
    · simp [h, h2]
theorem none_above {k : Int} {l : List (Int × Int)} (h : ∀ z ∈ l, k < z.1) (lo : Int) : inR lo k l = [] ∧ outR lo k l = l := by
  constructor
  · exact List.filter_eq_nil_iff.2 fun z hz => by have := h z hz; simp; omega
  · exact List.filter_eq_self.2 fun z hz => by have := h z hz; simp; omega
theorem pos_le_to {lo hi : Int} (hlh : lo ≤ hi) : ∀ {l}, asc l → pos lo l ≤ posTo hi l
  | [], _ => Nat.le_refl _
  | y :: r, h => by
    have h2 := List.pairwise_cons.1 h
    rw [pos, posTo_cons]
    split
    · rename_i h1
      have h3 := pos_le_to hlh h2.2
      split
      · omega
      · omega
    · exact Nat.zero_le _
theorem posTo_le (k : Int) (l : List (Int × Int)) : posTo k l ≤ l.length := by
  unfold posTo
  split
  · rename_i h
    unfold hasK at h
    split at h
    · rename_i x hx
      have := (List.getElem?_eq_some_iff.1 hx).1
      omega
    · cases h
  · exact pos_le _ _
/-- What lies before, in and after a range. -/
theorem split_range {lo hi : Int} (hlh : lo ≤ hi) : ∀ {l}, asc l → (l.take (posTo hi l)).drop (pos lo l) = inR lo hi l ∧ l.take (pos lo l) ++ l.drop (posTo hi l) = outR lo hi l
  | [], _ => ⟨rfl, rfl⟩
  | y :: r, h => by
    have h2 := List.pairwise_cons.1 h
    have ih := split_range hlh h2.2
    rw [pos, posTo_cons]
    by_cases h1 : y.1 < lo
    · have e1 : y.1 < hi := by omega
      have e2 : inR lo hi (y :: r) = inR lo hi r := by rw [inR, List.filter_cons_of_neg (by simp; omega)]; rfl
      have e3 : outR lo hi (y :: r) = y :: outR lo hi r := by rw [outR, List.filter_cons_of_pos (by simp; omega)]; rfl
      rw [if_pos h1, if_pos e1, e2, e3, ← ih.1, ← ih.2]
      exact ⟨rfl, rfl⟩
    · rw [if_neg h1]
      by_cases e1 : y.1 < hi
      · have e2 : inR lo hi (y :: r) = y :: inR lo hi r := by rw [inR, List.filter_cons_of_pos (by simp; omega)]; rfl
        have e3 : outR lo hi (y :: r) = outR lo hi r := by rw [outR, List.filter_cons_of_neg (by simp; omega)]; rfl
        have e4 : pos lo r = 0 := by
          cases r with
          | nil => rfl
          | cons z q => have := h2.1 z (by simp); rw [pos, if_neg (by omega)]
        rw [e4] at ih
        rw [if_pos e1, e2, e3, ← ih.1, ← ih.2]
        exact ⟨rfl, rfl⟩
      · rw [if_neg e1]
        by_cases e5 : y.1 = hi
        · have e6 := none_above (k := hi) (l := r) (fun z hz => by have := h2.1 z hz; omega) lo
          have e2 : inR lo hi (y :: r) = y :: inR lo hi r := by rw [inR, List.filter_cons_of_pos (by simp; omega)]; rfl
          have e3 : outR lo hi (y :: r) = outR lo hi r := by rw [outR, List.filter_cons_of_neg (by simp; omega)]; rfl
          rw [if_pos e5, e2, e3, e6.1, e6.2]
          exact ⟨rfl, rfl⟩
        · have e6 := none_above (k := hi) (l := y :: r) (fun z hz => by
            rcases List.mem_cons.1 hz with rfl | hz
            · omega
            · have := h2.1 z hz; omega) lo
          rw [if_neg e5, e6.1, e6.2]
          exact ⟨rfl, rfl⟩
end Go.Proofs.YtahagplegmcaaaaGreatDoor
namespace Go.Proofs.YtahagplegmcaaaaGreatDoor
open Go.RowKit Go.Xt
/-! The ordered map in memory; find, set. -/
/-- The map at block gp, whose slice is v, holds the pairs l. -/
structure OM (W : World) (gp : Nat) (v : Value) (l : List (Int × Int)) : Prop where
  p0 : W.cell? ⟨gp, 0, none⟩ = some v
  row : W.ownsRow 0 106 2 v l.length (pcells l)
  ne : v.ownBlock ≠ some gp
  pz : W.frozen? ⟨gp, 0, none⟩ = false
  asc : asc l
theorem own_chg {base : Nat} {e : TypeId} {size n : Nat} {v : Value} {xs : List Value} {W W' : World} {X : List Nat} (h : W.ownsRow base e size v n xs) (hc : Chg X W W') (hx : ∀ g, v.ownBlock = some g → g ∉ X) : W'.ownsRow base e size v n xs := by
  refine ⟨h.1, ?_⟩
  rcases h.2 with ⟨h1, h2⟩ | ⟨g, cap, cur, h1, h2, h3, h4⟩
  · exact .inl ⟨h1, h2⟩
  · refine .inr ⟨g, cap, cur, h1, h2, ?_, h4⟩
    rw [← h3]
    exact hc.block g (Array.getElem?_eq_some_iff.1 h3).1 (hx g (by rw [h1]; rfl))
theorem OM.chg {W W' : World} {gp : Nat} {v : Value} {l : List (Int × Int)} {X : List Nat} (h : OM W gp v l) (hc : Chg X W W') (h1 : gp ∉ X) (h2 : ∀ g, v.ownBlock = some g → g ∉ X) : OM W' gp v l :=
  ⟨hc.cell h.p0 h1, own_chg h.row hc h2, h.ne, (hc.frozen (World.block_lt_of_cell? W _ h.p0) h1).trans h.pz, h.asc⟩
theorem OM.nw {W W' : World} {gp : Nat} {v : Value} {l : List (Int × Int)} (h : OM W gp v l) (hn : Nw W W') : OM W' gp v l := h.chg (Chg.of_nw hn : Chg [] W W') (by simp) (by simp)
theorem OM.lt {W : World} {gp : Nat} {v : Value} {l : List (Int × Int)} (h : OM W gp v l) : gp < W.heap.size := World.block_lt_of_cell? W _ h.p0
theorem OM.rlt {W : World} {gp : Nat} {v : Value} {l : List (Int × Int)} (h : OM W gp v l) {g : Nat} (hg : v.ownBlock = some g) : g < W.heap.size := by
  rcases own_forms h.row with ⟨rfl, _⟩ | ⟨g', c, rfl, _, hin, _, _⟩
  · cases hg
  · cases hg; exact hin.lt
theorem OM.form {W : World} {gp : Nat} {v : Value} {l : List (Int × Int)} (h : OM W gp v l) : (v = .slice none 0 0 ∧ l = []) ∨ ∃ g c, v = .slice (some ⟨g, 0, none⟩) l.length c ∧ l.length ≤ c ∧ c ≤ maxLen ∧ In g W := by
  rcases own_forms h.row with ⟨h1, h2⟩ | ⟨g, c, h1, _, h3, h4, h5⟩
  · exact .inl ⟨h1, List.length_eq_zero_iff.1 h2⟩
  · exact .inr ⟨g, c, h1, h4, h5, h3⟩
theorem OM.pat {W : World} {gp g c : Nat} {l : List (Int × Int)} (h : OM W gp (.slice (some ⟨g, 0, none⟩) l.length c) l) : PAt W gp g l.length c l :=
  ⟨h.p0, rfl, fun i x hx => by
    have hi := (List.getElem?_eq_some_iff.1 hx).1
    have := pcells_get l i x hx
    rw [h.row.cellAt _ (by omega), h.row.cellAt _ (by omega)]
    exact this⟩
set_option maxRecDepth 20000 in
set_option maxHeartbeats 4000000 in
theorem find_nil (gp : Nat) (k : Int) (w : World) (h : w.cell? ⟨gp, 0, none⟩ = some (.slice none 0 0)) :
    Calls Tryz.prog 45 #[.pointer (some ⟨gp, 0, none⟩), .int .u64 k] w fun e w' => e = .returned (.tuple #[.int .i64 0, .bool false]) ∧ Nw w w' := by
  haveI : In gp w := ⟨World.block_lt_of_cell? w _ h⟩
  go_enter Tryz.func45, Tryz.ntmps45
  go_wp2_with fail
  refine (search_0 _ _).mono ?_
  rintro e w' ⟨rfl, dW, rfl⟩
  go_wp2_with fail
  (refine wp_region_nw (by kernel_rfl) (by kernel_rfl) ?_; (repeat (go_big_quiet_step (fail))); refine wpQuiet_nil ?_; intro _ hreg; obtain ⟨dW, rfl⟩ : Nw _ _ := hreg)
  go_wp2
  exact bodyPost_ret (results_tmp2 rfl _ _ _) rfl ⟨rfl, (by repeat (first | exact Xt.Nw.refl _ | refine Xt.Nw.drew ?_ | refine Xt.Nw.drewN ?_ _ | refine Xt.Nw.alloc ?_ _ | refine Xt.Nw.joined ?_ | refine Xt.Nw.drewd ?_ | refine Xt.Nw.drewdN ?_ | refine Xt.Nw.ext ?_ | refine Xt.Nw.ext_some ?_ (by assumption) | refine Xt.Nw.setCell ?_ (by simp [go_sem] <;> omega) _))⟩
theorem find_om {w : World} {gp : Nat} {v : Value} {l : List (Int × Int)} (h : OM w gp v l) (hn : l.length ≤ 1000000) (k : Int) :
    Calls Tryz.prog 45 #[.pointer (some ⟨gp, 0, none⟩), .int .u64 k] w fun e w' => e = .returned (.tuple #[.int .i64 (pos k l), .bool (hasK k l)]) ∧ Nw w w' := by
  rcases h.form with ⟨rfl, rfl⟩ | ⟨g, c, rfl, -, -, -⟩
  · exact find_nil gp k w h.p0
  · exact find_any gp g l.length c l k w h.pat h.asc hn
theorem pcells_set : ∀ (l : List (Int × Int)) (i : Nat) (k x : Int) (y : Int × Int), l[i]? = some y → y.1 = k → (pcells l).set (i * 2 + 1) (.int .u64 x) = pcells (l.set i (k, x))
  | [], i, k, x, y, h, _ => by simp at h
  | z :: r, 0, k, x, y, h, e => by simp at h; subst h; subst e; rfl
  | z :: r, i + 1, k, x, y, h, e => by
    have h2 := pcells_set r i k x y (by simpa using h) e
    show (.int .u64 z.1 :: .int .u64 z.2 :: pcells r).set ((i + 1) * 2 + 1) _ = .int .u64 z.1 :: .int .u64 z.2 :: pcells (r.set i (k, x))
    rw [show (i + 1) * 2 + 1 = (i * 2 + 1) + 1 + 1 by omega, List.set_cons_succ, List.set_cons_succ, h2]
/-- The blocks of a map. -/
def foot (gp : Nat) (v : Value) : List Nat := gp :: v.ownBlock.toList
theorem mem_foot {gp g : Nat} {v : Value} : g ∈ foot gp v ↔ g = gp ∨ v.ownBlock = some g := by
  simp [foot, Option.mem_toList]
theorem Chg.then {X Y : List Nat} {a b c : World} (h : Chg X a b) (k : Chg Y b c) (hs : ∀ y ∈ Y, y ∈ X ∨ a.heap.size ≤ y) : Chg X a c :=
  ⟨k.os.trans h.os, k.tape.trans h.tape, k.output.trans h.output, Nat.le_trans h.size k.size, fun j hj hx => (k.block j (Nat.lt_of_lt_of_le hj h.size) (fun hy => (hs j hy).elim hx (fun h => by omega))).trans (h.block j hj hx)⟩
theorem Chg.wide {X Y : List Nat} {a b : World} (h : Chg X a b) (hs : ∀ k ∈ X, k ∈ Y) : Chg Y a b := ⟨h.os, h.tape, h.output, h.size, fun k hk hx => h.block k hk fun e => hx (hs k e)⟩
theorem Chg.of_grownBy {w w' : World} {r : Option Nat} (h : w.grownBy w' r) : Chg r.toList w w' := ⟨h.os, h.tape, h.output, h.size, fun k hk hx => h.block k hk (fun e => hx (by rw [Option.mem_toList]; exact e.symm))⟩
set_option maxRecDepth 20000 in
set_option maxHeartbeats 4000000 in
theorem set_had (w : World) (gp g c : Nat) (l : List (Int × Int)) (k x : Int) (h : OM w gp (.slice (some ⟨g, 0, none⟩) l.length c) l) (hn : l.length ≤ 1000000) (hh : hasK k l = true) :
    Calls Tryz.prog 46 #[.pointer (some ⟨gp, 0, none⟩), .int .u64 k, .int .u64 x] w fun e w' => e = .returned (.tuple #[]) ∧ OM w' gp (.slice (some ⟨g, 0, none⟩) l.length c) (putL k x l) ∧ Chg [g] w w' := by
  obtain ⟨z, hz⟩ : ∃ z, getL k l = some z := by rw [hasK_get] at hh; exact Option.isSome_iff_exists.1 hh
  have hat := get_at k l z hz
  have hP := (List.getElem?_eq_some_iff.1 hat).1
  have c1 := (h.pat.at' _ _ hat).2
  have hf : w.frozen? ⟨g, pos k l * 2 + 1, none⟩ = false := h.row.frozenAt _
  have p0 := h.p0
  haveI : In gp w := ⟨h.lt⟩
  haveI : In g w := ⟨World.block_lt_of_cell? w _ c1⟩
  have HF := Lib.hid (find_om h hn k)
  have HH := Lib.hid h
  have HP := Lib.hid (pcells_set l (pos k l) k x _ hat rfl)
  have HS := Lib.hid (put_had k x l hh)
  rw [hh] at HF
  obtain ⟨P, hPe⟩ : ∃ P, P = pos k l := ⟨_, rfl⟩
  rw [← hPe] at HF HP HS hP c1 hf
  obtain ⟨n, hne⟩ : ∃ n, n = l.length := ⟨_, rfl⟩
  rw [← hne] at hP p0 HH ⊢
  have q1 : (P : Int) < (n : Int) := by omega
  have q0 : (0 : Int) ≤ (P : Int) := by omega
  have HN := Lib.hid hne
  clear h hz hat hPe hne
  go_enter Tryz.func46, Tryz.ntmps46
  go_wp2_with fail
  refine HF.out.mono ?_
  rintro e W2 ⟨rfl, hn2⟩
  have h2 := HH.out.nw hn2
  have hrow := h2.row
  rw [← HN.out] at hrow
  have q2 := cell_nw p0 hn2
  have q3 := cell_nw c1 hn2
  have q4 : W2.frozen? ⟨g, P * 2 + 1, none⟩ = false := hrow.frozenAt _
  haveI : In gp W2 := ⟨h2.lt⟩
  haveI : In g W2 := ⟨World.block_lt_of_cell? W2 _ q3⟩
  have H2 := Lib.hid h2
  have HR := Lib.hid hrow
  have HN2 := Lib.hid hn2
  clear h2 hrow hn2
  go_wp2
  have hne2 : g ≠ gp := fun e => HH.out.ne (by rw [e]; rfl)
  have hst := HR.out.stored (P * 2 + 1) (.int .u64 x)
  have hch : Chg [g] W2 (W2.setCell ⟨g, P * 2 + 1, none⟩ (.int .u64 x)) := Chg.set1 _ _ _ _
  have hgp : gp ∉ [g] := by simp; omega
  refine bodyPost_ret (results_none rfl _ _ _) rfl ⟨rfl, ⟨hch.cell H2.out.p0 hgp, ?_, H2.out.ne, (hch.frozen H2.out.lt hgp).trans H2.out.pz, put_asc k x H2.out.asc⟩, (Chg.of_nw HN2.out).trans hch⟩
  have e1 : (putL k x l).length = l.length := by rw [put_len, hh, if_pos rfl]
  rw [e1, ← HN.out, ← HS.out, ← HP.out]
  exact hst.1
set_option maxRecDepth 20000 in
set_option maxHeartbeats 4000000 in
theorem set_new (w : World) (gp : Nat) (v : Value) (l : List (Int × Int)) (k x : Int) (h : OM w gp v l) (hn : l.length ≤ 1000000) (hh : hasK k l = false) :
    Calls Tryz.prog 46 #[.pointer (some ⟨gp, 0, none⟩), .int .u64 k, .int .u64 x] w fun e w' => e = .returned (.tuple #[]) ∧ ∃ v', OM w' gp v' (putL k x l) ∧ Chg (foot gp v) w w' ∧ Moved w v v' := by
  have p0 := h.p0
  haveI : In gp w := ⟨h.lt⟩
  have HF := Lib.hid (find_om h hn k)
  have HH := Lib.hid h
  have HS := Lib.hid (put_new k x l hh)
  rw [hh] at HF
  have HPL := Lib.hid (pos_le k l)
  clear h
  go_enter Tryz.func46, Tryz.ntmps46
  go_wp2_with fail
  refine HF.out.mono ?_
  rintro e w' ⟨rfl, dW, rfl⟩
  have h2 := HH.out.nw (⟨dW, rfl⟩ : Nw w (w.ext none dW))
  have H2 := Lib.hid h2
  clear h2
  go_wp2_with fail
  have hnA : Nw (w.ext none dW) ((w.ext none dW).alloc (.cells #[.int .u64 k, .int .u64 x] 106)) := (Nw.refl _).alloc _
  refine (insert_any v l.length l (pos k l) _ k x _ (H2.out.nw hnA).row rfl HPL.out hn (by simp [go_sem]) (by simp [go_sem]) (fun e => by have := H2.out.rlt e; omega) 106 2 (by unfold World.shape?; rw [heap_alloc_new]; rfl) (by simp [go_sem])).mono ?_
  rintro e W3 ⟨vN, rfl, hown, hgr, hmv⟩
  obtain ⟨gN, cN, hvN⟩ : ∃ gN cN, vN = .slice (some ⟨gN, 0, none⟩) (l.length + 1) cN := by
    rcases own_forms hown with ⟨_, h0⟩ | ⟨gl, cap, hv, _, _, _, _⟩
    · omega
    · exact ⟨gl, cap, hv⟩
  subst hvN
  have hc3 := (Chg.of_nw hnA).then (X := v.ownBlock.toList) (Chg.of_grownBy hgr) (fun y hy => .inl hy)
  have hgpx : gp ∉ v.ownBlock.toList := by rw [Option.mem_toList]; exact H2.out.ne
  have p3 := hc3.cell H2.out.p0 hgpx
  have z3 := (hc3.frozen H2.out.lt hgpx).trans H2.out.pz
  have HC3 := Lib.hid hc3
  have HMV := Lib.hid hmv
  have HOW := Lib.hid hown
  have hsz : (w.ext none dW).heap.size ≤ ((w.ext none dW).alloc (.cells #[.int .u64 k, .int .u64 x] 106)).heap.size := by simp
  have HSZ := Lib.hid hsz
  clear hc3 hmv hown hgr hgpx hnA hsz
  go_wp2
  have hs1 := Chg.set1 W3 gp 0 (.slice (some ⟨gN, 0, none⟩) (l.length + 1) cN)
  have hs0 := le_size w none dW
  have hs2 := HSZ.out
  have hne' : (Value.slice (some ⟨gN, 0, none⟩) (l.length + 1) cN).ownBlock ≠ some gp := by
    rcases HMV.out with e | ⟨q, e, hq⟩
    · rw [e]; exact H2.out.ne
    · rw [e]; intro he; cases he; have := HH.out.lt; omega
  go_end0
  refine ⟨rfl, _, ⟨World.cell?_setCell_same _ _ _ p3, ?_, hne', by rw [World.frozen?_setCell]; exact z3, put_asc k x H2.out.asc⟩, ?_, ?_⟩
  · have e1 : (putL k x l).length = l.length + 1 := by rw [put_len, hh]; rfl
    rw [e1, ← HS.out]
    exact own_chg HOW.out hs1 (fun g hg hx => by simp at hx; subst hx; exact hne' hg)
  · exact (((Chg.of_nw (⟨dW, rfl⟩ : Nw w (w.ext none dW))).then (X := v.ownBlock.toList) HC3.out (fun y hy => .inl hy)).wide (Y := foot gp v) (fun y hy => by rw [mem_foot]; exact .inr (by simpa using hy))).then hs1 (fun y hy => by simp at hy; subst hy; exact .inl (mem_foot.2 (.inl rfl)))
  · rcases HMV.out with e | ⟨q, e, hq⟩
    · exact .inl e
    · exact .inr ⟨q, e, by omega⟩
/-- set: the key has the value. -/
theorem set_any (w : World) (gp : Nat) (v : Value) (l : List (Int × Int)) (k x : Int) (h : OM w gp v l) (hn : l.length ≤ 1000000) :
    Calls Tryz.prog 46 #[.pointer (some ⟨gp, 0, none⟩), .int .u64 k, .int .u64 x] w fun e w' => e = .returned (.tuple #[]) ∧ ∃ v', OM w' gp v' (putL k x l) ∧ Chg (foot gp v) w w' ∧ Moved w v v' := by
  cases hh : hasK k l with
  | true =>
    rcases h.form with ⟨rfl, rfl⟩ | ⟨g, c, rfl, -, -, -⟩
    · cases hh
    · refine (set_had w gp g c l k x h hn hh).mono ?_
      rintro e w' ⟨rfl, ho, hc⟩
      exact ⟨rfl, _, ho, hc.wide (fun y hy => by simp at hy; subst hy; exact mem_foot.2 (.inr rfl)), .inl rfl⟩
  | false => exact set_new w gp v l k x h hn hh
end Go.Proofs.YtahagplegmcaaaaGreatDoor
