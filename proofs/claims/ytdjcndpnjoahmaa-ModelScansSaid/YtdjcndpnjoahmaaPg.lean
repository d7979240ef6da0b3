import Derived.Test.YtdjcndpnjoahmaaPf
namespace Go.Proofs.Ytdjcndpnjoahmaa
open Go.RowKit Go.Xt
/-! The ordered map, plain. -/
/-- A pair put. -/
def putL (k x : Int) : List (Int × Int) → List (Int × Int)
  | [] => [(k, x)]
  | y :: r => if y.1 < k then y :: putL k x r else if y.1 = k then (k, x) :: r else (k, x) :: y :: r
/-- A key's value. -/
def getL (k : Int) : List (Int × Int) → Option Int
  | [] => none
  | y :: r => if y.1 < k then getL k r else if y.1 = k then some y.2 else none
theorem hasK_cons (k : Int) (y : Int × Int) (r : List (Int × Int)) : hasK k (y :: r) = if y.1 < k then hasK k r else decide (y.1 = k) := by
  unfold hasK
  rw [pos]
  by_cases h : y.1 < k
  · rw [if_pos h, if_pos h]; rfl
  · rw [if_neg h, if_neg h]; rfl
theorem hasK_get (k : Int) : ∀ l, hasK k l = (getL k l).isSome
  | [] => rfl
  | y :: r => by
    rw [hasK_cons, getL]
    split
    · exact hasK_get k r
    · split <;> simp_all
theorem get_at (k : Int) : ∀ (l : List (Int × Int)) (x : Int), getL k l = some x → l[pos k l]? = some (k, x)
  | [], x, h => by cases h
  | y :: r, x, h => by
    rw [getL] at h
    rw [pos]
    split at h
    · rename_i hy; rw [if_pos hy]; exact get_at k r x h
    · rename_i hy
      rw [if_neg hy]
      split at h
      · rename_i he; cases h; subst he; rfl
      · cases h
theorem put_had (k x : Int) : ∀ l, hasK k l = true → l.set (pos k l) (k, x) = putL k x l
  | [], h => by cases h
  | y :: r, h => by
    rw [hasK_cons] at h
    rw [pos, putL]
    split
    · rename_i hy; rw [if_pos hy] at h; simp [put_had k x r h]
    · rename_i hy; rw [if_neg hy] at h; simp at h; rw [if_pos h]; rfl
theorem put_new (k x : Int) : ∀ l, hasK k l = false → insM l (pos k l) (k, x) = putL k x l
  | [], h => rfl
  | y :: r, h => by
    rw [hasK_cons] at h
    rw [pos, putL]
    split
    · rename_i hy; rw [if_pos hy] at h; rw [← put_new k x r h]; rfl
    · rename_i hy; rw [if_neg hy] at h; simp at h; rw [if_neg h]; rfl
theorem put_mem {k x : Int} {z : Int × Int} : ∀ {l}, z ∈ putL k x l → z ∈ l ∨ z = (k, x)
  | [], h => by simp [putL] at h; exact .inr h
  | y :: r, h => by
    rw [putL] at h
    split at h
    · rcases List.mem_cons.1 h with rfl | h
      · simp
      · rcases put_mem h with h | h <;> simp [h]
    · split at h
      · rcases List.mem_cons.1 h with rfl | h <;> simp_all
      · rcases List.mem_cons.1 h with rfl | h <;> simp_all
theorem put_asc (k x : Int) : ∀ {l}, asc l → asc (putL k x l)
  | [], _ => by simp [putL, asc]
  | y :: r, h => by
    have h2 := List.pairwise_cons.1 h
    rw [putL]
    split
    · rename_i hy
      refine List.pairwise_cons.2 ⟨fun z hz => ?_, put_asc k x h2.2⟩
      rcases put_mem hz with h | rfl
      · exact h2.1 _ h
      · exact hy
    · split
      · rename_i he
        exact List.pairwise_cons.2 ⟨fun z hz => by rw [← he]; exact h2.1 _ hz, h2.2⟩
      · exact List.pairwise_cons.2 ⟨fun z hz => by
          rcases List.mem_cons.1 hz with rfl | h
          · show k < _; omega
          · have := h2.1 _ h; show k < _; omega, h⟩
theorem put_len (k x : Int) : ∀ l, (putL k x l).length = if hasK k l then l.length else l.length + 1
  | [] => rfl
  | y :: r => by
    rw [putL, hasK_cons]
    split
    · rw [List.length_cons, put_len k x r]; split <;> simp
    · split <;> simp_all
theorem put_le (k x : Int) (l : List (Int × Int)) : (putL k x l).length ≤ l.length + 1 := by rw [put_len]; split <;> omega
/-- A key taken out. -/
def delL (k : Int) : List (Int × Int) → List (Int × Int)
  | [] => []
  | y :: r => if y.1 < k then y :: delL k r else if y.1 = k then r else y :: r
theorem del_had (k : Int) : ∀ l, hasK k l = true → l.take (pos k l) ++ l.drop (pos k l + 1) = delL k l
  | [], h => by cases h
  | y :: r, h => by
    rw [hasK_cons] at h
    rw [pos, delL]
    split
    · rename_i hy; rw [if_pos hy] at h; rw [← del_had k r h]; rfl
    · rename_i hy; rw [if_neg hy] at h; simp at h; rw [if_pos h]; rfl
theorem del_not (k : Int) : ∀ l, hasK k l = false → delL k l = l
  | [], h => rfl
  | y :: r, h => by
    rw [hasK_cons] at h
    rw [delL]
    split
    · rename_i hy; rw [if_pos hy] at h; rw [del_not k r h]
    · rename_i hy; rw [if_neg hy] at h; simp at h; rw [if_neg h]
theorem asc_sub {l m : List (Int × Int)} (h : asc l) (hs : m.Sublist l) : asc m := List.Pairwise.sublist hs h
theorem del_sub (k : Int) : ∀ l, (delL k l).Sublist l
  | [] => .slnil
  | y :: r => by
    rw [delL]
    split
    · exact (del_sub k r).cons_cons _
    · split
      · exact List.sublist_cons_self _ _
      · exact List.Sublist.refl _
/-- Where the keys of a range end. -/
def posTo (k : Int) (l : List (Int × Int)) : Nat := if hasK k l then pos k l + 1 else pos k l
/-- The pairs of a range. -/
def inR (lo hi : Int) (l : List (Int × Int)) : List (Int × Int) := l.filter fun x => decide (lo ≤ x.1) && decide (x.1 ≤ hi)
def outR (lo hi : Int) (l : List (Int × Int)) : List (Int × Int) := l.filter fun x => !(decide (lo ≤ x.1) && decide (x.1 ≤ hi))
theorem posTo_cons (k : Int) (y : Int × Int) (r : List (Int × Int)) : posTo k (y :: r) = if y.1 < k then posTo k r + 1 else if y.1 = k then 1 else 0 := by
  unfold posTo
  rw [hasK_cons, pos]
  by_cases h : y.1 < k
  · simp only [h, if_true]; split <;> rfl
  · by_cases h2 : y.1 = k
    · simp [h, h2]
    · simp [h, h2]
theorem none_above {k : Int} {l : List (Int × Int)} (h : ∀ z ∈ l, k < z.1) (lo : Int) : inR lo k l = [] ∧ outR lo k l = l := by
  constructor
  · exact List.filter_eq_nil_iff.2 fun z hz => by have := h z hz; simp; omega
  · exact List.filter_eq_self.2 fun z hz => by have := h z hz; simp; omega
theorem pos_le_to {lo hi : Int} (hlh : lo ≤ hi) : ∀ {l}, asc l → pos lo l ≤ posTo hi l
  | [], _ => Nat.le_refl _
  | y :: r, h => by
    have h2 := List.pairwise_cons.1 h
    rw [pos, posTo_cons]
    split
    · rename_i h1
      have h3 := pos_le_to hlh h2.2
      split
      · omega
      · omega
    · exact Nat.zero_le _
theorem posTo_le (k : Int) (l : List (Int × Int)) : posTo k l ≤ l.length := by
  unfold posTo
  split
  · rename_i h
    unfold hasK at h
    split at h
    · rename_i x hx
      have := (List.getElem?_eq_some_iff.1 hx).1
      omega
    · cases h
  · exact pos_le _ _
/-- What lies before, in and after a range. -/
theorem split_range {lo hi : Int} (hlh : lo ≤ hi) : ∀ {l}, asc l → (l.take (posTo hi l)).drop (pos lo l) = inR lo hi l ∧ l.take (pos lo l) ++ l.drop (posTo hi l) = outR lo hi l
  | [], _ => ⟨rfl, rfl⟩
  | y :: r, h => by
    have h2 := List.pairwise_cons.1 h
    have ih := split_range hlh h2.2
    rw [pos, posTo_cons]
    by_cases h1 : y.1 < lo
    · have e1 : y.1 < hi := by omega
      have e2 : inR lo hi (y :: r) = inR lo hi r := by rw [inR, List.filter_cons_of_neg (by simp; omega)]; rfl
      have e3 : outR lo hi (y :: r) = y :: outR lo hi r := by rw [outR, List.filter_cons_of_pos (by simp; omega)]; rfl
      rw [if_pos h1, if_pos e1, e2, e3, ← ih.1, ← ih.2]
      exact ⟨rfl, rfl⟩
    · rw [if_neg h1]
      by_cases e1 : y.1 < hi
      · have e2 : inR lo hi (y :: r) = y :: inR lo hi r := by rw [inR, List.filter_cons_of_pos (by simp; omega)]; rfl
        have e3 : outR lo hi (y :: r) = outR lo hi r := by rw [outR, List.filter_cons_of_neg (by simp; omega)]; rfl
        have e4 : pos lo r = 0 := by
          cases r with
          | nil => rfl
          | cons z q => have := h2.1 z (by simp); rw [pos, if_neg (by omega)]
        rw [e4] at ih
        rw [if_pos e1, e2, e3, ← ih.1, ← ih.2]
        exact ⟨rfl, rfl⟩
      · rw [if_neg e1]
        by_cases e5 : y.1 = hi
        · have e6 := none_above (k := hi) (l := r) (fun z hz => by have := h2.1 z hz; omega) lo
          have e2 : inR lo hi (y :: r) = y :: inR lo hi r := by rw [inR, List.filter_cons_of_pos (by simp; omega)]; rfl
          have e3 : outR lo hi (y :: r) = outR lo hi r := by rw [outR, List.filter_cons_of_neg (by simp; omega)]; rfl
          rw [if_pos e5, e2, e3, e6.1, e6.2]
          exact ⟨rfl, rfl⟩
        · have e6 := none_above (k := hi) (l := y :: r) (fun z hz => by
            rcases List.mem_cons.1 hz with rfl | hz
            · omega
            · have := h2.1 z hz; omega) lo
          rw [if_neg e5, e6.1, e6.2]
          exact ⟨rfl, rfl⟩
end Go.Proofs.Ytdjcndpnjoahmaa
