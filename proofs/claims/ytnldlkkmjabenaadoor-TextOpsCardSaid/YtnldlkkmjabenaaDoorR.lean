import Derived.Test.YtnldlkkmjabenaaDoorL2
import Derived.Test.YtnldlkkmjabenaaDoorQ
import Derived.Lib.CountLaws
import Derived.Lib.IndexBytes
import Derived.Lib.Split
namespace Go.Proofs.YtnldlkkmjabenaaDoor
open Go.RowKit Go.Xt
/-! The line of an operation, plain: it is read back, and what is read has that line. -/
theorem wd_split : ∀ (l : List UInt8), nb l ∨ ∃ w r, l = w ++ 32 :: r ∧ nb w
  | [] => .inl fun c hc => by cases hc
  | c :: l => by
    by_cases h : c = 32
    · exact .inr ⟨[], l, by rw [h]; rfl, fun c hc => by cases hc⟩
    · rcases wd_split l with hl | ⟨w, r, rfl, hw⟩
      · exact .inl fun d hd => (List.mem_cons.1 hd).elim (fun e => e ▸ h) (hl d)
      · exact .inr ⟨c :: w, r, rfl, fun d hd => (List.mem_cons.1 hd).elim (fun e => e ▸ h) (hw d)⟩
theorem ib_none : ∀ {l : List UInt8}, nb l → Lib.indexByte l 32 = -1
  | [], _ => rfl
  | c :: l, h => by
    have h1 : (c == 32) = false := by simpa using h c (by simp)
    rw [Lib.indexByte, h1, ib_none (l := l) fun d hd => h d (by simp [hd])]; rfl
theorem ib_app : ∀ {w : List UInt8} (r : List UInt8), nb w → Lib.indexByte (w ++ 32 :: r) 32 = (w.length : Int)
  | [], r, _ => by rw [List.nil_append, Lib.indexByte]; rfl
  | c :: w, r, h => by
    have h1 : (c == 32) = false := by simpa using h c (by simp)
    rw [List.cons_append, Lib.indexByte, h1, ib_app (w := w) r fun d hd => h d (by simp [hd])]
    have h2 : (((w.length : Int)) == -1) = false := by rw [beq_eq_false_iff_ne]; omega
    simp [h2]
theorem split_wd : ∀ (n : Nat) (l : List UInt8), l.length ≤ n → Lib.splitK [32] 0 (Lib.count l [32]) l = wd l
  | n, l, hn => by
    rcases wd_split l with hl | ⟨w, r, rfl, hw⟩
    · rw [Lib.count_miss (by rw [Lib.index_one, ib_none hl]), wd_word hl]; rfl
    · have hi : Lib.index (w ++ 32 :: r) [32] = (w.length : Nat) := by rw [Lib.index_one, ib_app r hw]
      have hd : (w ++ 32 :: r).drop (w.length + 1) = r := by
        rw [show w ++ 32 :: r = (w ++ [32]) ++ r by simp, show w.length + 1 = (w ++ [32]).length by simp, List.drop_left]
      have hne : ((Lib.index (w ++ 32 :: r) [32]) == -1) = false := by rw [hi, beq_eq_false_iff_ne]; omega
      match n, hn with
      | 0, hn => simp at hn
      | n + 1, hn =>
        rw [Lib.count_hit (by simp) hi, show w.length + ([32] : List UInt8).length = w.length + 1 from rfl, hd, Nat.add_comm, Lib.splitK, hne, if_neg (by simp), hi]
        rw [show ((w.length : Nat) : Int).toNat + 0 = w.length by omega, show ((w.length : Nat) : Int).toNat + ([32] : List UInt8).length = w.length + 1 by simp, hd]
        rw [split_wd n r (by simp at hn; omega), wd_app r hw, List.take_left]
theorem words_data (s : ByteArray) : (wordsB s).map (·.data.toList) = wd s.data.toList := by
  rw [wordsB, Lib.splitB_data]
  exact split_wd s.data.toList.length s.data.toList (Nat.le_refl _)
theorem ba_eq (s : ByteArray) : s = ⟨s.data.toList.toArray⟩ := by cases s; simp
theorem words_eq (s : ByteArray) : wordsB s = (wd s.data.toList).map fun l => ⟨l.toArray⟩ := by
  rw [← words_data, List.map_map]
  conv => lhs; rw [← List.map_id (wordsB s)]
  apply List.map_congr_left
  intro a _
  simp
theorem wd_len : ∀ (l : List UInt8), (wd l).length ≤ l.length + 1 ∧ ∀ x ∈ wd l, x.length ≤ l.length
  | [] => by simp [wd]
  | c :: l => by
    have ih := wd_len l
    rw [wd]
    split
    · refine ⟨by simp; omega, fun x hx => ?_⟩
      rcases List.mem_cons.1 hx with rfl | hx
      · simp
      · have := ih.2 x hx; simp; omega
    · split
      · simp
      · rename_i h t e
        rw [e] at ih
        refine ⟨by simp at ih ⊢; omega, fun x hx => ?_⟩
        rcases List.mem_cons.1 hx with rfl | hx
        · have := ih.2 h (by simp); simp; omega
        · have := ih.2 x (by simp [hx]); simp; omega
theorem words_size (s : ByteArray) : (wordsB s).length ≤ s.size + 1 ∧ ∀ x ∈ wordsB s, x.size ≤ s.size := by
  have hs : s.size = s.data.toList.length := by rw [Array.length_toList]; rfl
  have h := wd_len s.data.toList
  rw [words_eq, hs]
  refine ⟨by rw [List.length_map]; exact h.1, fun x hx => ?_⟩
  obtain ⟨l, hl, rfl⟩ := List.mem_map.1 hx
  show l.toArray.size ≤ _
  rw [List.size_toArray]
  exact h.2 l hl
theorem wd_ne (l : List UInt8) : wd l ≠ [] := by
  cases l with
  | nil => simp [wd]
  | cons c l =>
    rw [wd]
    split
    · simp
    · split <;> simp
/-- The words put together again. -/
theorem wd_join : ∀ {l : List UInt8} {w : List UInt8} {T : List (List UInt8)}, wd l = w :: T → l = w ++ tl T
  | [], w, T, h => by
    rw [wd] at h; injection h with h1 h2; subst h1 h2; rfl
  | c :: l, w, T, h => by
    rw [wd] at h
    split at h
    · rename_i hc
      injection h with h1 h2
      subst h1 h2 hc
      cases e : wd l with
      | nil => exact absurd e (wd_ne l)
      | cons x U => rw [wd_join e]; simp [tl]
    · split at h
      · rename_i e
        exact absurd e (wd_ne l)
      · rename_i x t e
        injection h with h1 h2; subst h1 h2
        rw [wd_join e]; rfl
theorem jn_tl : ∀ (l : List Nat) (b : List UInt8), jn b l = b ++ tl (l.map Lib.decDigits)
  | [], b => by simp [jn, tl]
  | u :: l, b => by
    have h := jn_tl l (b ++ (32 :: Lib.decDigits u))
    show jn (b ++ (32 :: Lib.decDigits u)) l = _
    rw [h]; simp [tl]
def asB (l : List UInt8) : ByteArray := ⟨l.toArray⟩
theorem allB_dec : ∀ {ns : List Nat}, (∀ u ∈ ns, u < 18446744073709551616) → allB (ns.map fun u => asB (Lib.decDigits u)) = some ns
  | [], _ => rfl
  | u :: ns, h => by
    rw [List.map_cons, allB, allB_dec fun v hv => h v (by simp [hv])]
    have : numB (asB (Lib.decDigits u)).data.toList = some u := by
      rw [show (asB (Lib.decDigits u)).data.toList = Lib.decDigits u by simp [asB]]; exact numB_dec (h u (by simp))
    rw [this]
theorem allB_inv : ∀ {ws : List ByteArray} {ns : List Nat}, allB ws = some ns → ws.map (·.data.toList) = ns.map Lib.decDigits
  | [], ns, h => by simp [allB] at h; subst h; rfl
  | s :: r, ns, h => by
    rw [allB] at h
    split at h
    · rename_i u l h1 h2
      injection h with h; subst h
      rw [List.map_cons, List.map_cons, allB_inv h2, ← (numB_some h1).2]
    · cases h
theorem numsR_inv {ws : List ByteArray} {m : Int} {ns : List Nat} (h : numsR ws m = some ns) : (ns.length : Int) = m ∧ ws.map (·.data.toList) = ns.map Lib.decDigits ∧ ∀ u ∈ ns, u < 18446744073709551616 := by
  unfold numsR at h
  split at h
  · rename_i hm
    exact ⟨by rw [allB_len h]; exact hm, allB_inv h, allB_lt h⟩
  · cases h
theorem kinds_word : ∀ k : Int, (k = 1 ∨ k = 2 ∨ k = 3 ∨ k = 4 ∨ k = 5 ∨ k = 6 ∨ k = 7 ∨ k = 8 ∨ k = 9 ∨ k = 10 ∨ k = 11 ∨ k = 12 ∨ k = 13 ∨ k = 14 ∨ k = 15) →
    kindOf (wordL k) = some k ∧ wordL k ≠ [] ∧ wordL k ≠ [111, 112] ∧ (∀ c ∈ wordL k, 97 ≤ c ∧ c ≤ 122) := by
  intro k h
  rcases h with rfl | rfl | rfl | rfl | rfl | rfl | rfl | rfl | rfl | rfl | rfl | rfl | rfl | rfl | rfl <;> decide +kernel
theorem word_kind {k : Int} (h : wordL k ≠ []) (h0 : 0 ≤ k) : (k = 1 ∨ k = 2 ∨ k = 3 ∨ k = 4 ∨ k = 5 ∨ k = 6 ∨ k = 7 ∨ k = 8 ∨ k = 9 ∨ k = 10 ∨ k = 11 ∨ k = 12 ∨ k = 13 ∨ k = 14 ∨ k = 15) := by
  rcases (by omega : (k = 0 ∨ 15 < k) ∨ (1 ≤ k ∧ k ≤ 15)) with h1 | h1
  · exact absurd (wordL_none h0 h1) h
  · omega
theorem kindF_some {v : List UInt8} : ∀ (f : Nat) (k j : Int), kindF v f k = some j → wordL j = v ∧ k ≤ j ∧ j < k + f
  | 0, k, j, h => by cases h
  | f + 1, k, j, h => by
    rw [kindF] at h
    split at h
    · rename_i e; injection h with h; subst h; exact ⟨e, by omega, by omega⟩
    · have := kindF_some f (k + 1) j h; exact ⟨this.1, by omega, by omega⟩
theorem kindOf_some {v : List UInt8} {k : Int} (h : kindOf v = some k) : wordL k = v ∧ (k = 1 ∨ k = 2 ∨ k = 3 ∨ k = 4 ∨ k = 5 ∨ k = 6 ∨ k = 7 ∨ k = 8 ∨ k = 9 ∨ k = 10 ∨ k = 11 ∨ k = 12 ∨ k = 13 ∨ k = 14 ∨ k = 15) := by
  have := kindF_some 15 1 k h
  exact ⟨this.1, by omega⟩
end Go.Proofs.YtnldlkkmjabenaaDoor
