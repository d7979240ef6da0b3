import Derived.Test.YtdhinclpmmpkhaaM
import Derived.Test.YtdhinclpmmpkhaaP
import Derived.StillTailTactics
import Derived.BigRegion
namespace Go.Proofs.Ytdhinclpmmpkhaa
open Go.RowKit Go.Xt
/-! The plain part: the turned list has the same keys, so the same normal form. -/
def tw (l : List (Int × Int)) (z : Int × Int) (j : Nat) : List (Int × Int) := (l.drop j).reverse.flatMap fun x => [x, z]
theorem tw_end (l : List (Int × Int)) (z : Int × Int) {j : Nat} (h : l.length ≤ j) : tw l z j = [] := by
  unfold tw; rw [List.drop_of_length_le h]; rfl
theorem tw_step {l : List (Int × Int)} {j : Nat} {x : Int × Int} (z : Int × Int) (h : l[j]? = some x) : tw l z j = tw l z (j + 1) ++ [x, z] := by
  obtain ⟨hj, rfl⟩ := List.getElem?_eq_some_iff.1 h
  unfold tw
  rw [List.drop_eq_getElem_cons hj, List.reverse_cons, List.flatMap_append]; rfl
theorem tw_len (l : List (Int × Int)) (z : Int × Int) (j : Nat) : (tw l z j).length = 2 * (l.length - j) := by
  unfold tw
  generalize hm : (l.drop j).reverse = m
  have : m.length = l.length - j := by rw [← hm]; simp
  rw [← this]
  clear hm this
  induction m with
  | nil => rfl
  | cons a m ih => simp at ih ⊢; omega
theorem tw_mem {l : List (Int × Int)} {z : Int × Int} (hz : 0 < l.length → z ∈ l) (s : Int × Int) : s ∈ tw l z 0 ↔ s ∈ l := by
  unfold tw
  simp only [List.drop_zero, List.mem_flatMap, List.mem_reverse, List.mem_cons, List.not_mem_nil, or_false]
  constructor
  · rintro ⟨x, hx, rfl | rfl⟩
    · exact hx
    · exact hz (List.length_pos_of_mem hx)
  · intro h; exact ⟨s, h, .inl rfl⟩
theorem key_mem {l r : List (Int × Int)} (h : ∀ s, s ∈ r ↔ s ∈ l) (k : Int) : Nm.key k r ↔ Nm.key k l :=
  ⟨fun ⟨s, hs, h1⟩ => ⟨s, (h s).1 hs, h1⟩, fun ⟨s, hs, h1⟩ => ⟨s, (h s).2 hs, h1⟩⟩
theorem norm_tw {l : List (Int × Int)} {z : Int × Int} (hz : 0 < l.length → z ∈ l) (hv : ∀ s ∈ l, s.1 ≤ s.2) : Nm.norm (tw l z 0) = Nm.norm l := by
  obtain ⟨h1, h2⟩ := Nm.norm_spec (tw l z 0) (fun s hs => hv s ((tw_mem hz s).1 hs))
  exact Nm.norm_eq l _ hv h1 fun k => (h2 k).trans (key_mem (tw_mem hz) k)
theorem norm_norm {l : List (Int × Int)} (hv : ∀ s ∈ l, s.1 ≤ s.2) : Nm.norm (Nm.norm l) = Nm.norm l := by
  obtain ⟨h1, h2⟩ := Nm.norm_spec l hv
  obtain ⟨h3, h4⟩ := Nm.norm_spec (Nm.norm l) h1.valid
  exact Nm.norm_eq l _ hv h3 fun k => (h4 k).trans (h2 k)
theorem inF_norm {l : List (Int × Int)} (hv : ∀ s ∈ l, s.1 ≤ s.2) (k : Int) : inF k (Nm.norm l) = inF k l := by
  rw [Bool.eq_iff_iff, inF_iff, inF_iff]; exact (Nm.norm_spec l hv).2 k
theorem Nf_get : ∀ {l : List (Int × Int)}, Nm.Nf l → ∀ (k : Nat) (x y : Int × Int), l[k]? = some x → l[k + 1]? = some y → x.2 + 1 < y.1
  | [], _, k, x, y, h, _ => by simp at h
  | a :: l, hn, 0, x, y, h, h' => by
    simp only [List.getElem?_cons_zero, Option.some.injEq] at h
    subst h
    exact hn.2.1 y (List.mem_of_getElem? (by simpa using h'))
  | a :: l, hn, k + 1, x, y, h, h' => by
    simp only [List.getElem?_cons_succ] at h h'
    exact Nf_get hn.2.2 k x y h h'
end Go.Proofs.Ytdhinclpmmpkhaa
