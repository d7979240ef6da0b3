import Derived.Test.YtnldlkkmjabenaaDoorL
namespace Go.Proofs.YtnldlkkmjabenaaDoor
open Go.RowKit Go.Xt
/-! An operation that is filled, plain. -/
theorem fill_kd (k : Int) (ns : List Nat) : (fillO k ns).kd = k := rfl
theorem fill_at {k : Int} {ns : List Nat} {j p : Nat} (h : (offs k)[j]? = some p) : sel (fillO k ns) p = (((ns[j]?).getD 0 : Nat) : Int) := by
  rcases (by omega : (k ≠ 3 ∧ k ≠ 4 ∧ k ≠ 5 ∧ k ≠ 6 ∧ k ≠ 7 ∧ k ≠ 8 ∧ k ≠ 9 ∧ k ≠ 11 ∧ k ≠ 13) ∨ k = 3 ∨ k = 4 ∨ k = 5 ∨ k = 6 ∨ k = 7 ∨ k = 8 ∨ k = 9 ∨ k = 11 ∨ k = 13) with h0 | rfl | rfl | rfl | rfl | rfl | rfl | rfl | rfl | rfl
  · rw [offs_none h0] at h; simp at h
  · match j, h with
    | 0, h => (obtain rfl : 1 = p := (by simpa [offs] using h); rfl)
    | m + 1, h => simp [offs] at h
  · match j, h with
    | 0, h => (obtain rfl : 1 = p := (by simpa [offs] using h); rfl)
    | 1, h => (obtain rfl : 3 = p := (by simpa [offs] using h); rfl)
    | 2, h => (obtain rfl : 6 = p := (by simpa [offs] using h); rfl)
    | m + 3, h => simp [offs] at h
  · match j, h with
    | 0, h => (obtain rfl : 1 = p := (by simpa [offs] using h); rfl)
    | 1, h => (obtain rfl : 3 = p := (by simpa [offs] using h); rfl)
    | 2, h => (obtain rfl : 6 = p := (by simpa [offs] using h); rfl)
    | m + 3, h => simp [offs] at h
  · match j, h with
    | 0, h => (obtain rfl : 1 = p := (by simpa [offs] using h); rfl)
    | m + 1, h => simp [offs] at h
  · match j, h with
    | 0, h => (obtain rfl : 1 = p := (by simpa [offs] using h); rfl)
    | 1, h => (obtain rfl : 4 = p := (by simpa [offs] using h); rfl)
    | 2, h => (obtain rfl : 3 = p := (by simpa [offs] using h); rfl)
    | m + 3, h => simp [offs] at h
  · match j, h with
    | 0, h => (obtain rfl : 1 = p := (by simpa [offs] using h); rfl)
    | 1, h => (obtain rfl : 2 = p := (by simpa [offs] using h); rfl)
    | 2, h => (obtain rfl : 5 = p := (by simpa [offs] using h); rfl)
    | 3, h => (obtain rfl : 6 = p := (by simpa [offs] using h); rfl)
    | m + 4, h => simp [offs] at h
  · match j, h with
    | 0, h => (obtain rfl : 1 = p := (by simpa [offs] using h); rfl)
    | 1, h => (obtain rfl : 2 = p := (by simpa [offs] using h); rfl)
    | m + 2, h => simp [offs] at h
  · match j, h with
    | 0, h => (obtain rfl : 1 = p := (by simpa [offs] using h); rfl)
    | 1, h => (obtain rfl : 2 = p := (by simpa [offs] using h); rfl)
    | m + 2, h => simp [offs] at h
  · match j, h with
    | 0, h => (obtain rfl : 1 = p := (by simpa [offs] using h); rfl)
    | m + 1, h => simp [offs] at h
theorem fill_used (k : Int) (ns : List Nat) : usedO (fillO k ns) = fillO k ns := by
  unfold usedO
  rw [fill_kd]
  rcases (by omega : (k ≠ 3 ∧ k ≠ 4 ∧ k ≠ 5 ∧ k ≠ 6 ∧ k ≠ 7 ∧ k ≠ 8 ∧ k ≠ 9 ∧ k ≠ 11 ∧ k ≠ 13) ∨ k = 3 ∨ k = 4 ∨ k = 5 ∨ k = 6 ∨ k = 7 ∨ k = 8 ∨ k = 9 ∨ k = 11 ∨ k = 13) with h0 | rfl | rfl | rfl | rfl | rfl | rfl | rfl | rfl | rfl
  · have hf : fillO k ns = ⟨k, 0, 0, 0, 0, 0, 0⟩ := by unfold fillO; rw [offs_none h0]; rfl
    rw [offs_none h0, hf]; rfl
  · rfl
  · rfl
  · rfl
  · rfl
  · rfl
  · rfl
  · rfl
  · rfl
  · rfl
end Go.Proofs.YtnldlkkmjabenaaDoor
