import Derived.Test.YtnldlkkmjabenaaDoorS
namespace Go.Proofs.YtnldlkkmjabenaaDoor
open Go.RowKit Go.Xt
/-! The reference's number: plain, and its walk. -/
def val (l : List UInt8) : Nat := l.foldl (fun a c => 10 * a + (c.toNat - 48)) 0
def dgt (l : List UInt8) : Prop := ∀ c ∈ l, 48 ≤ c.toNat ∧ c.toNat ≤ 57
theorem val_snoc (l : List UInt8) (c : UInt8) : val (l ++ [c]) = 10 * val l + (c.toNat - 48) := by simp [val]
theorem head_app (a b : List UInt8) (h : a ≠ []) : (a ++ b).head? = a.head? := by
  cases a with
  | nil => exact absurd rfl h
  | cons x a => rfl
theorem dec_step {u : Nat} (h : ¬ u < 10) : Lib.decDigits u = Lib.decDigits (u / 10) ++ [UInt8.ofNat (48 + u % 10)] := by
  rw [Lib.decDigits, dif_neg h]
theorem dec_dgt (u : Nat) : dgt (Lib.decDigits u) := by
  induction u using Nat.strongRecOn with
  | ind u ih =>
    intro c hc
    by_cases h : u < 10
    · rw [Lib.decDigits_one h, List.mem_singleton] at hc; subst hc; rw [dig_nat h]; omega
    · rw [dec_step h] at hc
      rcases List.mem_append.1 hc with hc | hc
      · exact ih (u / 10) (by omega) c hc
      · rw [List.mem_singleton] at hc; subst hc; rw [dig_nat (by omega)]; omega
theorem val_dec (u : Nat) : val (Lib.decDigits u) = u := by
  induction u using Nat.strongRecOn with
  | ind u ih =>
    by_cases h : u < 10
    · rw [Lib.decDigits_one h]; simp only [val, List.foldl_cons, List.foldl_nil]; rw [dig_nat h]; omega
    · rw [dec_step h, val_snoc, ih (u / 10) (by omega), dig_nat (by omega)]; omega
theorem dec_head {u : Nat} (h0 : 0 < u) : (Lib.decDigits u).head? ≠ some 48 := by
  induction u using Nat.strongRecOn with
  | ind u ih =>
    by_cases h : u < 10
    · rw [Lib.decDigits_one h, List.head?_cons]
      intro e; injection e with e
      have := congrArg UInt8.toNat e
      rw [dig_nat h] at this
      have e2 : (48 : UInt8).toNat = 48 := rfl
      omega
    · have hl := dec_pos (u / 10)
      rw [dec_step h, head_app _ _ (by intro e; rw [e] at hl; simp at hl)]
      exact ih (u / 10) (by omega) (by omega)
theorem ofNat_dig {c : UInt8} (h : 48 ≤ c.toNat ∧ c.toNat ≤ 57) : UInt8.ofNat (48 + (c.toNat - 48)) = c := by
  apply UInt8.toNat.inj
  rw [dig_nat (by omega)]; omega
/-- The digits of its value, if a word has no leading nought. -/
theorem dec_val : ∀ (n : Nat) (l : List UInt8), l.length = n + 1 → dgt l → (1 < l.length → l.head? ≠ some 48) → Lib.decDigits (val l) = l
  | 0, l, hl, hd, _ => by
    match l, hl with
    | [c], _ =>
      have hc := hd c (by simp)
      show Lib.decDigits (10 * 0 + (c.toNat - 48)) = _
      rw [Lib.decDigits_one (by omega), Nat.mul_zero, Nat.zero_add, ofNat_dig hc]
  | n + 1, l, hl, hd, hh => by
    have hne : l ≠ [] := by intro e; rw [e] at hl; simp at hl
    obtain ⟨l', c, rfl⟩ : ∃ l' c, l = l' ++ [c] := ⟨l.dropLast, l.getLast hne, (List.dropLast_concat_getLast hne).symm⟩
    have hl' : l'.length = n + 1 := by simpa using hl
    have hne' : l' ≠ [] := by intro e; rw [e] at hl'; simp at hl'
    have hh' : l'.head? ≠ some 48 := by
      have := hh (by omega)
      rwa [head_app _ _ hne'] at this
    have ih := dec_val n l' hl' (fun d h => hd d (by simp [h])) (fun _ => hh')
    have hc := hd c (by simp)
    have hp : 0 < val l' := by
      rcases Nat.eq_zero_or_pos (val l') with h | h
      · rw [h, Lib.decDigits_one (by omega)] at ih
        exact absurd (by rw [← ih]; rfl) hh'
      · exact h
    rw [val_snoc, dec_step (by omega), show (10 * val l' + (c.toNat - 48)) / 10 = val l' by omega, show (10 * val l' + (c.toNat - 48)) % 10 = c.toNat - 48 by omega, ih, ofNat_dig hc]
theorem numB_of {l : List UInt8} (h0 : l ≠ []) (hd : dgt l) (hh : 1 < l.length → l.head? ≠ some 48) (hv : val l < 18446744073709551616) : numB l = some (val l) := by
  have h := dec_val (l.length - 1) l (by have := List.length_pos_iff.2 h0; omega) hd hh
  have := numB_dec hv
  rwa [h] at this
theorem val_mono (l r : List UInt8) : val l ≤ val (l ++ r) := by
  induction r generalizing l with
  | nil => simp
  | cons c r ih =>
    have h := ih (l ++ [c])
    rw [val_snoc] at h
    rw [show l ++ c :: r = (l ++ [c]) ++ r by simp]
    omega
theorem numB_empty : numB [] = none := by
  cases h : numB [] with
  | none => rfl
  | some u => obtain ⟨_, e⟩ := numB_some h; have := dec_pos u; rw [← e] at this; simp at this
theorem numB_long {l : List UInt8} (h : 20 < l.length) : numB l = none := by
  cases e : numB l with
  | none => rfl
  | some u => obtain ⟨hu, e⟩ := numB_some e; have := dec_len u hu; rw [← e] at this; omega
theorem numB_zero {l : List UInt8} (h : 1 < l.length) (hh : l.head? = some 48) : numB l = none := by
  cases e : numB l with
  | none => rfl
  | some u =>
    obtain ⟨hu, e⟩ := numB_some e
    subst e
    rcases Nat.eq_zero_or_pos u with rfl | hp
    · rw [Lib.decDigits_one (by omega)] at h; simp at h
    · exact absurd hh (dec_head hp)
theorem numB_bad {l : List UInt8} {i : Nat} {c : UInt8} (hi : l[i]? = some c) (hc : ¬ (48 ≤ c.toNat ∧ c.toNat ≤ 57)) : numB l = none := by
  cases e : numB l with
  | none => rfl
  | some u => obtain ⟨hu, e⟩ := numB_some e; subst e; exact absurd (dec_dgt u c (List.mem_of_getElem? hi)) hc
theorem numB_big {l : List UInt8} {i : Nat} (h : 18446744073709551616 ≤ val (l.take i)) : numB l = none := by
  cases e : numB l with
  | none => rfl
  | some u =>
    obtain ⟨hu, e⟩ := numB_some e
    have := val_mono (l.take i) (l.drop i)
    rw [List.take_append_drop, e, val_dec] at this
    rw [e] at h; omega
theorem data_len (s : ByteArray) : s.data.toList.length = s.size := by rw [Array.length_toList]; rfl
theorem data_at (s : ByteArray) (i : Nat) (hi : i < s.size) : s.data.toList[i]? = some (s[i]'hi) := by
  rw [List.getElem?_eq_getElem (by rw [data_len]; exact hi), Array.getElem_toList]; rfl
end Go.Proofs.YtnldlkkmjabenaaDoor
