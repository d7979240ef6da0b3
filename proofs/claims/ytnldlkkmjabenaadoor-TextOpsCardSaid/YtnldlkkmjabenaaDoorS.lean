import Derived.Test.YtnldlkkmjabenaaDoorR
namespace Go.Proofs.YtnldlkkmjabenaaDoor
open Go.RowKit Go.Xt
/-! ParseOp and Op, plain. -/
theorem mkOp_all {x : Opn} (hx : WfO x) : mkOp (allF x) = x := by
  obtain ⟨a, b, c, d, e, f, g⟩ := hx
  cases x
  simp only [mkOp, allF, List.getElem?_cons_zero, List.getElem?_cons_succ, Option.getD_some, Opn.mk.injEq]
  simp only at a b c d e f g
  refine ⟨?_, ?_, ?_, ?_, ?_, ?_, ?_⟩ <;> omega
theorem words_line {s : ByteArray} {w : List UInt8} {ns : List Nat} (h : s.data.toList = jn w ns) (hw : nb w) : wordsB s = asB w :: ns.map fun u => asB (Lib.decDigits u) := by
  rw [words_eq, h, jn_tl, wd_tl hw (fun x hx => by obtain ⟨u, _, rfl⟩ := List.mem_map.1 hx; exact dec_nb u), List.map_cons, List.map_map]
  rfl
theorem useF_fill {k : Int} {ns : List Nat} (h : ns.length = (offs k).length) : useF (fillO k ns) = ns := by
  unfold useF
  rw [fill_kd]
  apply List.ext_getElem?
  intro i
  rw [List.getElem?_map]
  by_cases hi : i < ns.length
  · have h1 : (offs k)[i]? = some ((offs k)[i]'(by omega)) := List.getElem?_eq_getElem (by omega)
    rw [h1, Option.map_some, fill_at h1, List.getElem?_eq_getElem hi]
    simp
  · rw [List.getElem?_eq_none (by omega), List.getElem?_eq_none (by omega)]; rfl
theorem sel_ext {a b : Opn} (h0 : a.kd = b.kd) (h : ∀ o, 1 ≤ o → o ≤ 6 → sel a o = sel b o) : a = b := by
  have h1 := h 1 (by omega) (by omega)
  have h2 := h 2 (by omega) (by omega)
  have h3 := h 3 (by omega) (by omega)
  have h4 := h 4 (by omega) (by omega)
  have h5 := h 5 (by omega) (by omega)
  have h6 := h 6 (by omega) (by omega)
  cases a; cases b
  simp only [sel] at *
  subst h0 h1 h2 h3 h4 h5 h6
  rfl
theorem sel_used (x : Opn) : ∀ o, 1 ≤ o → o ≤ 6 → o ∉ offs x.kd → sel (usedO x) o = 0 := fun o h1 h6 h => by
  rw [usedO, sel_part x _ o h1 h6, if_neg h]
theorem fill_use {x : Opn} (hx : WfO x) (hu : usedO x = x) : fillO x.kd (useF x) = x := by
  refine sel_ext rfl fun o h1 h6 => ?_
  by_cases ho : o ∈ offs x.kd
  · obtain ⟨i, hi⟩ := List.mem_iff_getElem?.1 ho
    rw [fill_at hi, useF, List.getElem?_map, hi]
    have := (hx.sel o).1
    simp only [Option.map_some, Option.getD_some]
    omega
  · have e1 : sel (fillO x.kd (useF x)) o = 0 := by
      rw [← fill_used]; exact sel_used _ o h1 h6 ho
    have e2 : sel x o = 0 := by rw [← hu]; exact sel_used x o h1 h6 ho
    rw [e1, e2]
theorem op_nb : nb ([111, 112] : List UInt8) := by
  intro c hc; simp at hc; rcases hc with rfl | rfl <;> decide
theorem word_nb {k : Int} (h : wordL k ≠ []) (h0 : 0 ≤ k) : nb (wordL k) := by
  intro c hc e
  have := (kinds_word k (word_kind h h0)).2.2.2 c hc
  subst e
  exact absurd this.1 (by decide)
theorem parse_line {x : Opn} (hx : WfO x) {s : ByteArray} (hs : s.data.toList = lineO x) : parseW s (wordsB s) = (x, 0) := by
  by_cases hc : wordL x.kd = [] ∨ usedO x ≠ x
  · have hl : s.data.toList = jn [111, 112] (allF x) := by rw [hs, lineO, if_pos hc]
    have hk := hx.kd
    rw [words_line hl op_nb, parseW, if_pos (show asB [111, 112] = ⟨#[111, 112]⟩ from rfl), numsR, if_pos (by simp [allF]), allB_dec (allF_lt hx)]
    simp only []
    rw [mkOp_all hx, if_neg (by simp [allF]; omega), if_pos hs.symm]
  · have hn : wordL x.kd ≠ [] := fun e => hc (.inl e)
    have hu : usedO x = x := Classical.byContradiction fun e => hc (.inr e)
    have hl : s.data.toList = jn (wordL x.kd) (useF x) := by rw [hs, lineO, if_neg hc]
    have hk := kinds_word x.kd (word_kind hn hx.kd.1)
    rw [words_line hl (word_nb hn hx.kd.1), parseW, if_neg (fun e => hk.2.2.1 (by have := congrArg (fun b : ByteArray => b.data.toList) e; simpa [asB] using this))]
    have e1 : (asB (wordL x.kd)).data.toList = wordL x.kd := by simp [asB]
    rw [e1, hk.1]
    simp only []
    rw [numsR, if_pos (by simp [useF]), allB_dec (useF_lt hx)]
    simp only []
    rw [fill_use hx hu]
theorem getD_lt {ns : List Nat} {m : Nat} (h : ∀ u ∈ ns, u < m) (hm : 0 < m) (i : Nat) : (ns[i]?).getD 0 < m := by
  cases e : ns[i]? with
  | none => simpa using hm
  | some u => exact h u (List.mem_of_getElem? e)
theorem fill_wf {k : Int} {ns : List Nat} (hk : 0 ≤ k ∧ k < 256) (h : ∀ u ∈ ns, u < 18446744073709551616) : WfO (fillO k ns) := by
  have hg := fun i => getD_lt h (by omega) i
  refine ⟨hk, ?_, ?_, ?_, ?_, ?_, ?_⟩
  all_goals
    simp only [fillO]
    split
    · rename_i i _; have := hg i; omega
    · omega
theorem parse_back {s : ByteArray} {x : Opn} (h : parseW s (wordsB s) = (x, 0)) : WfO x ∧ lineO x = s.data.toList := by
  have hd := words_data s
  cases hw : wordsB s with
  | nil => rw [hw] at hd; exact absurd hd.symm (wd_ne _)
  | cons w0 r =>
    rw [hw] at h hd
    have hj := wd_join hd.symm
    rw [parseW] at h
    split at h
    · split at h
      · rename_i ns hn
        split at h
        · cases h
        · rename_i h255
          split at h
          · rename_i hl
            injection h with h _; subst h
            obtain ⟨_, _, hlt⟩ := numsR_inv hn
            have hg := fun i => getD_lt hlt (by omega) i
            refine ⟨⟨?_, ?_, ?_, ?_, ?_, ?_, ?_⟩, hl⟩
            · show (0 : Int) ≤ (((ns[0]?).getD 0 : Nat) : Int) ∧ (((ns[0]?).getD 0 : Nat) : Int) < 256
              omega
            · have := hg 1; simp only [mkOp]; omega
            · have := hg 2; simp only [mkOp]; omega
            · have := hg 3; simp only [mkOp]; omega
            · have := hg 4; simp only [mkOp]; omega
            · have := hg 5; simp only [mkOp]; omega
            · have := hg 6; simp only [mkOp]; omega
          · cases h
      · cases h
    · split at h
      · rename_i k hk
        split at h
        · rename_i ns hn
          injection h with h _; subst h
          obtain ⟨hlen, hr, hlt⟩ := numsR_inv hn
          obtain ⟨hkw, hkr⟩ := kindOf_some hk
          have hkk := kinds_word k hkr
          refine ⟨fill_wf (by omega) hlt, ?_⟩
          rw [lineO, if_neg (by rw [fill_kd, fill_used]; exact fun e => e.elim hkk.2.1 fun e => e rfl), fill_kd, useF_fill (by omega), jn_tl, hkw, hj, hr]
        · cases h
      · cases h
theorem parse_cases (s : ByteArray) (ws : List ByteArray) : parseW s ws = (noOp, 4) ∨ ∃ x, parseW s ws = (x, 0) := by
  cases ws with
  | nil => exact .inl rfl
  | cons w0 r =>
    rw [parseW]
    split
    · split
      · split
        · exact .inl rfl
        · split
          · exact .inr ⟨_, rfl⟩
          · exact .inl rfl
      · exact .inl rfl
    · split
      · split
        · exact .inr ⟨_, rfl⟩
        · exact .inl rfl
      · exact .inl rfl
theorem lineO_inj {a b : Opn} (ha : WfO a) (hb : WfO b) (h : lineO a = lineO b) : a = b := by
  have h1 := parse_line ha (s := asB (lineO a)) (by simp [asB])
  have h2 := parse_line hb (s := asB (lineO a)) (by simp [asB, h])
  rw [h1] at h2
  injection h2
theorem tl_chars {T : List (List UInt8)} (h : ∀ w ∈ T, ∀ c ∈ w, 32 ≤ c ∧ c ≤ 122) : ∀ c ∈ tl T, 32 ≤ c ∧ c ≤ 122 := by
  intro c hc
  rw [tl, List.mem_flatMap] at hc
  obtain ⟨w, hw, hc⟩ := hc
  rcases List.mem_cons.1 hc with rfl | hc
  · decide
  · exact h w hw c hc
theorem dec_chars (u : Nat) : ∀ c ∈ Lib.decDigits u, (32 : UInt8) ≤ c ∧ c ≤ 122 := by
  induction u using Nat.strongRecOn with
  | ind u ih =>
    have hd : ∀ d, d < 10 → (32 : UInt8) ≤ UInt8.ofNat (48 + d) ∧ UInt8.ofNat (48 + d) ≤ 122 := fun d hd => by
      rw [UInt8.le_iff_toNat_le, UInt8.le_iff_toNat_le, dig_nat hd]
      exact ⟨by simp; omega, by simp; omega⟩
    intro c hc
    by_cases h : u < 10
    · rw [Lib.decDigits_one h, List.mem_singleton] at hc; subst hc; exact hd u h
    · rw [Lib.decDigits, dif_neg h] at hc
      rcases List.mem_append.1 hc with hc | hc
      · exact ih (u / 10) (by omega) c hc
      · rw [List.mem_singleton] at hc; subst hc; exact hd (u % 10) (by omega)
theorem line_chars {x : Opn} (hx : WfO x) : ∀ c ∈ lineO x, (32 : UInt8) ≤ c ∧ c ≤ 122 := by
  have hT : ∀ (ns : List Nat), ∀ w ∈ ns.map Lib.decDigits, ∀ c ∈ w, (32 : UInt8) ≤ c ∧ c ≤ 122 := fun ns w hw c hc => by
    obtain ⟨u, _, rfl⟩ := List.mem_map.1 hw; exact dec_chars u c hc
  intro c hc
  unfold lineO at hc
  split at hc
  · rw [jn_tl] at hc
    rcases List.mem_append.1 hc with hc | hc
    · simp at hc; rcases hc with rfl | rfl <;> decide
    · exact tl_chars (hT _) c hc
  · rename_i hn
    rw [jn_tl] at hc
    rcases List.mem_append.1 hc with hc | hc
    · have := (kinds_word x.kd (word_kind (fun e => hn (.inl e)) hx.kd.1)).2.2.2 c hc
      exact ⟨UInt8.le_trans (by decide) this.1, this.2⟩
    · exact tl_chars (hT _) c hc
theorem line_len {x : Opn} (hx : WfO x) : (lineO x).length ≤ 200 := by
  unfold lineO
  split
  · have := jn_len (allF x) [111, 112] (allF_lt hx)
    simp [allF] at this ⊢; omega
  · have := jn_len (useF x) (wordL x.kd) (useF_lt hx)
    have h2 := wordL_len x.kd
    have h3 := offs_len x.kd
    simp [useF] at this ⊢; omega
end Go.Proofs.YtnldlkkmjabenaaDoor
