import Derived.Test.YtjpgechcfkhoaaaL
namespace Go.Proofs.Ytjpgechcfkhoaaa
open Go.RowKit Go.Xt
def sts (c : Cl) : List Int := [c.inv, c.took, c.ans]
theorem mem_stepsL (c : Cl) (s : Int) : s ∈ stepsL c ↔ s ∈ sts c ∧ 0 ≤ s := by simp only [stepsL, sts, List.mem_filter, decide_eq_true_eq]
theorem apRun_some (t : Int) : ∀ (l : List Int) (f : Int → Option Int), (∀ s ∈ l, 0 ≤ s → ∀ u, f s = some u → u = t) → apRun t l f = some (fun z => if z ∈ l ∧ 0 ≤ z then some t else f z)
  | [], f, _ => by simp [apRun]
  | a :: l, f, h => by
    rw [apRun]
    by_cases ha : a < 0
    · have h1 : apStep t f a = some f := by rw [apStep, if_pos ha]
      rw [h1]
      simp only
      rw [apRun_some t l f (fun s hs => h s (by simp [hs]))]
      congr 1
      funext z
      have : (z ∈ l ∧ 0 ≤ z) = (z ∈ a :: l ∧ 0 ≤ z) := by
        rw [eq_iff_iff, List.mem_cons]
        constructor
        · rintro ⟨h1, h2⟩; exact ⟨.inr h1, h2⟩
        · rintro ⟨h1 | h1, h2⟩
          · omega
          · exact ⟨h1, h2⟩
      simp only [this]
    · have h1 : apStep t f a = some (upd f a t) := by
        rw [apStep, if_neg ha]
        cases hfa : f a with
        | none => rfl
        | some u => simp [h a (by simp) (by omega) u hfa]
      rw [h1]
      simp only
      rw [apRun_some t l (upd f a t) (fun s hs h0 u hu => by
        unfold upd at hu
        split at hu
        · injection hu with hu; exact hu.symm
        · exact h s (by simp [hs]) h0 u hu)]
      congr 1
      funext z
      by_cases hz : z = a
      · subst hz
        simp [upd, show 0 ≤ z by omega]
      · have : (z ∈ l ∧ 0 ≤ z) = (z ∈ a :: l ∧ 0 ≤ z) := by simp [hz]
        simp only [this, upd, if_neg hz]
theorem apRun_cond (t : Int) : ∀ (l : List Int) (f f' : Int → Option Int), apRun t l f = some f' → ∀ s ∈ l, 0 ≤ s → ∀ u, f s = some u → u = t
  | [], _, _, _, _, hs, _, _, _ => by cases hs
  | a :: l, f, f', h, s, hs, h0, u, hu => by
    rw [apRun] at h
    by_cases ha : a < 0
    · have h1 : apStep t f a = some f := by rw [apStep, if_pos ha]
      rw [h1] at h
      rcases List.mem_cons.1 hs with rfl | hs
      · omega
      · exact apRun_cond t l f f' h s hs h0 u hu
    · rcases List.mem_cons.1 hs with rfl | hs
      · have h1 : apStep t f s = if u = t then some (upd f s t) else none := by rw [apStep, if_neg ha, hu]
        by_cases he : u = t
        · exact he
        · rw [h1, if_neg he] at h; cases h
      · by_cases hsa : s = a
        · subst hsa
          have h1 : apStep t f s = if u = t then some (upd f s t) else none := by rw [apStep, if_neg ha, hu]
          by_cases he : u = t
          · exact he
          · rw [h1, if_neg he] at h; cases h
        · cases h1 : apStep t f a with
          | none => rw [h1] at h; cases h
          | some f1 =>
            rw [h1] at h
            have h2 : f1 = upd f a t := by
              rw [apStep, if_neg ha] at h1
              cases hfa : f a with
              | none => rw [hfa] at h1; injection h1 with h1; exact h1.symm
              | some v =>
                rw [hfa] at h1
                simp only at h1
                split at h1
                · injection h1 with h1; exact h1.symm
                · cases h1
            refine apRun_cond t l f1 f' h s hs h0 u ?_
            rw [h2, upd, if_neg hsa]; exact hu
/-- The map of the steps tells whose they are. -/
def Rep (f : Int → Option Int) (p : List Cl) : Prop := ∀ s t, 0 ≤ s → (f s = some t ↔ ∃ y ∈ p, y.th = t ∧ s ∈ sts y)
theorem rep_nil : Rep (fun _ => none) [] := fun s t _ => by simp
theorem apaF_iff {f : Int → Option Int} {p : List Cl} (hr : Rep f p) (x : Cl) : apaF p x = true ↔ ∀ s ∈ sts x, 0 ≤ s → ∀ u, f s = some u → u = x.th := by
  unfold apaF
  rw [List.all_eq_true]
  constructor
  · intro h s hs h0 u hu
    obtain ⟨y, hy, h1, h2⟩ := (hr s u h0).1 hu
    have h3 := h y hy
    by_cases he : y.th = x.th
    · rw [← h1]; exact he
    · exfalso
      simp only [Bool.or_eq_true, beq_iff_eq, he, false_or, Bool.not_eq_true'] at h3
      have h4 : meetF y x = true := by
        unfold meetF
        rw [List.any_eq_true]
        refine ⟨s, (mem_stepsL y s).2 ⟨h2, h0⟩, ?_⟩
        rw [List.any_eq_true]
        exact ⟨s, (mem_stepsL x s).2 ⟨hs, h0⟩, by simp⟩
      rw [h4] at h3; cases h3
  · intro h y hy
    by_cases he : y.th = x.th
    · simp [he]
    · simp only [Bool.or_eq_true, beq_iff_eq, he, false_or, Bool.not_eq_true']
      cases hm : meetF y x with
      | false => rfl
      | true =>
        exfalso
        unfold meetF at hm
        rw [List.any_eq_true] at hm
        obtain ⟨s, hs, hm⟩ := hm
        rw [List.any_eq_true] at hm
        obtain ⟨s', hs', he'⟩ := hm
        obtain rfl : s = s' := by simpa using he'
        have h1 := (mem_stepsL y s).1 hs
        have h2 := (mem_stepsL x s).1 hs'
        exact he (h s h2.1 h2.2 y.th ((hr s y.th h1.2).2 ⟨y, hy, rfl, h1.1⟩))
theorem apRun_iff {f : Int → Option Int} {p : List Cl} (hr : Rep f p) (x : Cl) : (apRun x.th (sts x) f).isSome = apaF p x := by
  cases h : apRun x.th (sts x) f with
  | some f' => exact ((apaF_iff hr x).2 (apRun_cond _ _ _ _ h)).symm
  | none =>
    cases ha : apaF p x with
    | false => rfl
    | true =>
      rw [apRun_some _ _ _ ((apaF_iff hr x).1 ha)] at h
      cases h
theorem rep_step {f f' : Int → Option Int} {p : List Cl} (hr : Rep f p) {x : Cl} (h : apRun x.th (sts x) f = some f') : Rep f' (p ++ [x]) := by
  have hc := apRun_cond _ _ _ _ h
  rw [apRun_some _ _ _ hc] at h
  injection h with h
  subst h
  intro s t h0
  show (if s ∈ sts x ∧ 0 ≤ s then some x.th else f s) = some t ↔ _
  by_cases hs : s ∈ sts x
  · rw [if_pos ⟨hs, h0⟩]
    constructor
    · intro e; injection e with e; exact ⟨x, by simp, e, hs⟩
    · rintro ⟨y, hy, h1, h2⟩
      rcases List.mem_append.1 hy with hy | hy
      · have := hc s hs h0 t ((hr s t h0).2 ⟨y, hy, h1, h2⟩)
        rw [this]
      · simp at hy; rw [← h1, hy]
  · rw [if_neg (fun e => hs e.1), hr s t h0]
    constructor
    · rintro ⟨y, hy, h1, h2⟩; exact ⟨y, by simp [hy], h1, h2⟩
    · rintro ⟨y, hy, h1, h2⟩
      rcases List.mem_append.1 hy with hy | hy
      · exact ⟨y, hy, h1, h2⟩
      · simp at hy; rw [hy] at h2; exact absurd h2 hs
/-- A cell does not lie in a map. -/
theorem MapAt.ne {W : World} {mb n : Nat} {f : Int → Option Int} (h : MapAt W mb n f) {b i : Nat} {v : Value} (hc : W.cell? ⟨b, i, none⟩ = some v) : b ≠ mb := by
  rintro rfl
  obtain ⟨D, ⟨es, clock, hb, _⟩, _⟩ := h
  unfold World.cell? at hc
  rw [hb] at hc
  cases hc
instance {w d : World} {b o : Nat} {r : Option Nat} {c : Cl} [h : CallAt w b o c] [hr : Off b r] : CallAt (w.ext r d) b o c :=
  ⟨h.at_.same fun _ => World.cell?_of_block ((gext w r d).block b h.lt hr.ne), Nat.lt_of_lt_of_le h.lt (le_size _ _ _)⟩
theorem Cs.extr {w : World} {A : Option Addr} {n mb m : Nat} {l : List Cl} {f : Int → Option Int} (h : Cs w A n l) (hM : MapAt w mb m f) (d : World) : Cs (w.ext (some mb) d) A n l :=
  ⟨h.1, fun hn => by
    obtain ⟨b, o, rfl, hb, hc⟩ := h.2 hn
    refine ⟨b, o, rfl, Nat.lt_of_lt_of_le hb (le_size _ _ _), fun i c hi => (hc i c hi).same fun j => World.cell?_of_block ((gext w (some mb) d).block b hb ?_)⟩
    intro e; injection e with e
    exact hM.ne (hc i c hi).1 e⟩
end Go.Proofs.Ytjpgechcfkhoaaa
