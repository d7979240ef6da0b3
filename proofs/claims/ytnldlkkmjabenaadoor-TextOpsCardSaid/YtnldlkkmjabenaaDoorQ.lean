import Derived.Test.YtnldlkkmjabenaaDoorD
import Derived.Test.YtnldlkkmjabenaaDoorJ
namespace Go.Proofs.YtnldlkkmjabenaaDoor
open Go.RowKit Go.Xt
/-! Words between blanks, plain; the line of a result tells the result. -/
def wd : List UInt8 → List (List UInt8)
  | [] => [[]]
  | c :: r => if c = 32 then [] :: wd r else match wd r with
    | [] => [[c]]
    | h :: t => (c :: h) :: t
def nb (w : List UInt8) : Prop := ∀ c ∈ w, c ≠ 32
theorem wd_word : ∀ {w : List UInt8}, nb w → wd w = [w]
  | [], _ => rfl
  | c :: r, h => by
    rw [wd, if_neg (h c (by simp)), wd_word (w := r) fun d hd => h d (by simp [hd])]
theorem wd_app : ∀ {w : List UInt8} (r : List UInt8), nb w → wd (w ++ 32 :: r) = w :: wd r
  | [], r, _ => by rw [List.nil_append, wd, if_pos rfl]
  | c :: w, r, h => by
    rw [List.cons_append, wd, if_neg (h c (by simp)), wd_app (w := w) r fun d hd => h d (by simp [hd])]
def tl (T : List (List UInt8)) : List UInt8 := T.flatMap fun w => 32 :: w
theorem wd_tl : ∀ {T : List (List UInt8)} {w : List UInt8}, nb w → (∀ x ∈ T, nb x) → wd (w ++ tl T) = w :: T
  | [], w, h, _ => by rw [tl, List.flatMap_nil, List.append_nil, wd_word h]
  | x :: T, w, h, hT => by
    have e : w ++ tl (x :: T) = w ++ 32 :: (x ++ tl T) := by simp [tl]
    rw [e, wd_app _ h, wd_tl (hT x (by simp)) fun y hy => hT y (by simp [hy])]
theorem dec_nb (u : Nat) : nb (Lib.decDigits u) := by
  induction u using Nat.strongRecOn with
  | ind u ih =>
    have hd : ∀ d, d < 10 → UInt8.ofNat (48 + d) ≠ 32 := fun d hd e => by
      have := congrArg UInt8.toNat e
      rw [dig_nat hd] at this
      simp at this; omega
    intro c hc
    by_cases h : u < 10
    · rw [Lib.decDigits_one h, List.mem_singleton] at hc; subst hc; exact hd u h
    · rw [Lib.decDigits, dif_neg h] at hc
      rcases List.mem_append.1 hc with hc | hc
      · exact ih (u / 10) (by omega) c hc
      · rw [List.mem_singleton] at hc; subst hc; exact hd (u % 10) (by omega)
theorem dec_inj {u v : Nat} (hu : u < 18446744073709551616) (hv : v < 18446744073709551616) (h : Lib.decDigits u = Lib.decDigits v) : u = v := by
  have h1 := numB_dec hu
  rw [h, numB_dec hv] at h1
  injection h1 with h1; exact h1.symm
/-- A label and a number, unless it is 0. -/
def optW (L : List UInt8) (x : Int) : List (List UInt8) := if x = 0 then [] else [L, Lib.decDigits x.toNat]
def notHead (L : List UInt8) (X : List (List UInt8)) : Prop := ∀ h t, X = h :: t → h ≠ L
theorem opt_inj {L : List UInt8} {x y : Int} {X Y : List (List UInt8)} (hx : 0 ≤ x ∧ x < 18446744073709551616) (hy : 0 ≤ y ∧ y < 18446744073709551616) (hX : notHead L X) (hY : notHead L Y) (h : optW L x ++ X = optW L y ++ Y) : x = y ∧ X = Y := by
  unfold optW at h
  by_cases h1 : x = 0
  · rw [if_pos h1, List.nil_append] at h
    by_cases h2 : y = 0
    · rw [if_pos h2, List.nil_append] at h; exact ⟨by omega, h⟩
    · rw [if_neg h2] at h; exact absurd rfl (hX L _ h)
  · rw [if_neg h1] at h
    by_cases h2 : y = 0
    · rw [if_pos h2, List.nil_append] at h; exact absurd rfl (hY L _ h.symm)
    · rw [if_neg h2] at h
      simp only [List.cons_append, List.nil_append, List.cons.injEq, true_and] at h
      have := dec_inj (by omega) (by omega) h.1
      exact ⟨by omega, h.2⟩
theorem opt_head {L M : List UInt8} {x : Int} {X : List (List UInt8)} (h : M ≠ L) (hX : notHead L X) : notHead L (optW M x ++ X) := by
  intro a t e
  unfold optW at e
  by_cases h1 : x = 0
  · rw [if_pos h1, List.nil_append] at e; exact hX a t e
  · rw [if_neg h1] at e
    simp only [List.cons_append, List.cons.injEq] at e
    rw [← e.1]; exact h
theorem nil_head (L : List UInt8) : notHead L [] := fun a t e => by cases e
abbrev wOk : List UInt8 := [111, 107]
abbrev wErr : List UInt8 := [101, 114, 114, 111, 114]
abbrev wFound : List UInt8 := [102, 111, 117, 110, 100]
abbrev wKey : List UInt8 := [107, 101, 121]
abbrev wValue : List UInt8 := [118, 97, 108, 117, 101]
abbrev wCount : List UInt8 := [99, 111, 117, 110, 116]
/-- The words of a result's line behind the first. -/
def resT (e : Int) (f : Bool) (k v c : Int) : List (List UInt8) :=
  (if e = 0 then [] else [Lib.decDigits e.toNat]) ++ ((if f then [wFound] else []) ++ (optW wKey k ++ (optW wValue v ++ (optW wCount c ++ []))))
theorem part_L (lbl : List UInt8) (x : Int) (s : ByteArray) (p : List UInt8) (hp : lbl = 32 :: p) : (part ⟨lbl.toArray⟩ x s).data.toList = s.data.toList ++ tl (optW p x) := by
  subst hp
  unfold part optW
  by_cases h : x = 0
  · rw [if_pos h, if_pos h]; simp [tl]
  · rw [if_neg h, if_neg h]
    simp [jnB, jn, tl]
theorem res_L (e : Int) (f : Bool) (k v c : Int) : (resB e f k v c).data.toList = (if e = 0 then wOk else wErr) ++ tl (resT e f k v c) := by
  unfold resB
  simp only []
  rw [show (⟨#[32, 99, 111, 117, 110, 116]⟩ : ByteArray) = ⟨([32, 99, 111, 117, 110, 116] : List UInt8).toArray⟩ from rfl, part_L _ _ _ wCount rfl,
    show (⟨#[32, 118, 97, 108, 117, 101]⟩ : ByteArray) = ⟨([32, 118, 97, 108, 117, 101] : List UInt8).toArray⟩ from rfl, part_L _ _ _ wValue rfl,
    show (⟨#[32, 107, 101, 121]⟩ : ByteArray) = ⟨([32, 107, 101, 121] : List UInt8).toArray⟩ from rfl, part_L _ _ _ wKey rfl]
  unfold resT
  simp only [tl, List.flatMap_append, List.append_nil]
  by_cases he : e = 0 <;> cases f <;> simp [he, jnB, jn]
theorem resT_nb (e : Int) (f : Bool) (k v c : Int) : ∀ x ∈ resT e f k v c, nb x := by
  have ho : ∀ (L : List UInt8) (x : Int), nb L → ∀ y ∈ optW L x, nb y := fun L x hL y hy => by
    unfold optW at hy
    split at hy
    · simp at hy
    · simp at hy
      rcases hy with rfl | rfl
      · exact hL
      · exact dec_nb _
  have hl : nb wFound ∧ nb wKey ∧ nb wValue ∧ nb wCount := ⟨by intro c hc; revert c; decide, by intro c hc; revert c; decide, by intro c hc; revert c; decide, by intro c hc; revert c; decide⟩
  intro x hx
  unfold resT at hx
  rcases List.mem_append.1 hx with hx | hx
  · split at hx
    · simp at hx
    · simp at hx; subst hx; exact dec_nb _
  · rcases List.mem_append.1 hx with hx | hx
    · split at hx
      · simp at hx; subst hx; exact hl.1
      · simp at hx
    · rcases List.mem_append.1 hx with hx | hx
      · exact ho _ _ hl.2.1 x hx
      · rcases List.mem_append.1 hx with hx | hx
        · exact ho _ _ hl.2.2.1 x hx
        · rw [List.append_nil] at hx; exact ho _ _ hl.2.2.2 x hx
/-- A result. -/
structure Rs where
  (e : Int) (f : Bool) (k v c : Int)
deriving DecidableEq
structure WfR (x : Rs) : Prop where
  e : 0 ≤ x.e ∧ x.e ≤ 23
  k : 0 ≤ x.k ∧ x.k < 18446744073709551616
  v : 0 ≤ x.v ∧ x.v < 18446744073709551616
  c : 0 ≤ x.c ∧ x.c ≤ 9223372036854775807
def lineR (x : Rs) : ByteArray := resB x.e x.f x.k x.v x.c
/-- Different results have different lines. -/
theorem lineR_inj {x y : Rs} (hx : WfR x) (hy : WfR y) (h : lineR x = lineR y) : x = y := by
  have h1 := congrArg (fun b : ByteArray => wd b.data.toList) h
  simp only [lineR, res_L] at h1
  have nbw : ∀ e : Int, nb (if e = 0 then wOk else wErr) := fun e => by
    split
    · intro c hc; revert c; decide
    · intro c hc; revert c; decide
  rw [wd_tl (nbw _) (resT_nb _ _ _ _ _), wd_tl (nbw _) (resT_nb _ _ _ _ _)] at h1
  injection h1 with h1 h2
  unfold resT at h2
  have hhd : ∀ (z : Rs), notHead wFound (optW wKey z.k ++ (optW wValue z.v ++ (optW wCount z.c ++ []))) := fun z => opt_head (by decide) (opt_head (by decide) (opt_head (by decide) (nil_head _)))
  have key : ∀ (A B : List (List UInt8)), A ++ ((if x.f then [wFound] else []) ++ (optW wKey x.k ++ (optW wValue x.v ++ (optW wCount x.c ++ [])))) = A ++ ((if y.f then [wFound] else []) ++ (optW wKey y.k ++ (optW wValue y.v ++ (optW wCount y.c ++ [])))) → x.f = y.f ∧ x.k = y.k ∧ x.v = y.v ∧ x.c = y.c := fun A _ h3 => by
    have h3 := List.append_cancel_left h3
    have h4 : x.f = y.f ∧ (optW wKey x.k ++ (optW wValue x.v ++ (optW wCount x.c ++ []))) = (optW wKey y.k ++ (optW wValue y.v ++ (optW wCount y.c ++ []))) := by
      cases hxf : x.f <;> cases hyf : y.f <;> rw [hxf, hyf] at h3 <;> simp only [if_true, if_false, List.nil_append, Bool.false_eq_true, List.cons_append, List.cons.injEq, true_and] at h3
      · exact ⟨rfl, h3⟩
      · exact absurd rfl (hhd x _ _ h3)
      · exact absurd rfl (hhd y _ _ h3.symm)
      · exact ⟨rfl, h3⟩
    obtain ⟨h5, h6⟩ := h4
    obtain ⟨h7, h8⟩ := opt_inj hx.k hy.k (opt_head (by decide) (opt_head (by decide) (nil_head _))) (opt_head (by decide) (opt_head (by decide) (nil_head _))) h6
    obtain ⟨h9, h10⟩ := opt_inj hx.v hy.v (opt_head (by decide) (nil_head _)) (opt_head (by decide) (nil_head _)) h8
    obtain ⟨h11, _⟩ := opt_inj (by have := hx.c; omega) (by have := hy.c; omega) (nil_head _) (nil_head _) h10
    exact ⟨h5, h7, h9, h11⟩
  have he : x.e = y.e ∧ x.f = y.f ∧ x.k = y.k ∧ x.v = y.v ∧ x.c = y.c := by
    have hxe := hx.e
    have hye := hy.e
    by_cases e1 : x.e = 0 <;> by_cases e2 : y.e = 0
    · rw [if_pos e1, if_pos e2] at h2
      exact ⟨by omega, key [] [] h2⟩
    · rw [if_pos e1, if_neg e2] at h1; exact absurd h1 (by decide)
    · rw [if_neg e1, if_pos e2] at h1; exact absurd h1 (by decide)
    · rw [if_neg e1, if_neg e2] at h2
      simp only [List.cons_append, List.nil_append, List.cons.injEq] at h2
      have := dec_inj (by omega) (by omega) h2.1
      exact ⟨by omega, key [] [] h2.2⟩
  cases x; cases y
  simp at he
  simp [he]
end Go.Proofs.YtnldlkkmjabenaaDoor
