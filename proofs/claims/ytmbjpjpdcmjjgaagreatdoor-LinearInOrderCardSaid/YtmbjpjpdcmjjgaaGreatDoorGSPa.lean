import Derived.Sort.LotA
import Derived.Sort.LotD2
import Derived.Test.YtmbjpjpdcmjjgaaGreatDoorGOa
import Derived.BigRegion
import Derived.Deep.DeepCutAuto
set_option linter.unusedVariables false
set_option linter.unusedSimpArgs false
set_option linter.unnecessarySimpa false
namespace Go.Proofs.YtmbjpjpdcmjjgaaGreatDoor
open Go Go.Sort
/-! The stable sort's merge, plain: exchanging two ranges, rotating, cutting two ascending runs. -/
variable {α : Type} {lt : α → α → Bool}
structure Ex2 (f g : Nat → α) (p q n : Nat) : Prop where
  one : ∀ t, t < n → g (p + t) = f (q + t)
  two : ∀ t, t < n → g (q + t) = f (p + t)
  els : ∀ k, (k < p ∨ p + n ≤ k) → (k < q ∨ q + n ≤ k) → g k = f k
structure Rot (f g : Nat → α) (a m b : Nat) : Prop where
  one : ∀ k, a ≤ k → k < a + (b - m) → g k = f (k + (m - a))
  two : ∀ k, a + (b - m) ≤ k → k < b → g k = f (k - (b - m))
  els : ∀ k, k < a ∨ b ≤ k → g k = f k
theorem Ex2.zero (f : Nat → α) (p q : Nat) : Ex2 f f p q 0 := ⟨fun t h => by omega, fun t h => by omega, fun _ _ _ => rfl⟩
theorem rot_one {f e g : Nat → α} {m i j : Nat} (hj : 0 < j) (hij : j < i) (him : i ≤ m) (hs : Ex2 f e (m - i) m j) (hr : Rot e g (m - (i - j)) m (m + j)) : Rot f g (m - i) m (m + j) := by
  refine ⟨fun k h1 h2 => ?_, fun k h1 h2 => ?_, fun k h => ?_⟩
  · rw [hr.els k (by omega)]
    have := hs.one (k - (m - i)) (by omega)
    rw [show m - i + (k - (m - i)) = k by omega] at this
    rw [this]; congr 1; omega
  · by_cases h3 : k < m - (i - j) + (m + j - m)
    · rw [hr.one k (by omega) h3]
      have := hs.two (k + (m - (m - (i - j))) - m) (by omega)
      rw [show m + (k + (m - (m - (i - j))) - m) = k + (m - (m - (i - j))) by omega] at this
      rw [this]; congr 1; omega
    · rw [hr.two k (by omega) h2, hs.els _ (by omega) (by omega)]
  · rw [hr.els k (by omega), hs.els k (by omega) (by omega)]
theorem rot_two {f e g : Nat → α} {m i j : Nat} (hi : 0 < i) (hij : i < j) (him : i ≤ m) (hs : Ex2 f e (m - i) (m + j - i) i) (hr : Rot e g (m - i) m (m + (j - i))) : Rot f g (m - i) m (m + j) := by
  refine ⟨fun k h1 h2 => ?_, fun k h1 h2 => ?_, fun k h => ?_⟩
  · by_cases h3 : k < m - i + (m + (j - i) - m)
    · rw [hr.one k h1 h3, hs.els _ (by omega) (by omega)]
    · rw [hr.two k (by omega) (by omega)]
      have := hs.one (k - (m + (j - i) - m) - (m - i)) (by omega)
      rw [show m - i + (k - (m + (j - i) - m) - (m - i)) = k - (m + (j - i) - m) by omega] at this
      rw [this]; congr 1; omega
  · rw [hr.els k (by omega)]
    have := hs.two (k - (m + j - i)) (by omega)
    rw [show m + j - i + (k - (m + j - i)) = k by omega] at this
    rw [this]; congr 1; omega
  · rw [hr.els k (by omega), hs.els k (by omega) (by omega)]
theorem rot_end {f e : Nat → α} {m i : Nat} (him : i ≤ m) (hs : Ex2 f e (m - i) m i) : Rot f e (m - i) m (m + i) := by
  refine ⟨fun k h1 h2 => ?_, fun k h1 h2 => ?_, fun k h => ?_⟩
  · have := hs.one (k - (m - i)) (by omega)
    rw [show m - i + (k - (m - i)) = k by omega] at this
    rw [this]; congr 1; omega
  · have := hs.two (k - m) (by omega)
    rw [show m + (k - m) = k by omega] at this
    rw [this]; congr 1; omega
  · exact hs.els k (by omega) (by omega)
theorem Ex2.next {f g h : Nat → α} {p q n : Nat} (hf : Ex2 f g p q n) (hg : Ex2 g h (p + n) (q + n) 1) (hd : p + n + 1 ≤ q ∨ q + n + 1 ≤ p) : Ex2 f h p q (n + 1) := by
  refine ⟨fun t ht => ?_, fun t ht => ?_, fun k h1 h2 => ?_⟩
  · by_cases h : t < n
    · rw [hg.els _ (by omega) (by omega), hf.one t h]
    · obtain rfl : t = n := by omega
      have := hg.one 0 (by omega)
      rw [Nat.add_zero, Nat.add_zero] at this
      rw [this, hf.els _ (by omega) (by omega)]
  · by_cases h : t < n
    · rw [hg.els _ (by omega) (by omega), hf.two t h]
    · obtain rfl : t = n := by omega
      have := hg.two 0 (by omega)
      rw [Nat.add_zero, Nat.add_zero] at this
      rw [this, hf.els _ (by omega) (by omega)]
  · rw [hg.els _ (by omega) (by omega), hf.els _ (by omega) (by omega)]
theorem rot_up {f g h : Nat → α} {a k : Nat} (hak : a ≤ k) (hr : Rot f g a (a + 1) (k + 1)) (hx : Ex2 g h k (k + 1) 1) : Rot f h a (a + 1) (k + 1 + 1) := by
  have x1 := hx.one 0 (by omega)
  have x2 := hx.two 0 (by omega)
  simp only [Nat.add_zero] at x1 x2
  refine ⟨fun t h1 h2 => ?_, fun t h1 h2 => ?_, fun t h => ?_⟩
  · by_cases e : t = k
    · subst e; rw [x1, hr.els _ (by omega)]; congr 1; omega
    · rw [hx.els t (by omega) (by omega), hr.one t h1 (by omega)]
  · obtain rfl : t = k + 1 := by omega
    rw [x2, hr.two k (by omega) (by omega)]; congr 1; omega
  · rw [hx.els t (by omega) (by omega), hr.els t (by omega)]
theorem rot_down {f g h : Nat → α} {m k : Nat} (hkm : k + 1 ≤ m) (hr : Rot f g (k + 1) m (m + 1)) (hx : Ex2 g h (k + 1) k 1) : Rot f h k m (m + 1) := by
  have x1 := hx.one 0 (by omega)
  have x2 := hx.two 0 (by omega)
  simp only [Nat.add_zero] at x1 x2
  refine ⟨fun t h1 h2 => ?_, fun t h1 h2 => ?_, fun t h => ?_⟩
  · obtain rfl : t = k := by omega
    rw [x2, hr.one (t + 1) (by omega) (by omega)]; congr 1; omega
  · by_cases e : t = k + 1
    · subst e; rw [x1, hr.els k (by omega)]; congr 1; omega
    · rw [hx.els t (by omega) (by omega), hr.two t (by omega) h2]
  · rw [hx.els t (by omega) (by omega), hr.els t (by omega)]
theorem Rot.none (f : Nat → α) (a b : Nat) (h : a ≤ b) : Rot f f a b b := ⟨fun k h1 h2 => by omega, fun k h1 h2 => by rw [Nat.sub_self, Nat.sub_zero], fun _ _ => rfl⟩
theorem Rot.same (f : Nat → α) (m b : Nat) : Rot f f m m b := ⟨fun k h1 h2 => by rw [Nat.sub_self, Nat.add_zero], fun k h1 h2 => by omega, fun _ _ => rfl⟩
def Asc (lt : α → α → Bool) (f : Nat → α) (a b : Nat) : Prop := ∀ i j, a ≤ i → i < j → j < b → lt (f j) (f i) = false
theorem Asc.sub {f : Nat → α} {a b a' b' : Nat} (h : Asc lt f a b) (ha : a ≤ a') (hb : b' ≤ b) : Asc lt f a' b' := fun i j h1 h2 h3 => h i j (by omega) h2 (by omega)
theorem Asc.le (hS : SWO lt) {f : Nat → α} {a b i j : Nat} (h : Asc lt f a b) (h1 : a ≤ i) (h2 : i ≤ j) (h3 : j < b) : lt (f j) (f i) = false := by
  rcases Nat.lt_or_eq_of_le h2 with e | rfl
  · exact h i j h1 e h3
  · exact hS.irrefl _
def Crs (lt : α → α → Bool) (f : Nat → α) (a b c d : Nat) : Prop := ∀ i j, a ≤ i → i < b → c ≤ j → j < d → lt (f j) (f i) = false
theorem asc_glue {f : Nat → α} {a m b : Nat} (h1 : Asc lt f a m) (h2 : Asc lt f m b) (h3 : Crs lt f a m m b) : Asc lt f a b := fun i j hi hij hj => by
  by_cases e : j < m
  · exact h1 i j hi hij e
  · by_cases e2 : i < m
    · exact h3 i j hi e2 (by omega) hj
    · exact h2 i j (by omega) hij hj
theorem asc_first (hS : SWO lt) {f g : Nat → α} {a b i : Nat} (h : Asc lt f (a + 1) b) (hi : a + 1 ≤ i ∧ i ≤ b) (b1 : i = a + 1 ∨ lt (f (i - 1)) (f a) = true) (b2 : i = b ∨ lt (f i) (f a) = false) (hr : Rot f g a (a + 1) i) : Asc lt g a b := by
  have lo : ∀ k, a + 1 ≤ k → k < i → lt (f a) (f k) = false := fun k h1 h2 => by
    rcases b1 with e | e
    · omega
    · have := h.le hS (i := k) (j := i - 1) h1 (by omega) (by omega)
      exact hS.ntrans _ _ _ (hS.asymmA e) this
  have hi2 : ∀ k, i ≤ k → k < b → lt (f k) (f a) = false := fun k h1 h2 => by
    rcases b2 with e | e
    · omega
    · exact hS.ntrans _ _ _ (h.le hS (i := i) (j := k) (by omega) h1 h2) e
  have g1 : ∀ k, a ≤ k → k < i - 1 → g k = f (k + 1) := fun k h1 h2 => by rw [hr.one k h1 (by omega)]; congr 1; omega
  have g2 : g (i - 1) = f a := by rw [hr.two (i - 1) (by omega) (by omega)]; congr 1; omega
  have g3 : ∀ k, i ≤ k → g k = f k := fun k h => hr.els k (.inr h)
  intro p q h1 h2 h3
  by_cases p1 : p < i - 1
  · rw [g1 p h1 p1]
    by_cases q1 : q < i - 1
    · rw [g1 q (by omega) q1]; exact h _ _ (by omega) (by omega) (by omega)
    · by_cases q2 : q = i - 1
      · subst q2; rw [g2]; exact lo _ (by omega) (by omega)
      · rw [g3 q (by omega)]; exact h _ _ (by omega) (by omega) h3
  · by_cases p2 : p = i - 1
    · subst p2; rw [g2, g3 q (by omega)]; exact hi2 q (by omega) h3
    · rw [g3 p (by omega), g3 q (by omega)]; exact h _ _ (by omega) h2 h3
theorem asc_last (hS : SWO lt) {f g : Nat → α} {a m i : Nat} (h : Asc lt f a m) (hi : a ≤ i ∧ i ≤ m) (b1 : i = a ∨ lt (f m) (f (i - 1)) = false) (b2 : i = m ∨ lt (f m) (f i) = true) (hr : Rot f g i m (m + 1)) : Asc lt g a (m + 1) := by
  have lo : ∀ k, a ≤ k → k < i → lt (f m) (f k) = false := fun k h1 h2 => by
    rcases b1 with e | e
    · omega
    · exact hS.ntrans _ _ _ e (h.le hS (i := k) (j := i - 1) h1 (by omega) (by omega))
  have hi2 : ∀ k, i ≤ k → k < m → lt (f k) (f m) = false := fun k h1 h2 => by
    rcases b2 with e | e
    · omega
    · exact hS.ntrans _ _ _ (h.le hS (i := i) (j := k) (by omega) h1 h2) (hS.asymmA e)
  have g1 : g i = f m := by rw [hr.one i (by omega) (by omega)]; congr 1; omega
  have g2 : ∀ k, i + 1 ≤ k → k < m + 1 → g k = f (k - 1) := fun k h1 h2 => by rw [hr.two k (by omega) h2]; congr 1; omega
  have g3 : ∀ k, k < i → g k = f k := fun k h => hr.els k (.inl h)
  intro p q h1 h2 h3
  by_cases p1 : p < i
  · rw [g3 p p1]
    by_cases q1 : q < i
    · rw [g3 q q1]; exact h _ _ h1 h2 (by omega)
    · by_cases q2 : q = i
      · subst q2; rw [g1]; exact lo p h1 p1
      · rw [g2 q (by omega) h3]; exact h _ _ h1 (by omega) (by omega)
  · by_cases p2 : p = i
    · subst p2; rw [g1, g2 q (by omega) h3]; exact hi2 _ (by omega) (by omega)
    · rw [g2 p (by omega) (by omega), g2 q (by omega) h3]; exact h _ _ (by omega) (by omega) (by omega)
structure Cut (lt : α → α → Bool) (f : Nat → α) (a m b mid st : Nat) : Prop where
  lo : a ≤ st
  le : st ≤ mid
  sm : st ≤ m
  en : m ≤ mid + m - st
  eb : mid + m - st ≤ b
  me : mid ≤ mid + m - st
  b1 : st = a ∨ mid + m - st = b ∨ lt (f (mid + m - st)) (f (st - 1)) = false
  b2 : mid + m - st = m ∨ st = m ∨ lt (f (mid + m - st - 1)) (f st) = true
theorem cut_rot (hS : SWO lt) {f g : Nat → α} {a m b mid st : Nat} (h1 : Asc lt f a m) (h2 : Asc lt f m b) (hc : Cut lt f a m b mid st) (hr : Rot f g st m (mid + m - st)) :
    Asc lt g a st ∧ Asc lt g st mid ∧ Asc lt g mid (mid + m - st) ∧ Asc lt g (mid + m - st) b ∧ Crs lt g a mid mid b := by
  obtain ⟨lo, le, sm, en, eb, me, b1, b2⟩ := hc
  obtain ⟨E, hE⟩ : ∃ E, E = mid + m - st := ⟨_, rfl⟩
  rw [← hE] at en eb me b1 b2 hr ⊢
  have e1 : st + (E - m) = mid := by omega
  have g1 : ∀ k, k < st → g k = f k := fun k h => hr.els k (.inl h)
  have g2 : ∀ k, st ≤ k → k < mid → g k = f (k + (m - st)) := fun k h h' => hr.one k h (by omega)
  have g3 : ∀ k, mid ≤ k → k < E → g k = f (k - (E - m)) := fun k h h' => hr.two k (by omega) h'
  have g4 : ∀ k, E ≤ k → g k = f k := fun k h => hr.els k (.inr h)
  -- what lies before the cut of the left run is not above what lies behind the cut of the right run
  have x1 : ∀ i j, a ≤ i → i < st → E ≤ j → j < b → lt (f j) (f i) = false := fun i j q1 q2 q3 q4 => by
    rcases b1 with e | e | e
    · omega
    · omega
    · exact hS.ntrans _ _ _ (h2.le hS (i := E) (j := j) (by omega) q3 q4) (hS.ntrans _ _ _ e (h1.le hS (i := i) (j := st - 1) q1 (by omega) (by omega)))
  -- what is carried to the left is not above what is carried to the right
  have x2 : ∀ i j, m ≤ i → i < E → st ≤ j → j < m → lt (f j) (f i) = false := fun i j q1 q2 q3 q4 => by
    rcases b2 with e | e | e
    · omega
    · omega
    · exact hS.ntrans _ _ _ (h1.le hS (i := st) (j := j) lo q3 q4) (hS.ntrans _ _ _ (hS.asymmA e) (h2.le hS (i := i) (j := E - 1) q1 (by omega) (by omega)))
  refine ⟨fun i j q1 q2 q3 => ?_, fun i j q1 q2 q3 => ?_, fun i j q1 q2 q3 => ?_, fun i j q1 q2 q3 => ?_, fun i j q1 q2 q3 q4 => ?_⟩
  · rw [g1 i (by omega), g1 j q3]; exact h1 i j q1 q2 (by omega)
  · rw [g2 i q1 (by omega), g2 j (by omega) q3]; exact h2 _ _ (by omega) (by omega) (by omega)
  · rw [g3 i q1 (by omega), g3 j (by omega) q3]; exact h1 _ _ (by omega) (by omega) (by omega)
  · rw [g4 i q1, g4 j (by omega)]; exact h2 i j (by omega) q2 q3
  · by_cases i1 : i < st
    · rw [g1 i i1]
      by_cases j1 : j < E
      · rw [g3 j q3 j1]; exact h1 _ _ q1 (by omega) (by omega)
      · rw [g4 j (by omega)]; exact x1 i j q1 i1 (by omega) q4
    · rw [g2 i (by omega) q2]
      by_cases j1 : j < E
      · rw [g3 j q3 j1]; exact x2 _ _ (by omega) (by omega) (by omega) (by omega)
      · rw [g4 j (by omega)]; exact h2 _ _ (by omega) (by omega) q4
theorem asc_congr {f g : Nat → α} {a b : Nat} (h : Asc lt f a b) (e : ∀ k, a ≤ k → k < b → g k = f k) : Asc lt g a b := fun i j q1 q2 q3 => by
  rw [e i q1 (by omega), e j (by omega) q3]; exact h i j q1 q2 q3
section
variable [Inhabited α]
abbrev atA (d : Array α) : Nat → α := fun k => d[k]!
theorem swp_ex (d : Array α) {i j : Nat} (hi : i < d.size) (hj : j < d.size) (hij : i ≠ j) : Ex2 (atA d) (atA (swp d i j)) i j 1 := by
  refine ⟨fun t h => ?_, fun t h => ?_, fun k h1 h2 => ?_⟩
  · obtain rfl : t = 0 := by omega
    show (swp d i j)[i + 0]! = d[j + 0]!
    rw [Nat.add_zero, Nat.add_zero, swp_get d hi hj]
    rw [if_neg hij]
    simp
  · obtain rfl : t = 0 := by omega
    show (swp d i j)[j + 0]! = d[i + 0]!
    rw [Nat.add_zero, Nat.add_zero, swp_get d hi hj]
    simp
  · show (swp d i j)[k]! = d[k]!
    rw [swp_get d hi hj]
    rw [if_neg (by omega), if_neg (by omega)]
theorem crs_perm {d d1 d2 : Array α} {a mid b : Nat} (hm : a ≤ mid ∧ mid ≤ b) (hb : b ≤ d.size) (h : Crs lt (atA d) a mid mid b) (p1 : PermIn a mid d d1) (p2 : PermIn mid b d1 d2) : Crs lt (atA d2) a mid mid b := by
  have h1 : ∀ i, a ≤ i → i < mid → ∀ j, mid ≤ j → j < b → lt d[j]! d1[i]! = false :=
    permIn_all d d1 a mid (fun x => ∀ j, mid ≤ j → j < b → lt d[j]! x = false) (by omega) p1 (fun i q1 q2 j q3 q4 => h i j q1 q2 q3 q4)
  have hsz : d1.size = d.size := p1.1
  have h2 : ∀ j, mid ≤ j → j < b → ∀ i, a ≤ i → i < mid → lt d2[j]! d1[i]! = false :=
    permIn_all d1 d2 mid b (fun x => ∀ i, a ≤ i → i < mid → lt x d1[i]! = false) (by omega) p2 (fun j q1 q2 i q3 q4 => by rw [p1.2.1 j (.inr q1)]; exact h1 i q3 q4 j q1 q2)
  intro i j q1 q2 q3 q4
  show lt d2[j]! d2[i]! = false
  rw [p2.2.1 i (.inl q2)]
  exact h2 j q3 q4 i q1 q2
end
end Go.Proofs.YtmbjpjpdcmjjgaaGreatDoor
namespace Go.Proofs.YtmbjpjpdcmjjgaaGreatDoor
open Go.RowKit Go.Xt Go.Shelf Go.Sort
/-! swapRangeCmpFunc and rotateCmpFunc, at a row of ints. -/
abbrev iv {α : Type} (val : α → Int) : α → Value := fun x => .int .i64 (val x)
def ExP {α : Type} [Inhabited α] (val : α → Int) (w0 : World) (blk off n lo hi : Nat) (d : Array α) (P : (Nat → α) → Prop) (w' : World) : Prop :=
  ∃ d' : Array α, d'.size = n ∧ PermIn lo hi d d' ∧ P (atA d') ∧ SW (iv val) w0 blk off d' w'
set_option maxRecDepth 20000 in
set_option maxHeartbeats 4000000 in
theorem swapR_any {α : Type} [Inhabited α] (val : α → Int) (g : Nat) (cb : Array Value) (blk off cap n : Nat) (d0 : Array α) (w0 : World) (R : Row1 (iv val) w0 blk off d0) (hn0 : d0.size = n) (hn : n ≤ 1000000)
    (a b k lo hi : Nat) (d : Array α) (w : World) (hd : d.size = n) (S : SW (iv val) w0 blk off d w) (hab : a + k ≤ b ∨ b + k ≤ a) (hlo : lo ≤ a ∧ lo ≤ b) (hhi : a + k ≤ hi ∧ b + k ≤ hi ∧ hi ≤ n) :
    Calls Tryz.prog 120 #[.slice (some ⟨blk, off, none⟩) n cap, .int .i64 a, .int .i64 b, .int .i64 k, .func (.func g) #[] cb] w fun e w' => e = .returned (.tuple #[]) ∧ ExP val w0 blk off n lo hi d (fun f => Ex2 (atA d) f a b k) w' := by
  have RR := Lib.hid R
  have HS0 := Lib.hid (And.intro hd S)
  have HN := Lib.hid (And.intro hn0 hn)
  have HAB := Lib.hid (And.intro hab (And.intro hlo hhi))
  clear R S hd hn0 hn hab hlo hhi
  have mixed : Tryz.prog.follows .mixedOrders = true := sortL.mixed
  go_enter Tryz.func120, Tryz.ntmps120
  go_wp2_with fail
  go_loopw [10] (fun x wr => ∃ i : Nat, i ≤ k ∧ x = .int .i64 i ∧ Hid (∃ dk : Array α, dk.size = n ∧ PermIn lo hi d dk ∧ Ex2 (atA d) (atA dk) a b i ∧ SW (iv val) w0 blk off dk wr)) (fun x _ => k - (intOf x).toNat)
  case atStart => exact ⟨0, Nat.zero_le _, rfl, Lib.hid ⟨d, HS0.out.1, permIn_refl _ _ _, Ex2.zero _ _ _, HS0.out.2⟩⟩
  case round =>
    obtain ⟨i, hik, rfl, hst⟩ := hrel
    by_cases hlt : i < k
    · obtain ⟨dk, hsz, hp, hx, hs⟩ := hst.out
      have hb := HAB.out
      have hnn := HN.out
      obtain ⟨p, hp'⟩ : ∃ p, p = a + i := ⟨_, rfl⟩
      obtain ⟨q, hq'⟩ : ∃ q, q = b + i := ⟨_, rfl⟩
      have i1 : (i : Int) < (k : Int) := by omega
      have r1 : IntKind.i64.wrap ((a : Int) + (i : Int)) = (p : Int) := by rw [IntKind.wrap_i64] <;> omega
      have r2 : IntKind.i64.wrap ((b : Int) + (i : Int)) = (q : Int) := by rw [IntKind.wrap_i64] <;> omega
      have p1 : (0 : Int) ≤ (p : Int) := by omega
      have p2 : (p : Int) < (n : Int) := by omega
      have q1 : (0 : Int) ≤ (q : Int) := by omega
      have q2 : (q : Int) < (n : Int) := by omega
      have i3 : i < 1000000 := by omega
      obtain ⟨x, hx1⟩ : ∃ x, x = val dk[p]! := ⟨_, rfl⟩
      obtain ⟨y, hy1⟩ : ∃ y, y = val dk[q]! := ⟨_, rfl⟩
      have c1 : wr.cell? ⟨blk, off + p, none⟩ = some (.int .i64 x) := by rw [hx1]; exact hs.c1 RR.out (by omega) p (by omega)
      have c2 : wr.cell? ⟨blk, off + q, none⟩ = some (.int .i64 y) := by rw [hy1]; exact hs.c1 RR.out (by omega) q (by omega)
      have f1 := hs.f1 RR.out (by omega) p (by omega)
      have f2 := hs.f1 RR.out (by omega) q (by omega)
      obtain ⟨u, c3⟩ := hs.c2 RR.out (by omega) p q (by omega) (by omega) (.int .i64 y)
      have S2 : SW (iv val) w0 blk off (swp dk p q) ((wr.setCell ⟨blk, off + p, none⟩ (.int .i64 y)).setCell ⟨blk, off + q, none⟩ (.int .i64 x)).drew := by rw [hx1, hy1]; exact hs.swapped RR.out p q (by omega) (by omega)
      have hfin : ∃ dk2 : Array α, dk2.size = n ∧ PermIn lo hi d dk2 ∧ Ex2 (atA d) (atA dk2) a b (i + 1) ∧ SW (iv val) w0 blk off dk2 ((wr.setCell ⟨blk, off + p, none⟩ (.int .i64 y)).setCell ⟨blk, off + q, none⟩ (.int .i64 x)).drew := by
        refine ⟨swp dk p q, by rw [size_swp]; exact hsz, permIn_trans _ _ _ _ _ hp (swp_permIn dk lo hi p q (by omega) (by omega) (by omega) (by omega) (by omega)), ?_, S2⟩
        have h1 := swp_ex dk (i := p) (j := q) (by omega) (by omega) (by omega)
        rw [hp', hq'] at h1
        rw [hp', hq']
        exact hx.next h1 (by omega)
      have HFIN := Lib.hid hfin
      clear hst hsz hp hx hs hb hnn hp' hq' hx1 hy1 S2 hfin
      go_wp2_with fail
      go_big_region_o
      clear c1 c2 c3 f1 f2
      obtain ⟨W2, hW2⟩ : ∃ W, W = ((wr.setCell ⟨blk, off + p, none⟩ (.int .i64 y)).setCell ⟨blk, off + q, none⟩ (.int .i64 x)).drew := ⟨_, rfl⟩
      rw [← hW2] at HFIN ⊢
      clear hW2 r1 r2 p1 p2 q1 q2
      go_wp2
      exact ⟨⟨i + 1, by omega, by go_num, HFIN⟩, by simp [intOf]; omega⟩
    · obtain rfl : i = k := by omega
      have i1 : ¬ (i : Int) < (i : Int) := by omega
      have HST := Lib.hid hst.out
      clear hst
      go_wp2
      go_end0
      exact ⟨rfl, HST.out⟩
set_option maxRecDepth 20000 in
set_option maxHeartbeats 4000000 in
theorem rotate_any {α : Type} [Inhabited α] (val : α → Int) (g : Nat) (cb : Array Value) (blk off cap n : Nat) (d0 : Array α) (w0 : World) (R : Row1 (iv val) w0 blk off d0) (hn0 : d0.size = n) (hn : n ≤ 1000000)
    (a m b : Nat) (d : Array α) (w : World) (hd : d.size = n) (S : SW (iv val) w0 blk off d w) (ham : a < m) (hmb : m < b) (hbn : b ≤ n) :
    Calls Tryz.prog 88 #[.slice (some ⟨blk, off, none⟩) n cap, .int .i64 a, .int .i64 m, .int .i64 b, .func (.func g) #[] cb] w fun e w' => e = .returned (.tuple #[]) ∧ ExP val w0 blk off n a b d (fun f => Rot (atA d) f a m b) w' := by
  have HX := Lib.hid (fun (p q k : Nat) (e : Array α) (W : World) (he : e.size = n) (hs : SW (iv val) w0 blk off e W) (h1 : p + k ≤ q ∨ q + k ≤ p) (h2 : a ≤ p ∧ a ≤ q) (h3 : p + k ≤ b ∧ q + k ≤ b ∧ b ≤ n) => swapR_any val g cb blk off cap n d0 w0 R hn0 hn p q k a b e W he hs h1 h2 h3)
  have HS0 := Lib.hid (And.intro hd S)
  have HN := Lib.hid hn
  have HAB := Lib.hid (And.intro ham (And.intro hmb hbn))
  obtain ⟨i0, hi0⟩ : ∃ i, i = m - a := ⟨_, rfl⟩
  obtain ⟨j0, hj0⟩ : ∃ j, j = b - m := ⟨_, rfl⟩
  have ra : IntKind.i64.wrap ((m : Int) - (a : Int)) = (i0 : Int) := by rw [IntKind.wrap_i64] <;> omega
  have rb : IntKind.i64.wrap ((b : Int) - (m : Int)) = (j0 : Int) := by rw [IntKind.wrap_i64] <;> omega
  have ra2 : wrap64 ((m : Int) - (a : Int)) = (i0 : Int) := by unfold wrap64; omega
  have rb2 : wrap64 ((b : Int) - (m : Int)) = (j0 : Int) := by unfold wrap64; omega
  have HI0 := Lib.hid hi0
  have HJ0 := Lib.hid hj0
  clear R S hd hn0 hn ham hmb hbn hi0 hj0
  go_enter Tryz.func88, Tryz.ntmps88
  go_upto_region 2 with (fail)
  clear ra rb ra2 rb2
  go_wp2_with fail
  go_loopw [10, 11] (fun x y wr => ∃ i j : Nat, 0 < i ∧ 0 < j ∧ i ≤ i0 ∧ j ≤ j0 ∧ x = .int .i64 i ∧ y = .int .i64 j ∧ Hid (∃ e : Array α, e.size = n ∧ PermIn a b d e ∧ (∀ f, Rot (atA e) f (m - i) m (m + j) → Rot (atA d) f a m b) ∧ SW (iv val) w0 blk off e wr)) (fun x y _ => (intOf x).toNat + (intOf y).toNat)
  case atStart => exact ⟨i0, j0, by have := HI0.out; have := HAB.out; omega, by have := HJ0.out; have := HAB.out; omega, Nat.le_refl _, Nat.le_refl _, rfl, rfl, Lib.hid ⟨d, HS0.out.1, permIn_refl _ _ _, fun f h => by have h1 := HI0.out; have h2 := HJ0.out; have h3 := HAB.out; rw [show m - i0 = a by omega, show m + j0 = b by omega] at h; exact h, HS0.out.2⟩⟩
  case round =>
    obtain ⟨i, j, hi, hj, hii, hjj, rfl, rfl, hst⟩ := hrel
    obtain ⟨e, hsz, hp, hr, hs⟩ := hst.out
    have hab := HAB.out
    have hI := HI0.out
    have hJ := HJ0.out
    have hnn := HN.out
    obtain ⟨p, hp'⟩ : ∃ p, p = m - i := ⟨_, rfl⟩
    have r1 : IntKind.i64.wrap ((m : Int) - (i : Int)) = (p : Int) := by rw [IntKind.wrap_i64] <;> omega
    have r12 : wrap64 ((m : Int) - (i : Int)) = (p : Int) := by unfold wrap64; omega
    have HP := Lib.hid hp
    have HR := Lib.hid hr
    have HP' := Lib.hid hp'
    have i3 : i < 1000000 := by omega
    have j3 : j < 1000000 := by omega
    by_cases hne : i = j
    · obtain rfl := hne
      have hc := HX.out p m i e wr hsz hs (by omega) (by omega) (by omega)
      have HC := Lib.hid hc
      have d1 : ((i : Int) != (i : Int)) = false := by simp
      clear hst hsz hp hr hs hab hI hJ hnn hp' hc
      go_wp2_with fail
      refine HC.out.mono ?_
      rintro e2 W2 ⟨rfl, hE⟩
      have HE := Lib.hid hE
      clear hE
      go_wp2
      go_end0
      unfold ExP
      obtain ⟨d', h1, h2, h3, h4⟩ := HE.out
      exact ⟨rfl, d', h1, permIn_trans _ _ _ _ _ HP.out h2, HR.out _ (rot_end (by have := HI0.out; omega) (by rw [← HP'.out]; exact h3)), h4⟩
    · have d1 : ((i : Int) != (j : Int)) = true := by simp; omega
      by_cases hgt : j < i
      · have d2 : (j : Int) < (i : Int) := by omega
        have hc := HX.out p m j e wr hsz hs (by omega) (by omega) (by omega)
        have HC := Lib.hid hc
        have r2 : IntKind.i64.wrap ((i : Int) - (j : Int)) = ((i - j : Nat) : Int) := by rw [IntKind.wrap_i64] <;> omega
        have r22 : wrap64 ((i : Int) - (j : Int)) = ((i - j : Nat) : Int) := by unfold wrap64; omega
        clear hst hsz hp hr hs hab hI hJ hnn hp' hc
        go_wp2_with fail
        refine HC.out.mono ?_
        rintro e2 W2 ⟨rfl, hE⟩
        have HE := Lib.hid hE
        clear hE
        go_wp2
        refine ⟨⟨i - j, j, by omega, hj, by omega, hjj, by first | rfl | go_num, rfl, Lib.hid ?_⟩, by simp [intOf]; omega⟩
        obtain ⟨d', h1, h2, h3, h4⟩ := HE.out
        exact ⟨d', h1, permIn_trans _ _ _ _ _ HP.out h2, fun f h => HR.out f (rot_one hj hgt (by have := HI0.out; omega) (by rw [← HP'.out]; exact h3) h), h4⟩
      · have d2 : ¬ (j : Int) < (i : Int) := by omega
        obtain ⟨q, hq⟩ : ∃ q, q = m + j - i := ⟨_, rfl⟩
        have r4 : IntKind.i64.wrap ((m : Int) + (j : Int)) = (m : Int) + (j : Int) := by rw [IntKind.wrap_i64]; omega
        have r5 : IntKind.i64.wrap ((m : Int) + (j : Int) - (i : Int)) = (q : Int) := by rw [IntKind.wrap_i64] <;> omega
        have r6 : wrap64 ((m : Int) + (j : Int) - (i : Int)) = (q : Int) := by unfold wrap64; omega
        have hc := HX.out p q i e wr hsz hs (by omega) (by omega) (by omega)
        have HC := Lib.hid hc
        have HQ := Lib.hid hq
        have r2 : IntKind.i64.wrap ((j : Int) - (i : Int)) = ((j - i : Nat) : Int) := by rw [IntKind.wrap_i64] <;> omega
        have r22 : wrap64 ((j : Int) - (i : Int)) = ((j - i : Nat) : Int) := by unfold wrap64; omega
        clear hst hsz hp hr hs hab hI hJ hnn hp' hc hq
        go_wp2_with fail
        refine HC.out.mono ?_
        rintro e2 W2 ⟨rfl, hE⟩
        have HE := Lib.hid hE
        clear hE
        go_wp2
        refine ⟨⟨i, j - i, hi, by omega, hii, by omega, rfl, by first | rfl | go_num, Lib.hid ?_⟩, by simp [intOf]; omega⟩
        obtain ⟨d', h1, h2, h3, h4⟩ := HE.out
        exact ⟨d', h1, permIn_trans _ _ _ _ _ HP.out h2, fun f h => HR.out f (rot_two hi (by omega) (by have := HI0.out; omega) (by rw [← HP'.out, ← HQ.out]; exact h3) h), h4⟩
end Go.Proofs.YtmbjpjpdcmjjgaaGreatDoor
namespace Go.Proofs.YtmbjpjpdcmjjgaaGreatDoor
open Go.RowKit Go.Xt Go.Shelf Go.Sort
/-! symMergeCmpFunc, at a row of ints. -/
section
variable {α : Type} [Inhabited α]
def MgP (val : α → Int) (cf : α → α → Int) (w0 : World) (blk off n a b : Nat) (d : Array α) (e : Ending) (w' : World) : Prop := e = .returned (.tuple #[]) ∧ ExP val w0 blk off n a b d (fun f => Asc (ltOf cf) f a b) w'
set_option maxRecDepth 20000 in
set_option maxHeartbeats 8000000 in
theorem symM_first (val : α → Int) (cf : α → α → Int) (hS : SWO (ltOf cf)) (g : Nat) (cb : Array Value) (blk off cap n : Nat) (d0 : Array α) (w0 : World)
    (eg : ∀ args w, (callFunc g args).run Tryz.prog w = .ok (.enter g args) w) (hcmp : CmpLays1 Tryz.prog g cb (iv val) cf blk off d0.size w0) (R : Row1 (iv val) w0 blk off d0) (hn0 : d0.size = n) (hn : n ≤ 1000000)
    (a m b : Nat) (d : Array α) (w : World) (hd : d.size = n) (S : SW (iv val) w0 blk off d w) (ham : a < m) (hmb : m < b) (hbn : b ≤ n) (h1 : Asc (ltOf cf) (atA d) a m) (h2 : Asc (ltOf cf) (atA d) m b) (h0 : m = a + 1) :
    Calls Tryz.prog 68 #[.slice (some ⟨blk, off, none⟩) n cap, .int .i64 a, .int .i64 m, .int .i64 b, .func (.func g) #[] cb] w (MgP val cf w0 blk off n a b d) := by
  have mixed : Tryz.prog.follows .mixedOrders = true := sortL.mixed
  rw [hn0] at hcmp
  have RR := Lib.hid R
  have HC := Lib.hid hcmp
  have HS0 := Lib.hid S
  have HD := Lib.hid (And.intro hd hn0)
  have HN := Lib.hid hn
  have HAB := Lib.hid (And.intro ham (And.intro hmb hbn))
  have HA1 := Lib.hid h1
  have HA2 := Lib.hid h2
  have H0 := Lib.hid h0
  have r0 : IntKind.i64.wrap ((m : Int) - (a : Int)) = 1 := by rw [IntKind.wrap_i64] <;> omega
  have r02 : wrap64 ((m : Int) - (a : Int)) = 1 := by unfold wrap64; omega
  clear R S hcmp hd hn0 hn ham hmb hbn h1 h2 h0
  go_enter Tryz.func68, Tryz.ntmps68
  go_upto_region 3 with (fail)
  clear r0 r02
  go_wp2_with fail
  go_loopw [10, 11] (fun x y wr => ∃ i j : Nat, x = .int .i64 i ∧ y = .int .i64 j ∧ m ≤ i ∧ i ≤ j ∧ j ≤ b ∧ Hid ((i = m ∨ ltOf cf d[i - 1]! d[a]! = true) ∧ (j = b ∨ ltOf cf d[j]! d[a]! = false) ∧ SW (iv val) w0 blk off d wr)) (fun x y _ => (intOf y).toNat - (intOf x).toNat)
  case atStart => exact ⟨m, b, rfl, rfl, Nat.le_refl _, by have := HAB.out; omega, Nat.le_refl _, Lib.hid ⟨.inl rfl, .inl rfl, HS0.out⟩⟩
  case round =>
    obtain ⟨i, j, rfl, rfl, hmi, hij, hjb, hst⟩ := hrel
    obtain ⟨hb1, hb2, hs⟩ := hst.out
    have hab := HAB.out
    have hnn := HN.out
    have hdd := HD.out
    have hm1 := H0.out
    by_cases hlt : i < j
    · have i1 : (i : Int) < (j : Int) := by omega
      obtain ⟨h, hh⟩ : ∃ h : Nat, h = (i + j) / 2 := ⟨_, rfl⟩
      have hhk : ((i : Int) + (j : Int)) / 2 = (h : Int) := by omega
      have hh1 : i ≤ h := by omega
      have hh2 : h < j := by omega
      have q1 : (h : Int) < (n : Int) := by omega
      have q2 : (0 : Int) ≤ (h : Int) := by omega
      have q3 : (a : Int) < (n : Int) := by omega
      have q4 : (0 : Int) ≤ (a : Int) := by omega
      have i3 : i < 1000000 := by omega
      have j3 : j < 1000000 + 1 := by omega
      obtain ⟨x1, hx1⟩ : ∃ z, z = d[h]! := ⟨_, rfl⟩
      obtain ⟨y1, hy1⟩ : ∃ z, z = d[a]! := ⟨_, rfl⟩
      have l1 := hs.cl RR.out (by omega) (h) (by omega)
      have l2 := hs.cl RR.out (by omega) (a) (by omega)
      rw [← hx1] at l1
      rw [← hy1] at l2
      have hc := hs.cmp HC.out (by omega) x1 y1
      have HS := Lib.hid hs
      have HB := Lib.hid (And.intro hb1 hb2)
      by_cases hv : cf x1 y1 < 0
      · have HV := Lib.hid (show ltOf cf d[h]! d[a]! = true by rw [← hx1, ← hy1]; exact decide_eq_true hv)
        have hd1 : decide (cf x1 y1 < 0) = true := decide_eq_true hv
        clear hst hb1 hb2 hs hab hdd hm1 hh hx1 hy1 hnn
        go_wp2_with fail
        go_quiet_grown (first | (go_at_fn g; refine Calls.grown_of (hc _ _)))
        have S2 := Lib.hid (HS.out.grown nq osq)
        clear l1 l2 hc
        generalize grow (wr.drewN nq) osq = w2 at S2 ⊢
        clear nq osq
        go_wp2
        exact ⟨⟨h + 1, j, by go_num, rfl, by omega, by omega, hjb, Lib.hid ⟨.inr (by rw [Nat.add_sub_cancel]; exact HV.out), HB.out.2, S2.out⟩⟩, by simp [intOf]; omega⟩
      · have HV := Lib.hid (show ltOf cf d[h]! d[a]! = false by rw [← hx1, ← hy1]; exact decide_eq_false hv)
        have hd1 : decide (cf x1 y1 < 0) = false := decide_eq_false hv
        clear hst hb1 hb2 hs hab hdd hm1 hh hx1 hy1 hnn
        go_wp2_with fail
        go_quiet_grown (first | (go_at_fn g; refine Calls.grown_of (hc _ _)))
        have S2 := Lib.hid (HS.out.grown nq osq)
        clear l1 l2 hc
        generalize grow (wr.drewN nq) osq = w2 at S2 ⊢
        clear nq osq
        go_wp2
        exact ⟨⟨i, h, rfl, by go_num, hmi, by omega, by omega, Lib.hid ⟨HB.out.1, .inr HV.out, S2.out⟩⟩, by simp [intOf]; omega⟩
    · obtain rfl : i = j := by omega
      have i1 : ¬ (i : Int) < (i : Int) := by omega
      obtain ⟨t, ht⟩ : ∃ t, t = i - 1 := ⟨_, rfl⟩
      have rt : IntKind.i64.wrap ((i : Int) - 1) = (t : Int) := by rw [IntKind.wrap_i64] <;> omega
      have rt2 : wrap64 ((i : Int) - 1) = (t : Int) := by unfold wrap64; omega
      have HT := Lib.hid ht
      have HI := Lib.hid (And.intro hmi hjb)
      have HB := Lib.hid (And.intro hb1 hb2)
      have HS := Lib.hid hs
      clear hst hb1 hb2 hs hab hnn hdd hm1 ht hlt
      go_wp2_with fail
      rename World => w9
      go_loopw [13] (fun x wr => ∃ k : Nat, x = .int .i64 k ∧ a ≤ k ∧ k ≤ t ∧ Hid (∃ e : Array α, e.size = n ∧ PermIn a b d e ∧ Rot (atA d) (atA e) a (a + 1) (k + 1) ∧ SW (iv val) w0 blk off e wr)) (fun x _ => t - (intOf x).toNat)
      case atStart => exact ⟨a, rfl, Nat.le_refl _, by have := HT.out; have := HI.out; have := H0.out; omega, Lib.hid ⟨d, HD.out.1, permIn_refl _ _ _, Rot.none _ _ _ (by omega), HS.out⟩⟩
      case round =>
        obtain ⟨k, rfl, hak, hkt, hst⟩ := hrel
        obtain ⟨e, hsz, hp, hr, hs⟩ := hst.out
        have hab := HAB.out
        have hnn := HN.out
        have hdd := HD.out
        have hm1 := H0.out
        have htt := HT.out
        have hii := HI.out
        by_cases hkl : k < t
        · have k1 : (k : Int) < (t : Int) := by omega
          obtain ⟨k2, hk2⟩ : ∃ q, q = k + 1 := ⟨_, rfl⟩
          have r1 : IntKind.i64.wrap ((k : Int) + 1) = (k2 : Int) := by rw [IntKind.wrap_i64] <;> omega
          have p1 : (0 : Int) ≤ (k : Int) := by omega
          have p2 : (k : Int) < (n : Int) := by omega
          have q1 : (0 : Int) ≤ (k2 : Int) := by omega
          have q2 : (k2 : Int) < (n : Int) := by omega
          have i3 : k < 1000000 := by omega
          obtain ⟨x, hx1⟩ : ∃ x, x = val e[k]! := ⟨_, rfl⟩
          obtain ⟨y, hy1⟩ : ∃ y, y = val e[k2]! := ⟨_, rfl⟩
          have c1 : wr.cell? ⟨blk, off + k, none⟩ = some (.int .i64 x) := by rw [hx1]; exact hs.c1 RR.out (by omega) k (by omega)
          have c2 : wr.cell? ⟨blk, off + k2, none⟩ = some (.int .i64 y) := by rw [hy1]; exact hs.c1 RR.out (by omega) k2 (by omega)
          have f1 := hs.f1 RR.out (by omega) k (by omega)
          have f2 := hs.f1 RR.out (by omega) k2 (by omega)
          obtain ⟨u, c3⟩ := hs.c2 RR.out (by omega) k k2 (by omega) (by omega) (.int .i64 y)
          have S2 : SW (iv val) w0 blk off (swp e k k2) ((wr.setCell ⟨blk, off + k, none⟩ (.int .i64 y)).setCell ⟨blk, off + k2, none⟩ (.int .i64 x)).drew := by rw [hx1, hy1]; exact hs.swapped RR.out k k2 (by omega) (by omega)
          have HFIN := Lib.hid (show ∃ e2 : Array α, e2.size = n ∧ PermIn a b d e2 ∧ Rot (atA d) (atA e2) a (a + 1) (k + 1 + 1) ∧ SW (iv val) w0 blk off e2 ((wr.setCell ⟨blk, off + k, none⟩ (.int .i64 y)).setCell ⟨blk, off + k2, none⟩ (.int .i64 x)).drew from
            ⟨swp e k k2, by rw [size_swp]; exact hsz, permIn_trans _ _ _ _ _ hp (swp_permIn e a b k k2 (by omega) (by omega) (by omega) (by omega) (by omega)), rot_up hak hr (by rw [← hk2]; exact swp_ex e (by omega) (by omega) (by omega)), S2⟩)
          have HK := Lib.hid hk2
          clear hst hsz hp hr hs hab hnn hdd hm1 htt hii hx1 hy1 S2 hk2
          go_wp2_with fail
          go_big_region_o
          clear c1 c2 c3 f1 f2
          obtain ⟨W2, hW2⟩ : ∃ W, W = ((wr.setCell ⟨blk, off + k, none⟩ (.int .i64 y)).setCell ⟨blk, off + k2, none⟩ (.int .i64 x)).drew := ⟨_, rfl⟩
          rw [← hW2] at HFIN ⊢
          clear hW2
          clear p1 p2 q1 q2 r1
          have r1 : IntKind.i64.wrap ((k : Int) + 1) = (k : Int) + 1 := by rw [IntKind.wrap_i64]; omega
          go_wp2
          exact ⟨⟨k + 1, by go_num, by omega, by omega, HFIN⟩, by simp [intOf]; omega⟩
        · obtain rfl : k = t := by omega
          have k1 : ¬ (k : Int) < (k : Int) := by omega
          have HFIN := Lib.hid (show ExP val w0 blk off n a b d (fun f => Asc (ltOf cf) f a b) wr from
            ⟨e, hsz, hp, asc_first hS (f := atA d) (i := i) (by have := HA2.out; rw [hm1] at this; exact this) (by omega) (by rcases HB.out.1 with h | h; exact .inl (by omega); exact .inr h) HB.out.2 (by rw [htt, show i - 1 + 1 = i by omega] at hr; exact hr), hs⟩)
          clear hst hsz hp hr hs hab hnn hdd hm1 htt hii
          go_wp2
          go_end0
          exact ⟨rfl, HFIN.out⟩
set_option maxRecDepth 20000 in
set_option maxHeartbeats 8000000 in
theorem symM_last (val : α → Int) (cf : α → α → Int) (hS : SWO (ltOf cf)) (g : Nat) (cb : Array Value) (blk off cap n : Nat) (d0 : Array α) (w0 : World)
    (eg : ∀ args w, (callFunc g args).run Tryz.prog w = .ok (.enter g args) w) (hcmp : CmpLays1 Tryz.prog g cb (iv val) cf blk off d0.size w0) (R : Row1 (iv val) w0 blk off d0) (hn0 : d0.size = n) (hn : n ≤ 1000000)
    (a m b : Nat) (d : Array α) (w : World) (hd : d.size = n) (S : SW (iv val) w0 blk off d w) (ham : a < m) (hmb : m < b) (hbn : b ≤ n) (h1 : Asc (ltOf cf) (atA d) a m) (h2 : Asc (ltOf cf) (atA d) m b) (h0 : b = m + 1) (hma : a + 1 < m) :
    Calls Tryz.prog 68 #[.slice (some ⟨blk, off, none⟩) n cap, .int .i64 a, .int .i64 m, .int .i64 b, .func (.func g) #[] cb] w (MgP val cf w0 blk off n a b d) := by
  have mixed : Tryz.prog.follows .mixedOrders = true := sortL.mixed
  rw [hn0] at hcmp
  have RR := Lib.hid R
  have HC := Lib.hid hcmp
  have HS0 := Lib.hid S
  have HD := Lib.hid (And.intro hd hn0)
  have HN := Lib.hid hn
  have HAB := Lib.hid (And.intro ham (And.intro hmb hbn))
  have HA1 := Lib.hid h1
  have HA2 := Lib.hid h2
  have H0 := Lib.hid (And.intro h0 hma)
  obtain ⟨i0, hi0⟩ : ∃ i, i = m - a := ⟨_, rfl⟩
  have r0 : IntKind.i64.wrap ((m : Int) - (a : Int)) = (i0 : Int) := by rw [IntKind.wrap_i64] <;> omega
  have r02 : wrap64 ((m : Int) - (a : Int)) = (i0 : Int) := by unfold wrap64; omega
  have r1 : IntKind.i64.wrap ((b : Int) - (m : Int)) = 1 := by rw [IntKind.wrap_i64] <;> omega
  have r12 : wrap64 ((b : Int) - (m : Int)) = 1 := by unfold wrap64; omega
  have r2 : ((i0 : Int) == 1) = false := by simp; omega
  have r3 : ¬ (i0 : Int) = 1 := by omega
  clear R S hcmp hd hn0 hn ham hmb hbn h1 h2 h0 hma hi0
  go_enter Tryz.func68, Tryz.ntmps68
  go_upto_region 15 with (fail)
  clear r0 r02 r1 r12 r2 r3
  go_wp2_with fail
  go_loopw [14, 15] (fun x y wr => ∃ i j : Nat, x = .int .i64 i ∧ y = .int .i64 j ∧ a ≤ i ∧ i ≤ j ∧ j ≤ m ∧ Hid ((i = a ∨ ltOf cf d[m]! d[i - 1]! = false) ∧ (j = m ∨ ltOf cf d[m]! d[j]! = true) ∧ SW (iv val) w0 blk off d wr)) (fun x y _ => (intOf y).toNat - (intOf x).toNat)
  case atStart => exact ⟨a, m, rfl, rfl, Nat.le_refl _, by have := HAB.out; omega, Nat.le_refl _, Lib.hid ⟨.inl rfl, .inl rfl, HS0.out⟩⟩
  case round =>
    obtain ⟨i, j, rfl, rfl, hmi, hij, hjb, hst⟩ := hrel
    obtain ⟨hb1, hb2, hs⟩ := hst.out
    have hab := HAB.out
    have hnn := HN.out
    have hdd := HD.out
    have hm1 := H0.out
    by_cases hlt : i < j
    · have i1 : (i : Int) < (j : Int) := by omega
      obtain ⟨h, hh⟩ : ∃ h : Nat, h = (i + j) / 2 := ⟨_, rfl⟩
      have hhk : ((i : Int) + (j : Int)) / 2 = (h : Int) := by omega
      have hh1 : i ≤ h := by omega
      have hh2 : h < j := by omega
      have q1 : (h : Int) < (n : Int) := by omega
      have q2 : (0 : Int) ≤ (h : Int) := by omega
      have q3 : (m : Int) < (n : Int) := by omega
      have q4 : (0 : Int) ≤ (m : Int) := by omega
      have i3 : i < 1000000 := by omega
      have j3 : j < 1000000 + 1 := by omega
      obtain ⟨x1, hx1⟩ : ∃ z, z = d[m]! := ⟨_, rfl⟩
      obtain ⟨y1, hy1⟩ : ∃ z, z = d[h]! := ⟨_, rfl⟩
      have l1 := hs.cl RR.out (by omega) (m) (by omega)
      have l2 := hs.cl RR.out (by omega) (h) (by omega)
      rw [← hx1] at l1
      rw [← hy1] at l2
      have hc := hs.cmp HC.out (by omega) x1 y1
      have HS := Lib.hid hs
      have HB := Lib.hid (And.intro hb1 hb2)
      by_cases hv : cf x1 y1 < 0
      · have HV := Lib.hid (show ltOf cf d[m]! d[h]! = true by rw [← hx1, ← hy1]; exact decide_eq_true hv)
        have hd1 : decide (cf x1 y1 < 0) = true := decide_eq_true hv
        clear hst hb1 hb2 hs hab hdd hm1 hh hx1 hy1 hnn
        go_wp2_with fail
        go_quiet_grown (first | (go_at_fn g; refine Calls.grown_of (hc _ _)))
        have S2 := Lib.hid (HS.out.grown nq osq)
        clear l1 l2 hc
        generalize grow (wr.drewN nq) osq = w2 at S2 ⊢
        clear nq osq
        go_wp2
        exact ⟨⟨i, h, rfl, by go_num, hmi, by omega, by omega, Lib.hid ⟨HB.out.1, .inr HV.out, S2.out⟩⟩, by simp [intOf]; omega⟩
      · have HV := Lib.hid (show ltOf cf d[m]! d[h]! = false by rw [← hx1, ← hy1]; exact decide_eq_false hv)
        have hd1 : decide (cf x1 y1 < 0) = false := decide_eq_false hv
        clear hst hb1 hb2 hs hab hdd hm1 hh hx1 hy1 hnn
        go_wp2_with fail
        go_quiet_grown (first | (go_at_fn g; refine Calls.grown_of (hc _ _)))
        have S2 := Lib.hid (HS.out.grown nq osq)
        clear l1 l2 hc
        generalize grow (wr.drewN nq) osq = w2 at S2 ⊢
        clear nq osq
        go_wp2
        exact ⟨⟨h + 1, j, by go_num, rfl, by omega, by omega, hjb, Lib.hid ⟨.inr (by rw [Nat.add_sub_cancel]; exact HV.out), HB.out.2, S2.out⟩⟩, by simp [intOf]; omega⟩
    · obtain rfl : i = j := by omega
      have i1 : ¬ (i : Int) < (i : Int) := by omega
      have HI := Lib.hid (And.intro hmi hjb)
      have HB := Lib.hid (And.intro hb1 hb2)
      have HS := Lib.hid hs
      clear hst hb1 hb2 hs hab hnn hdd hm1 hlt
      go_wp2_with fail
      rename World => w9
      go_loopw [17] (fun x wr => ∃ k : Nat, x = .int .i64 k ∧ i ≤ k ∧ k ≤ m ∧ Hid (∃ e : Array α, e.size = n ∧ PermIn a b d e ∧ Rot (atA d) (atA e) k m (m + 1) ∧ SW (iv val) w0 blk off e wr)) (fun x _ => (intOf x).toNat)
      case atStart => exact ⟨m, rfl, by have := HI.out; omega, Nat.le_refl _, Lib.hid ⟨d, HD.out.1, permIn_refl _ _ _, Rot.same _ _ _, HS.out⟩⟩
      case round =>
        obtain ⟨k, rfl, hik, hkm, hst⟩ := hrel
        obtain ⟨e, hsz, hp, hr, hs⟩ := hst.out
        have hab := HAB.out
        have hnn := HN.out
        have hdd := HD.out
        have hm1 := H0.out
        have hii := HI.out
        by_cases hkl : i < k
        · have k1 : (i : Int) < (k : Int) := by omega
          obtain ⟨k2, hk2⟩ : ∃ q, q = k - 1 := ⟨_, rfl⟩
          have r1 : IntKind.i64.wrap ((k : Int) - 1) = (k2 : Int) := by rw [IntKind.wrap_i64] <;> omega
          have r12 : wrap64 ((k : Int) - 1) = (k2 : Int) := by unfold wrap64; omega
          have p1 : (0 : Int) ≤ (k : Int) := by omega
          have p2 : (k : Int) < (n : Int) := by omega
          have q1 : (0 : Int) ≤ (k2 : Int) := by omega
          have q2 : (k2 : Int) < (n : Int) := by omega
          have i3 : k < 1000000 := by omega
          obtain ⟨x, hx1⟩ : ∃ x, x = val e[k]! := ⟨_, rfl⟩
          obtain ⟨y, hy1⟩ : ∃ y, y = val e[k2]! := ⟨_, rfl⟩
          have c1 : wr.cell? ⟨blk, off + k, none⟩ = some (.int .i64 x) := by rw [hx1]; exact hs.c1 RR.out (by omega) k (by omega)
          have c2 : wr.cell? ⟨blk, off + k2, none⟩ = some (.int .i64 y) := by rw [hy1]; exact hs.c1 RR.out (by omega) k2 (by omega)
          have f1 := hs.f1 RR.out (by omega) k (by omega)
          have f2 := hs.f1 RR.out (by omega) k2 (by omega)
          obtain ⟨u, c3⟩ := hs.c2 RR.out (by omega) k k2 (by omega) (by omega) (.int .i64 y)
          have S2 : SW (iv val) w0 blk off (swp e k k2) ((wr.setCell ⟨blk, off + k, none⟩ (.int .i64 y)).setCell ⟨blk, off + k2, none⟩ (.int .i64 x)).drew := by rw [hx1, hy1]; exact hs.swapped RR.out k k2 (by omega) (by omega)
          have HFIN := Lib.hid (show ∃ e2 : Array α, e2.size = n ∧ PermIn a b d e2 ∧ Rot (atA d) (atA e2) k2 m (m + 1) ∧ SW (iv val) w0 blk off e2 ((wr.setCell ⟨blk, off + k, none⟩ (.int .i64 y)).setCell ⟨blk, off + k2, none⟩ (.int .i64 x)).drew from
            ⟨swp e k k2, by rw [size_swp]; exact hsz, permIn_trans _ _ _ _ _ hp (swp_permIn e a b k k2 (by omega) (by omega) (by omega) (by omega) (by omega)), rot_down (by omega) (by rw [show k2 + 1 = k by omega]; exact hr) (by rw [show k2 + 1 = k by omega]; exact swp_ex e (by omega) (by omega) (by omega)), S2⟩)
          have HK := Lib.hid hk2
          clear hst hsz hp hr hs hab hnn hdd hm1 hii hx1 hy1 S2 hk2
          go_wp2_with fail
          go_big_region_o
          clear c1 c2 c3 f1 f2
          obtain ⟨W2, hW2⟩ : ∃ W, W = ((wr.setCell ⟨blk, off + k, none⟩ (.int .i64 y)).setCell ⟨blk, off + k2, none⟩ (.int .i64 x)).drew := ⟨_, rfl⟩
          rw [← hW2] at HFIN ⊢
          clear hW2
          clear p1 p2 q1 q2
          go_wp2
          exact ⟨⟨k2, by first | rfl | go_num, by have := HK.out; omega, by have := HK.out; omega, HFIN⟩, by have := HK.out; simp [intOf]; omega⟩
        · obtain rfl : k = i := by omega
          have k1 : ¬ (k : Int) < (k : Int) := by omega
          have HFIN := Lib.hid (show ExP val w0 blk off n a b d (fun f => Asc (ltOf cf) f a b) wr from
            ⟨e, hsz, hp, by rw [hm1.1]; exact asc_last hS (f := atA d) (i := k) HA1.out (by omega) HB.out.1 HB.out.2 hr, hs⟩)
          clear hst hsz hp hr hs hab hnn hdd hm1 hii
          go_wp2
          go_end0
          exact ⟨rfl, HFIN.out⟩
end
end Go.Proofs.YtmbjpjpdcmjjgaaGreatDoor
