import Derived.Test.YtkikdpdainmlcaaGreatGK
import Derived.Deep.DeepCutAuto
set_option linter.unusedVariables false
set_option linter.unusedSimpArgs false
set_option linter.unnecessarySimpa false
namespace Go.Proofs.YtkikdpdainmlcaaGreat
open Go.RowKit Go.Xt
def sts (c : Cl) : List Int := [c.inv, c.took, c.ans]
theorem mem_stepsL (c : Cl) (s : Int) : s ∈ stepsL c ↔ s ∈ sts c ∧ 0 ≤ s := by simp only [stepsL, sts, List.mem_filter, decide_eq_true_eq]
theorem apRun_some (t : Int) : ∀ (l : List Int) (f : Int → Option Int), (∀ s ∈ l, 0 ≤ s → ∀ u, f s = some u → u = t) → apRun t l f = some (fun z => if z ∈ l ∧ 0 ≤ z then some t else f z)
  | [], f, _ => by simp [apRun]
  | a :: l, f, h => by
    rw [apRun]
    by_cases ha : a < 0
    · have h1 : apStep t f a = some f := by rw [apStep, if_pos ha]
      rw [h1]
      simp only
      rw [apRun_some t l f (fun s hs => h s (by simp [hs]))]
      congr 1
      funext z
      have : (z ∈ l ∧ 0 ≤ z) = (z ∈ a :: l ∧ 0 ≤ z) := by
        rw [eq_iff_iff, List.mem_cons]
        constructor
        · rintro ⟨h1, h2⟩; exact ⟨.inr h1, h2⟩
        · rintro ⟨h1 | h1, h2⟩
          · omega
          · exact ⟨h1, h2⟩
      simp only [this]
    · have h1 : apStep t f a = some (upd f a t) := by
        rw [apStep, if_neg ha]
        cases hfa : f a with
        | none => rfl
        | some u => simp [h a (by simp) (by omega) u hfa]
      rw [h1]
      simp only
      rw [apRun_some t l (upd f a t) (fun s hs h0 u hu => by
        unfold upd at hu
        split at hu
        · injection hu with hu; exact hu.symm
        · exact h s (by simp [hs]) h0 u hu)]
      congr 1
      funext z
      by_cases hz : z = a
      · subst hz
        simp [upd, show 0 ≤ z by omega]
      · have : (z ∈ l ∧ 0 ≤ z) = (z ∈ a :: l ∧ 0 ≤ z) := by simp [hz]
        simp only [this, upd, if_neg hz]
theorem apRun_cond (t : Int) : ∀ (l : List Int) (f f' : Int → Option Int), apRun t l f = some f' → ∀ s ∈ l, 0 ≤ s → ∀ u, f s = some u → u = t
  | [], _, _, _, _, hs, _, _, _ => by cases hs
  | a :: l, f, f', h, s, hs, h0, u, hu => by
    rw [apRun] at h
    by_cases ha : a < 0
    · have h1 : apStep t f a = some f := by rw [apStep, if_pos ha]
      rw [h1] at h
      rcases List.mem_cons.1 hs with rfl | hs
      · omega
      · exact apRun_cond t l f f' h s hs h0 u hu
    · rcases List.mem_cons.1 hs with rfl | hs
      · have h1 : apStep t f s = if u = t then some (upd f s t) else none := by rw [apStep, if_neg ha, hu]
        by_cases he : u = t
        · exact he
        · rw [h1, if_neg he] at h; cases h
      · by_cases hsa : s = a
        · subst hsa
          have h1 : apStep t f s = if u = t then some (upd f s t) else none := by rw [apStep, if_neg ha, hu]
          by_cases he : u = t
          · exact he
          · rw [h1, if_neg he] at h; cases h
        · cases h1 : apStep t f a with
          | none => rw [h1] at h; cases h
          | some f1 =>
            rw [h1] at h
            have h2 : f1 = upd f a t := by
              rw [apStep, if_neg ha] at h1
              cases hfa : f a with
              | none => rw [hfa] at h1; injection h1 with h1; exact h1.symm
              | some v =>
                rw [hfa] at h1
                simp only at h1
                split at h1
                · injection h1 with h1; exact h1.symm
                · cases h1
            refine apRun_cond t l f1 f' h s hs h0 u ?_
            rw [h2, upd, if_neg hsa]; exact hu
def Rep (f : Int → Option Int) (p : List Cl) : Prop := ∀ s t, 0 ≤ s → (f s = some t ↔ ∃ y ∈ p, y.th = t ∧ s ∈ sts y)
theorem rep_nil : Rep (fun _ => none) [] := fun s t _ => by simp
theorem apaF_iff {f : Int → Option Int} {p : List Cl} (hr : Rep f p) (x : Cl) : apaF p x = true ↔ ∀ s ∈ sts x, 0 ≤ s → ∀ u, f s = some u → u = x.th := by
  unfold apaF
  rw [List.all_eq_true]
  constructor
  · intro h s hs h0 u hu
    obtain ⟨y, hy, h1, h2⟩ := (hr s u h0).1 hu
    have h3 := h y hy
    by_cases he : y.th = x.th
    · rw [← h1]; exact he
    · exfalso
      simp only [Bool.or_eq_true, beq_iff_eq, he, false_or, Bool.not_eq_true'] at h3
      have h4 : meetF y x = true := by
        unfold meetF
        rw [List.any_eq_true]
        refine ⟨s, (mem_stepsL y s).2 ⟨h2, h0⟩, ?_⟩
        rw [List.any_eq_true]
        exact ⟨s, (mem_stepsL x s).2 ⟨hs, h0⟩, by simp⟩
      rw [h4] at h3; cases h3
  · intro h y hy
    by_cases he : y.th = x.th
    · simp [he]
    · simp only [Bool.or_eq_true, beq_iff_eq, he, false_or, Bool.not_eq_true']
      cases hm : meetF y x with
      | false => rfl
      | true =>
        exfalso
        unfold meetF at hm
        rw [List.any_eq_true] at hm
        obtain ⟨s, hs, hm⟩ := hm
        rw [List.any_eq_true] at hm
        obtain ⟨s', hs', he'⟩ := hm
        obtain rfl : s = s' := by simpa using he'
        have h1 := (mem_stepsL y s).1 hs
        have h2 := (mem_stepsL x s).1 hs'
        exact he (h s h2.1 h2.2 y.th ((hr s y.th h1.2).2 ⟨y, hy, rfl, h1.1⟩))
theorem apRun_iff {f : Int → Option Int} {p : List Cl} (hr : Rep f p) (x : Cl) : (apRun x.th (sts x) f).isSome = apaF p x := by
  cases h : apRun x.th (sts x) f with
  | some f' => exact ((apaF_iff hr x).2 (apRun_cond _ _ _ _ h)).symm
  | none =>
    cases ha : apaF p x with
    | false => rfl
    | true =>
      rw [apRun_some _ _ _ ((apaF_iff hr x).1 ha)] at h
      cases h
theorem rep_step {f f' : Int → Option Int} {p : List Cl} (hr : Rep f p) {x : Cl} (h : apRun x.th (sts x) f = some f') : Rep f' (p ++ [x]) := by
  have hc := apRun_cond _ _ _ _ h
  rw [apRun_some _ _ _ hc] at h
  injection h with h
  subst h
  intro s t h0
  show (if s ∈ sts x ∧ 0 ≤ s then some x.th else f s) = some t ↔ _
  by_cases hs : s ∈ sts x
  · rw [if_pos ⟨hs, h0⟩]
    constructor
    · intro e; injection e with e; exact ⟨x, by simp, e, hs⟩
    · rintro ⟨y, hy, h1, h2⟩
      rcases List.mem_append.1 hy with hy | hy
      · have := hc s hs h0 t ((hr s t h0).2 ⟨y, hy, h1, h2⟩)
        rw [this]
      · simp at hy; rw [← h1, hy]
  · rw [if_neg (fun e => hs e.1), hr s t h0]
    constructor
    · rintro ⟨y, hy, h1, h2⟩; exact ⟨y, by simp [hy], h1, h2⟩
    · rintro ⟨y, hy, h1, h2⟩
      rcases List.mem_append.1 hy with hy | hy
      · exact ⟨y, hy, h1, h2⟩
      · simp at hy; rw [hy] at h2; exact absurd h2 hs
theorem MapAt.ne {W : World} {mb n : Nat} {f : Int → Option Int} (h : MapAt W mb n f) {b i : Nat} {v : Value} (hc : W.cell? ⟨b, i, none⟩ = some v) : b ≠ mb := by
  rintro rfl
  obtain ⟨D, ⟨es, clock, hb, _⟩, _⟩ := h
  unfold World.cell? at hc
  rw [hb] at hc
  cases hc
instance {w d : World} {b o : Nat} {r : Option Nat} {c : Cl} [h : CallAt w b o c] [hr : Off b r] : CallAt (w.ext r d) b o c :=
  ⟨h.at_.same fun _ => World.cell?_of_block ((gext w r d).block b h.lt hr.ne), Nat.lt_of_lt_of_le h.lt (le_size _ _ _)⟩
theorem Cs.extr {w : World} {A : Option Addr} {n mb m : Nat} {l : List Cl} {f : Int → Option Int} (h : Cs w A n l) (hM : MapAt w mb m f) (d : World) : Cs (w.ext (some mb) d) A n l :=
  ⟨h.1, fun hn => by
    obtain ⟨b, o, rfl, hb, hc⟩ := h.2 hn
    refine ⟨b, o, rfl, Nat.lt_of_lt_of_le hb (le_size _ _ _), fun i c hi => (hc i c hi).same fun j => World.cell?_of_block ((gext w (some mb) d).block b hb ?_)⟩
    intro e; injection e with e
    exact hM.ne (hc i c hi).1 e⟩
end Go.Proofs.YtkikdpdainmlcaaGreat
namespace Go.Proofs.YtkikdpdainmlcaaGreat
open Go.RowKit Go.Xt
def fiveF (p : List Cl) (x : Cl) (f : Int → Option Int) : Bool := ordF p x && (effF x && (endF x && (aftF p x && (apRun x.th (sts x) f).isSome)))
set_option maxRecDepth 100000 in
set_option maxHeartbeats 8000000 in
theorem holds_any (fb cb kb mb m n cap : Nat) (A : Option Addr) (L : List Cl) (f : Int → Option Int) (x : Cl) (w : World) (hm : m ≤ 1000) (hn : n ≤ 1000000)
    (hf0 : w.cell? ⟨fb, 0, none⟩ = some (.func (.func 40) #[.pointer (some ⟨kb, 0, none⟩)] #[]))
    (hf1 : w.cell? ⟨fb, 1, none⟩ = some (.func (.func 41) #[.pointer (some ⟨kb, 0, none⟩)] #[]))
    (hf2 : w.cell? ⟨fb, 2, none⟩ = some (.func (.func 42) #[.pointer (some ⟨kb, 0, none⟩)] #[]))
    (hf3 : w.cell? ⟨fb, 3, none⟩ = some (.func (.func 43) #[.pointer (some ⟨kb, 0, none⟩)] #[]))
    (hf4 : w.cell? ⟨fb, 4, none⟩ = some (.func (.func 44) #[.pointer (some ⟨kb, 0, none⟩)] #[]))
    (hcx : AtC w cb 0 x) (hk0 : w.cell? ⟨kb, 0, none⟩ = some (.slice A (m + 1) cap)) (hk1 : w.cell? ⟨kb, 1, none⟩ = some (.map (some mb)))
    (hl : Cs w A (m + 1) L) (hx : L[m]? = some x) (hcap : m + 1 ≤ cap) (hcapm : cap ≤ 9223372036854775807) (hw : WfC x) (hM : MapAt w mb n f) :
    Calls Tryz.prog 39 #[.slice (some ⟨fb, 0, none⟩) 5 5, .pointer (some ⟨cb, 0, none⟩)] w fun e w' => e = .returned (.bool (fiveF (L.take m) x f)) ∧ (fiveF (L.take m) x f = true → ∃ f', apRun x.th (sts x) f = some f' ∧ MapAt w' mb (n + 3) f') ∧ w.grownBy w' (some mb) := by
  have lf := World.block_lt_of_cell? w _ hf0
  have lc := World.block_lt_of_cell? w _ hcx.1
  have lk := World.block_lt_of_cell? w _ hk0
  haveI : In fb w := ⟨lf⟩
  haveI : In cb w := ⟨lc⟩
  haveI : In kb w := ⟨lk⟩
  haveI : Off fb (some mb) := ⟨by intro e; injection e with e; exact hM.ne hf0 e⟩
  haveI : Off cb (some mb) := ⟨by intro e; injection e with e; exact hM.ne hcx.1 e⟩
  haveI : Off kb (some mb) := ⟨by intro e; injection e with e; exact hM.ne hk0 e⟩
  haveI : CallAt w cb 0 x := ⟨hcx, lc⟩
  have hkm : kb ≠ mb := hM.ne hk0
  have HO := Lib.hid (fun d => order_any kb m cap A L x (w.ext (some mb) d) hm (by rw [cell_ext]; exact hk0) (hl.extr hM d) hx hcap hcapm hw)
  have HE := Lib.hid (fun d => effect_any (.pointer (some ⟨kb, 0, none⟩)) x (w.ext (some mb) d))
  have HN := Lib.hid (fun d (hi : 0 ≤ x.inv) => hend_any (.pointer (some ⟨kb, 0, none⟩)) x (w.ext (some mb) d) hw hi)
  have HA := Lib.hid (fun d => hafter_any kb m cap A L x (w.ext (some mb) d) hm (by rw [cell_ext]; exact hk0) (hl.extr hM d) hx hcap hcapm)
  have HP := Lib.hid (fun d (h : MapAt (w.ext (some mb) d) mb n f) => apart_any kb mb n f x (w.ext (some mb) d) (by rw [cell_ext]; exact hk1) h hn hkm hw)
  have HM := Lib.hid hM
  clear hl hx hcx hM hk0 hk1 hw
  go_enter Tryz.func39, Tryz.ntmps39
  go_wp2
  go_loopw [5, 8] (fun _ i wr => ∃ k : Nat, k ≤ 5 ∧ i = .int .i64 k ∧ (1 ≤ k → Hid (ordF (L.take m) x = true)) ∧ (2 ≤ k → Hid (effF x = true)) ∧ (3 ≤ k → Hid (endF x = true)) ∧ (4 ≤ k → Hid (aftF (L.take m) x = true)) ∧ (k ≤ 4 → Hid (MapAt wr mb n f)) ∧ (5 ≤ k → Hid (∃ f', apRun x.th (sts x) f = some f' ∧ MapAt wr mb (n + 3) f')) ∧ ∃ d, wr = w.ext (some mb) d) (fun _ i _ => 5 - (intOf i).toNat)
  case atStart => exact ⟨0, by omega, rfl, fun h => absurd h (by omega), fun h => absurd h (by omega), fun h => absurd h (by omega), fun h => absurd h (by omega), fun _ => HM, fun h => absurd h (by omega), w, (ext_of (gref _ _)).symm⟩
  case round =>
    obtain ⟨k, hk, rfl, t1, t2, t3, t4, t5, t6, d, rfl⟩ := hrel
    have hk' : k = 0 ∨ k = 1 ∨ k = 2 ∨ k = 3 ∨ k = 4 ∨ k = 5 := by omega
    have hjoin : ∀ (d dW : World), ∃ d', (w.ext (some mb) d).ext none dW = w.ext (some mb) d' := fun d dW => ⟨_, (ext_of (grownBy_trans (gext w (some mb) d) (gext _ none dW).widen)).symm⟩
    rcases hk' with rfl | rfl | rfl | rfl | rfl | rfl
    · have T5 := t5 (by omega)
      clear t1 t2 t3 t4 t5 t6
      by_cases hc : ordF (L.take m) x = true
      · rw [hc] at HO
        have H := Lib.hid hc
        clear hc
        go_wp2_with (go_at_call 40; refine (HO.out _).mono ?_; rintro e w' ⟨rfl, dW, rfl⟩)
        refine ⟨⟨1, by omega, by go_num, fun _ => H, fun h => absurd h (by omega), fun h => absurd h (by omega), fun h => absurd h (by omega), fun _ => ?_, fun h => absurd h (by omega), hjoin d dW⟩, by simp [intOf]⟩
        exact T5.out.kept (gext _ none dW) (by simp)
      · have hc : ordF (L.take m) x = false := by simpa using hc
        rw [hc] at HO
        have H := Lib.hid hc
        clear hc
        go_wp2_with (go_at_call 40; refine (HO.out _).mono ?_; rintro e w' ⟨rfl, dW, rfl⟩)
        have h5 : fiveF (L.take m) x f = false := by rw [fiveF, H.out]; simp
        refine bodyPost_ret (results_tmp rfl _ _ _) rfl ⟨by rw [h5]; rfl, (fun h => by rw [h5] at h; cases h), ?_⟩
        exact grownBy_trans (gext w (some mb) d) (gext _ none dW).widen
    · have T5 := t5 (by omega)
      have T1 := t1 (by omega)
      clear t1 t2 t3 t4 t5 t6
      by_cases hc : effF x = true
      · rw [hc] at HE
        have H := Lib.hid hc
        clear hc
        go_wp2_with (go_at_call 41; refine (HE.out _).mono ?_; rintro e w' ⟨rfl, dW, rfl⟩)
        refine ⟨⟨2, by omega, by go_num, fun _ => T1, fun _ => H, fun h => absurd h (by omega), fun h => absurd h (by omega), fun _ => ?_, fun h => absurd h (by omega), hjoin d dW⟩, by simp [intOf]⟩
        exact T5.out.kept (gext _ none dW) (by simp)
      · have hc : effF x = false := by simpa using hc
        rw [hc] at HE
        have H := Lib.hid hc
        clear hc
        go_wp2_with (go_at_call 41; refine (HE.out _).mono ?_; rintro e w' ⟨rfl, dW, rfl⟩)
        have h5 : fiveF (L.take m) x f = false := by rw [fiveF, H.out, T1.out]; simp
        refine bodyPost_ret (results_tmp rfl _ _ _) rfl ⟨by rw [h5]; rfl, (fun h => by rw [h5] at h; cases h), ?_⟩
        exact grownBy_trans (gext w (some mb) d) (gext _ none dW).widen
    · have T5 := t5 (by omega)
      have T1 := t1 (by omega)
      have T2 := t2 (by omega)
      have hinv : 0 ≤ x.inv := by have h := T1.out; simp [ordF] at h; omega
      clear t1 t2 t3 t4 t5 t6
      by_cases hc : endF x = true
      · rw [hc] at HN
        have H := Lib.hid hc
        clear hc
        go_wp2_with (go_at_call 42; refine (HN.out _ hinv).mono ?_; rintro e w' ⟨rfl, dW, rfl⟩)
        refine ⟨⟨3, by omega, by go_num, fun _ => T1, fun _ => T2, fun _ => H, fun h => absurd h (by omega), fun _ => ?_, fun h => absurd h (by omega), hjoin d dW⟩, by simp [intOf]⟩
        exact T5.out.kept (gext _ none dW) (by simp)
      · have hc : endF x = false := by simpa using hc
        rw [hc] at HN
        have H := Lib.hid hc
        clear hc
        go_wp2_with (go_at_call 42; refine (HN.out _ hinv).mono ?_; rintro e w' ⟨rfl, dW, rfl⟩)
        have h5 : fiveF (L.take m) x f = false := by rw [fiveF, H.out, T1.out, T2.out]; simp
        refine bodyPost_ret (results_tmp rfl _ _ _) rfl ⟨by rw [h5]; rfl, (fun h => by rw [h5] at h; cases h), ?_⟩
        exact grownBy_trans (gext w (some mb) d) (gext _ none dW).widen
    · have T5 := t5 (by omega)
      have T1 := t1 (by omega)
      have T2 := t2 (by omega)
      have T3 := t3 (by omega)
      have hinv : 0 ≤ x.inv := by have h := T1.out; simp [ordF] at h; omega
      clear t1 t2 t3 t4 t5 t6
      by_cases hc : aftF (L.take m) x = true
      · rw [hc] at HA
        have H := Lib.hid hc
        clear hc
        go_wp2_with (go_at_call 43; refine (HA.out _).mono ?_; rintro e w' ⟨rfl, dW, rfl⟩)
        refine ⟨⟨4, by omega, by go_num, fun _ => T1, fun _ => T2, fun _ => T3, fun _ => H, fun _ => ?_, fun h => absurd h (by omega), hjoin d dW⟩, by simp [intOf]⟩
        exact T5.out.kept (gext _ none dW) (by simp)
      · have hc : aftF (L.take m) x = false := by simpa using hc
        rw [hc] at HA
        have H := Lib.hid hc
        clear hc
        go_wp2_with (go_at_call 43; refine (HA.out _).mono ?_; rintro e w' ⟨rfl, dW, rfl⟩)
        have h5 : fiveF (L.take m) x f = false := by rw [fiveF, H.out, T1.out, T2.out, T3.out]; simp
        refine bodyPost_ret (results_tmp rfl _ _ _) rfl ⟨by rw [h5]; rfl, (fun h => by rw [h5] at h; cases h), ?_⟩
        exact grownBy_trans (gext w (some mb) d) (gext _ none dW).widen
    · have T5 := t5 (by omega)
      have T1 := t1 (by omega)
      have T2 := t2 (by omega)
      have T3 := t3 (by omega)
      have T4 := t4 (by omega)
      have hinv : 0 ≤ x.inv := by have h := T1.out; simp [ordF] at h; omega
      clear t1 t2 t3 t4 t5 t6
      by_cases hc : (apRun x.th [x.inv, x.took, x.ans] f).isSome = true
      · rw [hc] at HP
        have H := Lib.hid hc
        clear hc
        go_wp2_with (go_at_call 44; refine (HP.out _ T5.out).mono ?_; rintro e w' ⟨rfl, hmap, hgr⟩; obtain ⟨d2, rfl⟩ : ∃ d2, w' = w.ext (some mb) d2 := ⟨_, (ext_of (grownBy_trans (gext w (some mb) d) hgr)).symm⟩; have HMap := Lib.hid hmap; clear hmap hgr)
        refine ⟨⟨5, by omega, by go_num, fun _ => T1, fun _ => T2, fun _ => T3, fun _ => T4, fun h => absurd h (by omega), fun _ => ?_, d2, rfl⟩, by simp [intOf]⟩
        show ∃ _, _
        obtain ⟨f1, hf1⟩ := Option.isSome_iff_exists.1 H.out
        exact ⟨f1, hf1, HMap.out f1 hf1⟩
      · have hc : (apRun x.th [x.inv, x.took, x.ans] f).isSome = false := by simpa using hc
        rw [hc] at HP
        have H := Lib.hid hc
        clear hc
        go_wp2_with (go_at_call 44; refine (HP.out _ T5.out).mono ?_; rintro e w' ⟨rfl, hmap, hgr⟩; obtain ⟨d2, rfl⟩ : ∃ d2, w' = w.ext (some mb) d2 := ⟨_, (ext_of (grownBy_trans (gext w (some mb) d) hgr)).symm⟩; have HMap := Lib.hid hmap; clear hmap hgr)
        have h5 : fiveF (L.take m) x f = false := by
          have h6 : (apRun x.th (sts x) f).isSome = false := H.out
          rw [fiveF, h6, T1.out, T2.out, T3.out, T4.out]; rfl
        refine bodyPost_ret (results_tmp rfl _ _ _) rfl ⟨by rw [h5]; rfl, (fun h => by rw [h5] at h; cases h), gext _ _ _⟩
    · have T6 := t6 (by omega)
      have T1 := t1 (by omega)
      have T2 := t2 (by omega)
      have T3 := t3 (by omega)
      have T4 := t4 (by omega)
      clear t1 t2 t3 t4 t5 t6
      go_wp2
      obtain ⟨f1, hf1, hm1⟩ := T6.out
      have h5 : fiveF (L.take m) x f = true := by rw [fiveF, hf1, T1.out, T2.out, T3.out, T4.out]; rfl
      refine bodyPost_ret (results_tmp rfl _ _ _) rfl ⟨by rw [h5]; rfl, fun _ => ⟨f1, hf1, hm1⟩, gext _ _ _⟩
end Go.Proofs.YtkikdpdainmlcaaGreat
namespace Go.Proofs.YtkikdpdainmlcaaGreat
open Go.RowKit Go.Xt
theorem five_good {f : Int → Option Int} {p : List Cl} (hr : Rep f p) (x : Cl) : fiveF p x f = goodP p x := by rw [fiveF, goodP, apRun_iff hr]
theorem Cs.set {w : World} {A : Option Addr} {n : Nat} {l : List Cl} (h : Cs w A n l) (p : Addr) (v : Value) (hp : ∀ b o, A = some ⟨b, o, none⟩ → b ≠ p.block) : Cs (w.setCell p v) A n l :=
  ⟨h.1, fun hn => by
    obtain ⟨b, o, rfl, hb, hc⟩ := h.2 hn
    exact ⟨b, o, rfl, by simpa using hb, fun i c hi => (hc i c hi).same fun j => World.cell?_of_block (heap_set _ _ _ _ (fun e => hp b o rfl e.symm))⟩⟩
theorem MapAt.set {w : World} {mb n : Nat} {f : Int → Option Int} (h : MapAt w mb n f) (p : Addr) (v : Value) (hp : mb ≠ p.block) : MapAt (w.setCell p v) mb n f := by
  obtain ⟨D, h1, h2⟩ := h; exact ⟨D, h1.setCell hp v, h2⟩
set_option maxRecDepth 100000 in
set_option maxHeartbeats 8000000 in
theorem hcheck_any (A : Option Addr) (n c : Nat) (l : List Cl) (w : World) (hn : n ≤ 1000) (hc : n ≤ c) (hcm : c ≤ 9223372036854775807) (hl : Cs w A n l) (hw : ∀ y ∈ l, WfC y) :
    Calls Tryz.prog 18 #[.slice A n c] w fun e w' => e = .returned (chkV l) ∧ Nw w w' := by
  have HL := Lib.hid hl
  have HW := Lib.hid hw
  have hlen := hl.1
  clear hl hw
  have hmm := @run_makeMap Tryz.prog
  go_enter Tryz.func18, Tryz.ntmps18
  go_wp2
  go_loopw [5, 6, 7, 13] (fun _ _ _ i wr => ∃ (k : Nat) (f : Int → Option Int), k ≤ n ∧ i = .int .i64 k ∧ Hid (bad l = badFrom l k (l.length - k)) ∧ Hid (Rep f (l.take k)) ∧ Hid (MapAt wr w.heap.size (3 * k) f) ∧ (∃ u, wr.cell? ⟨w.heap.size + 1, 0, none⟩ = some u) ∧ wr.frozen? ⟨w.heap.size + 1, 0, none⟩ = false ∧ wr.cell? ⟨w.heap.size + 1, 1, none⟩ = some (.map (some w.heap.size)) ∧ Nw w wr) (fun _ _ _ i _ => n - (intOf i).toNat)
  case atStart =>
    exact ⟨0, fun _ => none, by omega, rfl, rfl, rep_nil, (mapAt_new w).kept (World.grownBy_alloc _ _ none) (by simp), ⟨.slice none 0 0, by simp [go_sem]⟩, by simp [go_sem], by simp [go_sem], nwa⟩
  case round =>
    obtain ⟨k, f, hk, rfl, hbd, hrep, hmap, ⟨u0, hk0⟩, hfz, hk1, hnw⟩ := hrel
    by_cases hlt : k < n
    · obtain ⟨b, o, x, rfl, hb, hx, hcx0⟩ := HL.out.get hlt
      obtain ⟨dr, hdr⟩ := hnw
      have hnw : Nw w wr := ⟨dr, hdr⟩
      have hbr : b < wr.heap.size := Nat.lt_of_lt_of_le hb hnw.grown.size
      have hcx : AtC wr b (o + k * 18) x := by rw [hdr]; exact hcx0.ext hb dr
      haveI : CallAt wr b (o + k * 18) x := ⟨hcx, hbr⟩
      have lk := World.block_lt_of_cell? wr _ hk0
      have lk' : w.heap.size + 1 < wr.heap.size := lk
      haveI : In (w.heap.size + 1) wr := ⟨lk⟩
      have hkc : (k : Int) + 1 ≤ (c : Int) := by omega
      have hkn : (k : Int) < (n : Int) := by omega
      have hCs1 := (((HL.out.take (show k + 1 ≤ n by omega)).nw hnw).set ⟨w.heap.size + 1, 0, none⟩ (.slice (some ⟨b, o, none⟩) (k + 1) c) (fun b' o' e => by injection e with e; injection e with e1 e2; show b' ≠ w.heap.size + 1; omega)).nw (show Nw (wr.setCell ⟨w.heap.size + 1, 0, none⟩ (.slice (some ⟨b, o, none⟩) (k + 1) c)) (((wr.setCell ⟨w.heap.size + 1, 0, none⟩ (.slice (some ⟨b, o, none⟩) (k + 1) c)).alloc (.cells #[.int .i64 x.th, .int .i64 x.ix, .int .u8 x.kd, .int .u64 x.ka, .int .u64 x.kb, .int .u64 x.kc, .int .u64 x.kx, .int .u64 x.ky, .int .u64 x.kz, .int .i64 x.inv, .int .i64 x.took, .int .i64 x.ans, .int .i64 x.st, .int .i64 x.re, .bool x.rf, .int .u64 x.rk, .int .u64 x.rv, .int .i64 x.rc] 45)).alloc (.cells #[.func (.func 40) #[.pointer (some ⟨w.heap.size + 1, 0, none⟩)] #[], .func (.func 41) #[.pointer (some ⟨w.heap.size + 1, 0, none⟩)] #[], .func (.func 42) #[.pointer (some ⟨w.heap.size + 1, 0, none⟩)] #[], .func (.func 43) #[.pointer (some ⟨w.heap.size + 1, 0, none⟩)] #[], .func (.func 44) #[.pointer (some ⟨w.heap.size + 1, 0, none⟩)] #[]] 77)) from nwa)
      have hM1 := ((hmap.out.set ⟨w.heap.size + 1, 0, none⟩ (.slice (some ⟨b, o, none⟩) (k + 1) c) (by show w.heap.size ≠ w.heap.size + 1; omega)).kept (World.grownBy_alloc (wr.setCell ⟨w.heap.size + 1, 0, none⟩ (.slice (some ⟨b, o, none⟩) (k + 1) c)) (.cells #[.int .i64 x.th, .int .i64 x.ix, .int .u8 x.kd, .int .u64 x.ka, .int .u64 x.kb, .int .u64 x.kc, .int .u64 x.kx, .int .u64 x.ky, .int .u64 x.kz, .int .i64 x.inv, .int .i64 x.took, .int .i64 x.ans, .int .i64 x.st, .int .i64 x.re, .bool x.rf, .int .u64 x.rk, .int .u64 x.rv, .int .i64 x.rc] 45) none) (by simp)).kept (World.grownBy_alloc ((wr.setCell ⟨w.heap.size + 1, 0, none⟩ (.slice (some ⟨b, o, none⟩) (k + 1) c)).alloc (.cells #[.int .i64 x.th, .int .i64 x.ix, .int .u8 x.kd, .int .u64 x.ka, .int .u64 x.kb, .int .u64 x.kc, .int .u64 x.kx, .int .u64 x.ky, .int .u64 x.kz, .int .i64 x.inv, .int .i64 x.took, .int .i64 x.ans, .int .i64 x.st, .int .i64 x.re, .bool x.rf, .int .u64 x.rk, .int .u64 x.rv, .int .i64 x.rc] 45)) (.cells #[.func (.func 40) #[.pointer (some ⟨w.heap.size + 1, 0, none⟩)] #[], .func (.func 41) #[.pointer (some ⟨w.heap.size + 1, 0, none⟩)] #[], .func (.func 42) #[.pointer (some ⟨w.heap.size + 1, 0, none⟩)] #[], .func (.func 43) #[.pointer (some ⟨w.heap.size + 1, 0, none⟩)] #[], .func (.func 44) #[.pointer (some ⟨w.heap.size + 1, 0, none⟩)] #[]] 77) none) (by simp)
      have hA1 : AtC (((wr.setCell ⟨w.heap.size + 1, 0, none⟩ (.slice (some ⟨b, o, none⟩) (k + 1) c)).alloc (.cells #[.int .i64 x.th, .int .i64 x.ix, .int .u8 x.kd, .int .u64 x.ka, .int .u64 x.kb, .int .u64 x.kc, .int .u64 x.kx, .int .u64 x.ky, .int .u64 x.kz, .int .i64 x.inv, .int .i64 x.took, .int .i64 x.ans, .int .i64 x.st, .int .i64 x.re, .bool x.rf, .int .u64 x.rk, .int .u64 x.rv, .int .i64 x.rc] 45)).alloc (.cells #[.func (.func 40) #[.pointer (some ⟨w.heap.size + 1, 0, none⟩)] #[], .func (.func 41) #[.pointer (some ⟨w.heap.size + 1, 0, none⟩)] #[], .func (.func 42) #[.pointer (some ⟨w.heap.size + 1, 0, none⟩)] #[], .func (.func 43) #[.pointer (some ⟨w.heap.size + 1, 0, none⟩)] #[], .func (.func 44) #[.pointer (some ⟨w.heap.size + 1, 0, none⟩)] #[]] 77)) wr.heap.size 0 x := by
        have h := boxed (wr.setCell ⟨w.heap.size + 1, 0, none⟩ (.slice (some ⟨b, o, none⟩) (k + 1) c)) x 45
        rw [World.size_setCell] at h
        exact h.alloc (by simp) _
      have k0 : (((wr.setCell ⟨w.heap.size + 1, 0, none⟩ (.slice (some ⟨b, o, none⟩) (k + 1) c)).alloc (.cells #[.int .i64 x.th, .int .i64 x.ix, .int .u8 x.kd, .int .u64 x.ka, .int .u64 x.kb, .int .u64 x.kc, .int .u64 x.kx, .int .u64 x.ky, .int .u64 x.kz, .int .i64 x.inv, .int .i64 x.took, .int .i64 x.ans, .int .i64 x.st, .int .i64 x.re, .bool x.rf, .int .u64 x.rk, .int .u64 x.rv, .int .i64 x.rc] 45)).alloc (.cells #[.func (.func 40) #[.pointer (some ⟨w.heap.size + 1, 0, none⟩)] #[], .func (.func 41) #[.pointer (some ⟨w.heap.size + 1, 0, none⟩)] #[], .func (.func 42) #[.pointer (some ⟨w.heap.size + 1, 0, none⟩)] #[], .func (.func 43) #[.pointer (some ⟨w.heap.size + 1, 0, none⟩)] #[], .func (.func 44) #[.pointer (some ⟨w.heap.size + 1, 0, none⟩)] #[]] 77)).cell? ⟨w.heap.size + 1, 0, none⟩ = some (.slice (some ⟨b, o, none⟩) (k + 1) c) := by
        rw [World.cell?_of_block (RowKit.Below.heap_alloc _ _ _ (by simp; omega)), World.cell?_of_block (RowKit.Below.heap_alloc _ _ _ (by simp; omega))]
        exact World.cell?_setCell_same' _ _ _ (by rw [hk0]; rfl)
      have k1 : (((wr.setCell ⟨w.heap.size + 1, 0, none⟩ (.slice (some ⟨b, o, none⟩) (k + 1) c)).alloc (.cells #[.int .i64 x.th, .int .i64 x.ix, .int .u8 x.kd, .int .u64 x.ka, .int .u64 x.kb, .int .u64 x.kc, .int .u64 x.kx, .int .u64 x.ky, .int .u64 x.kz, .int .i64 x.inv, .int .i64 x.took, .int .i64 x.ans, .int .i64 x.st, .int .i64 x.re, .bool x.rf, .int .u64 x.rk, .int .u64 x.rv, .int .i64 x.rc] 45)).alloc (.cells #[.func (.func 40) #[.pointer (some ⟨w.heap.size + 1, 0, none⟩)] #[], .func (.func 41) #[.pointer (some ⟨w.heap.size + 1, 0, none⟩)] #[], .func (.func 42) #[.pointer (some ⟨w.heap.size + 1, 0, none⟩)] #[], .func (.func 43) #[.pointer (some ⟨w.heap.size + 1, 0, none⟩)] #[], .func (.func 44) #[.pointer (some ⟨w.heap.size + 1, 0, none⟩)] #[]] 77)).cell? ⟨w.heap.size + 1, 1, none⟩ = some (.map (some w.heap.size)) := by
        rw [World.cell?_of_block (RowKit.Below.heap_alloc _ _ _ (by simp; omega)), World.cell?_of_block (RowKit.Below.heap_alloc _ _ _ (by simp; omega)), World.cell?_setCell_other _ _ _ _ (by simp)]
        exact hk1
      have kz : (((wr.setCell ⟨w.heap.size + 1, 0, none⟩ (.slice (some ⟨b, o, none⟩) (k + 1) c)).alloc (.cells #[.int .i64 x.th, .int .i64 x.ix, .int .u8 x.kd, .int .u64 x.ka, .int .u64 x.kb, .int .u64 x.kc, .int .u64 x.kx, .int .u64 x.ky, .int .u64 x.kz, .int .i64 x.inv, .int .i64 x.took, .int .i64 x.ans, .int .i64 x.st, .int .i64 x.re, .bool x.rf, .int .u64 x.rk, .int .u64 x.rv, .int .i64 x.rc] 45)).alloc (.cells #[.func (.func 40) #[.pointer (some ⟨w.heap.size + 1, 0, none⟩)] #[], .func (.func 41) #[.pointer (some ⟨w.heap.size + 1, 0, none⟩)] #[], .func (.func 42) #[.pointer (some ⟨w.heap.size + 1, 0, none⟩)] #[], .func (.func 43) #[.pointer (some ⟨w.heap.size + 1, 0, none⟩)] #[], .func (.func 44) #[.pointer (some ⟨w.heap.size + 1, 0, none⟩)] #[]] 77)).frozen? ⟨w.heap.size + 1, 0, none⟩ = false := by
        rw [World.frozen?_of_block (RowKit.Below.heap_alloc _ _ _ (by simp; omega)), World.frozen?_of_block (RowKit.Below.heap_alloc _ _ _ (by simp; omega)), World.frozen?_setCell]
        exact hfz
      have hx1 : (l.take (k + 1))[k]? = some x := by rw [List.getElem?_take, if_pos (by omega)]; exact hx
      have hN3 : Nw w (((wr.setCell ⟨w.heap.size + 1, 0, none⟩ (.slice (some ⟨b, o, none⟩) (k + 1) c)).alloc (.cells #[.int .i64 x.th, .int .i64 x.ix, .int .u8 x.kd, .int .u64 x.ka, .int .u64 x.kb, .int .u64 x.kc, .int .u64 x.kx, .int .u64 x.ky, .int .u64 x.kz, .int .i64 x.inv, .int .i64 x.took, .int .i64 x.ans, .int .i64 x.st, .int .i64 x.re, .bool x.rf, .int .u64 x.rk, .int .u64 x.rv, .int .i64 x.rc] 45)).alloc (.cells #[.func (.func 40) #[.pointer (some ⟨w.heap.size + 1, 0, none⟩)] #[], .func (.func 41) #[.pointer (some ⟨w.heap.size + 1, 0, none⟩)] #[], .func (.func 42) #[.pointer (some ⟨w.heap.size + 1, 0, none⟩)] #[], .func (.func 43) #[.pointer (some ⟨w.heap.size + 1, 0, none⟩)] #[], .func (.func 44) #[.pointer (some ⟨w.heap.size + 1, 0, none⟩)] #[]] 77)) := ((hnw.setCell (p := ⟨w.heap.size + 1, 0, none⟩) (by show w.heap.size ≤ w.heap.size + 1; omega) _).alloc _).alloc _
      have hH := holds_any (wr.heap.size + 1) wr.heap.size (w.heap.size + 1) w.heap.size k (3 * k) c (some ⟨b, o, none⟩) (l.take (k + 1)) f x (((wr.setCell ⟨w.heap.size + 1, 0, none⟩ (.slice (some ⟨b, o, none⟩) (k + 1) c)).alloc (.cells #[.int .i64 x.th, .int .i64 x.ix, .int .u8 x.kd, .int .u64 x.ka, .int .u64 x.kb, .int .u64 x.kc, .int .u64 x.kx, .int .u64 x.ky, .int .u64 x.kz, .int .i64 x.inv, .int .i64 x.took, .int .i64 x.ans, .int .i64 x.st, .int .i64 x.re, .bool x.rf, .int .u64 x.rk, .int .u64 x.rv, .int .i64 x.rc] 45)).alloc (.cells #[.func (.func 40) #[.pointer (some ⟨w.heap.size + 1, 0, none⟩)] #[], .func (.func 41) #[.pointer (some ⟨w.heap.size + 1, 0, none⟩)] #[], .func (.func 42) #[.pointer (some ⟨w.heap.size + 1, 0, none⟩)] #[], .func (.func 43) #[.pointer (some ⟨w.heap.size + 1, 0, none⟩)] #[], .func (.func 44) #[.pointer (some ⟨w.heap.size + 1, 0, none⟩)] #[]] 77)) (by omega) (by omega) (by simp [go_sem]) (by simp [go_sem]) (by simp [go_sem]) (by simp [go_sem]) (by simp [go_sem]) hA1 k0 k1 hCs1 hx1 (by omega) hcm (HW.out x (List.mem_of_getElem? hx)) hM1
      rw [List.take_take, Nat.min_eq_left (by omega : k ≤ k + 1), five_good hrep.out] at hH
      have hsz3 : (((wr.setCell ⟨w.heap.size + 1, 0, none⟩ (.slice (some ⟨b, o, none⟩) (k + 1) c)).alloc (.cells #[.int .i64 x.th, .int .i64 x.ix, .int .u8 x.kd, .int .u64 x.ka, .int .u64 x.kb, .int .u64 x.kc, .int .u64 x.kx, .int .u64 x.ky, .int .u64 x.kz, .int .i64 x.inv, .int .i64 x.took, .int .i64 x.ans, .int .i64 x.st, .int .i64 x.re, .bool x.rf, .int .u64 x.rk, .int .u64 x.rv, .int .i64 x.rc] 45)).alloc (.cells #[.func (.func 40) #[.pointer (some ⟨w.heap.size + 1, 0, none⟩)] #[], .func (.func 41) #[.pointer (some ⟨w.heap.size + 1, 0, none⟩)] #[], .func (.func 42) #[.pointer (some ⟨w.heap.size + 1, 0, none⟩)] #[], .func (.func 43) #[.pointer (some ⟨w.heap.size + 1, 0, none⟩)] #[], .func (.func 44) #[.pointer (some ⟨w.heap.size + 1, 0, none⟩)] #[]] 77)).heap.size = wr.heap.size + 2 := by simp
      have HX := Lib.hid hx
      have HM1 := Lib.hid hM1
      have HK1 := Lib.hid k1
      have HK0 := Lib.hid k0
      have HKZ := Lib.hid kz
      have HN3 := Lib.hid hN3
      have HH := Lib.hid hH
      clear hnw hx hcx hcx0 hdr hCs1 hM1 hA1 k1 hx1 hH k0 kz hN3
      cases hg : goodP (l.take k) x with
      | true =>
        rw [hg] at HH
        have HG := Lib.hid hg
        clear hg
        go_wp2_with (go_at_call 39; refine HH.out.mono ?_; rintro e w' ⟨rfl, hf, hgr⟩; have HF := Lib.hid hf; have HGr := Lib.hid hgr; clear hf hgr)
        obtain ⟨f', hf', hm'⟩ := (show (true = true → _) from fun _ => HF.out trivial) rfl
        have hblk : w'.heap[w.heap.size + 1]? = _ := HGr.out.block (w.heap.size + 1) (by rw [hsz3]; omega) (by intro e; injection e with e; omega)
        refine ⟨⟨k + 1, f', by omega, by go_num, ?_, ?_, ?_, ⟨_, (World.cell?_of_block hblk).trans HK0.out⟩, (World.frozen?_of_block hblk).trans HKZ.out, (World.cell?_of_block hblk).trans HK1.out, HN3.out.row HGr.out (fun j e => by injection e with e; omega)⟩, by simp [intOf]; omega⟩
        · show _ = _
          rw [hbd.out, bad_step HX.out HG.out]
        · show Rep _ _
          obtain ⟨p1, q1⟩ := List.getElem?_eq_some_iff.1 HX.out
          rw [List.take_succ_eq_append_getElem p1, q1]
          exact rep_step hrep.out hf'
        · show MapAt _ _ _ _
          rw [show 3 * (k + 1) = 3 * k + 3 by omega]
          exact hm'
      | false =>
        rw [hg] at HH
        have HG := Lib.hid hg
        clear hg
        go_wp2_with (go_at_call 39; refine HH.out.mono ?_; rintro e w' ⟨rfl, hf, hgr⟩; have HF := Lib.hid hf; have HGr := Lib.hid hgr; clear hf hgr)
        refine bodyPost_ret (results_tmp2 rfl _ _ _) rfl ⟨?_, HN3.out.row HGr.out (fun j e => by injection e with e; omega)⟩
        rw [chkV, hbd.out, bad_stop HX.out HG.out]; rfl
    · have hkn : k = n := by omega
      go_wp2
      refine bodyPost_ret (results_tmp2 rfl _ _ _) rfl ⟨?_, hnw⟩
      rw [chkV, hbd.out, hkn, ← hlen, Nat.sub_self]; rfl
end Go.Proofs.YtkikdpdainmlcaaGreat
