import Derived.Test.YtjpgechcfkhoaaaM
namespace Go.Proofs.Ytjpgechcfkhoaaa
open Go.RowKit Go.Xt
/-- What the five conditions say of call x behind the calls p. -/
def fiveF (p : List Cl) (x : Cl) (f : Int → Option Int) : Bool := ordF p x && (effF x && (endF x && (aftF p x && (apRun x.th (sts x) f).isSome)))
set_option maxRecDepth 100000 in
set_option maxHeartbeats 8000000 in
theorem holds_any (fb cb kb mb m n cap : Nat) (A : Option Addr) (L : List Cl) (f : Int → Option Int) (x : Cl) (w : World) (hm : m ≤ 1000) (hn : n ≤ 1000000)
    (hf0 : w.cell? ⟨fb, 0, none⟩ = some (.func (.func 33) #[.pointer (some ⟨kb, 0, none⟩)] #[]))
    (hf1 : w.cell? ⟨fb, 1, none⟩ = some (.func (.func 34) #[.pointer (some ⟨kb, 0, none⟩)] #[]))
    (hf2 : w.cell? ⟨fb, 2, none⟩ = some (.func (.func 35) #[.pointer (some ⟨kb, 0, none⟩)] #[]))
    (hf3 : w.cell? ⟨fb, 3, none⟩ = some (.func (.func 36) #[.pointer (some ⟨kb, 0, none⟩)] #[]))
    (hf4 : w.cell? ⟨fb, 4, none⟩ = some (.func (.func 37) #[.pointer (some ⟨kb, 0, none⟩)] #[]))
    (hcx : AtC w cb 0 x) (hk0 : w.cell? ⟨kb, 0, none⟩ = some (.slice A (m + 1) cap)) (hk1 : w.cell? ⟨kb, 1, none⟩ = some (.map (some mb)))
    (hl : Cs w A (m + 1) L) (hx : L[m]? = some x) (hcap : m + 1 ≤ cap) (hcapm : cap ≤ 9223372036854775807) (hw : WfC x) (hM : MapAt w mb n f) :
    Calls Try.prog 32 #[.slice (some ⟨fb, 0, none⟩) 5 5, .pointer (some ⟨cb, 0, none⟩)] w fun e w' => e = .returned (.bool (fiveF (L.take m) x f)) ∧ (fiveF (L.take m) x f = true → ∃ f', apRun x.th (sts x) f = some f' ∧ MapAt w' mb (n + 3) f') ∧ w.grownBy w' (some mb) := by
  have lf := World.block_lt_of_cell? w _ hf0
  have lc := World.block_lt_of_cell? w _ hcx.1
  have lk := World.block_lt_of_cell? w _ hk0
  haveI : In fb w := ⟨lf⟩
  haveI : In cb w := ⟨lc⟩
  haveI : In kb w := ⟨lk⟩
  haveI : Off fb (some mb) := ⟨by intro e; injection e with e; exact hM.ne hf0 e⟩
  haveI : Off cb (some mb) := ⟨by intro e; injection e with e; exact hM.ne hcx.1 e⟩
  haveI : Off kb (some mb) := ⟨by intro e; injection e with e; exact hM.ne hk0 e⟩
  haveI : CallAt w cb 0 x := ⟨hcx, lc⟩
  have hkm : kb ≠ mb := hM.ne hk0
  have HO := Lib.hid (fun d => order_any kb m cap A L x (w.ext (some mb) d) hm (by rw [cell_ext]; exact hk0) (hl.extr hM d) hx hcap hcapm hw)
  have HE := Lib.hid (fun d => effect_any (.pointer (some ⟨kb, 0, none⟩)) x (w.ext (some mb) d))
  have HN := Lib.hid (fun d (hi : 0 ≤ x.inv) => end_any (.pointer (some ⟨kb, 0, none⟩)) x (w.ext (some mb) d) hw hi)
  have HA := Lib.hid (fun d => after_any kb m cap A L x (w.ext (some mb) d) hm (by rw [cell_ext]; exact hk0) (hl.extr hM d) hx hcap hcapm)
  have HP := Lib.hid (fun d (h : MapAt (w.ext (some mb) d) mb n f) => apart_any kb mb n f x (w.ext (some mb) d) (by rw [cell_ext]; exact hk1) h hn hkm hw)
  have HM := Lib.hid hM
  clear hl hx hcx hM hk0 hk1 hw
  go_enter Try.func32, Try.ntmps32
  go_wp2
  go_loopw [5, 8] (fun _ i wr => ∃ k : Nat, k ≤ 5 ∧ i = .int .i64 k ∧ (1 ≤ k → Hid (ordF (L.take m) x = true)) ∧ (2 ≤ k → Hid (effF x = true)) ∧ (3 ≤ k → Hid (endF x = true)) ∧ (4 ≤ k → Hid (aftF (L.take m) x = true)) ∧ (k ≤ 4 → Hid (MapAt wr mb n f)) ∧ (5 ≤ k → Hid (∃ f', apRun x.th (sts x) f = some f' ∧ MapAt wr mb (n + 3) f')) ∧ ∃ d, wr = w.ext (some mb) d) (fun _ i _ => 5 - (intOf i).toNat)
  case atStart => exact ⟨0, by omega, rfl, fun h => absurd h (by omega), fun h => absurd h (by omega), fun h => absurd h (by omega), fun h => absurd h (by omega), fun _ => HM, fun h => absurd h (by omega), w, (ext_of (gref _ _)).symm⟩
  case round =>
    obtain ⟨k, hk, rfl, t1, t2, t3, t4, t5, t6, d, rfl⟩ := hrel
    have hk' : k = 0 ∨ k = 1 ∨ k = 2 ∨ k = 3 ∨ k = 4 ∨ k = 5 := by omega
    have hjoin : ∀ (d dW : World), ∃ d', (w.ext (some mb) d).ext none dW = w.ext (some mb) d' := fun d dW => ⟨_, (ext_of (grownBy_trans (gext w (some mb) d) (gext _ none dW).widen)).symm⟩
    rcases hk' with rfl | rfl | rfl | rfl | rfl | rfl
    · have T5 := t5 (by omega)
      clear t1 t2 t3 t4 t5 t6
      by_cases hc : ordF (L.take m) x = true
      · rw [hc] at HO
        have H := Lib.hid hc
        clear hc
        go_wp2_with (go_at_call 33; refine (HO.out _).mono ?_; rintro e w' ⟨rfl, dW, rfl⟩)
        refine ⟨⟨1, by omega, by go_num, fun _ => H, fun h => absurd h (by omega), fun h => absurd h (by omega), fun h => absurd h (by omega), fun _ => ?_, fun h => absurd h (by omega), hjoin d dW⟩, by simp [intOf]⟩
        exact T5.out.kept (gext _ none dW) (by simp)
      · have hc : ordF (L.take m) x = false := by simpa using hc
        rw [hc] at HO
        have H := Lib.hid hc
        clear hc
        go_wp2_with (go_at_call 33; refine (HO.out _).mono ?_; rintro e w' ⟨rfl, dW, rfl⟩)
        have h5 : fiveF (L.take m) x f = false := by rw [fiveF, H.out]; simp
        refine bodyPost_ret (results_tmp rfl _ _ _) rfl ⟨by rw [h5]; rfl, (fun h => by rw [h5] at h; cases h), ?_⟩
        exact grownBy_trans (gext w (some mb) d) (gext _ none dW).widen
    · have T5 := t5 (by omega)
      have T1 := t1 (by omega)
      clear t1 t2 t3 t4 t5 t6
      by_cases hc : effF x = true
      · rw [hc] at HE
        have H := Lib.hid hc
        clear hc
        go_wp2_with (go_at_call 34; refine (HE.out _).mono ?_; rintro e w' ⟨rfl, dW, rfl⟩)
        refine ⟨⟨2, by omega, by go_num, fun _ => T1, fun _ => H, fun h => absurd h (by omega), fun h => absurd h (by omega), fun _ => ?_, fun h => absurd h (by omega), hjoin d dW⟩, by simp [intOf]⟩
        exact T5.out.kept (gext _ none dW) (by simp)
      · have hc : effF x = false := by simpa using hc
        rw [hc] at HE
        have H := Lib.hid hc
        clear hc
        go_wp2_with (go_at_call 34; refine (HE.out _).mono ?_; rintro e w' ⟨rfl, dW, rfl⟩)
        have h5 : fiveF (L.take m) x f = false := by rw [fiveF, H.out, T1.out]; simp
        refine bodyPost_ret (results_tmp rfl _ _ _) rfl ⟨by rw [h5]; rfl, (fun h => by rw [h5] at h; cases h), ?_⟩
        exact grownBy_trans (gext w (some mb) d) (gext _ none dW).widen
    · have T5 := t5 (by omega)
      have T1 := t1 (by omega)
      have T2 := t2 (by omega)
      have hinv : 0 ≤ x.inv := by have h := T1.out; simp [ordF] at h; omega
      clear t1 t2 t3 t4 t5 t6
      by_cases hc : endF x = true
      · rw [hc] at HN
        have H := Lib.hid hc
        clear hc
        go_wp2_with (go_at_call 35; refine (HN.out _ hinv).mono ?_; rintro e w' ⟨rfl, dW, rfl⟩)
        refine ⟨⟨3, by omega, by go_num, fun _ => T1, fun _ => T2, fun _ => H, fun h => absurd h (by omega), fun _ => ?_, fun h => absurd h (by omega), hjoin d dW⟩, by simp [intOf]⟩
        exact T5.out.kept (gext _ none dW) (by simp)
      · have hc : endF x = false := by simpa using hc
        rw [hc] at HN
        have H := Lib.hid hc
        clear hc
        go_wp2_with (go_at_call 35; refine (HN.out _ hinv).mono ?_; rintro e w' ⟨rfl, dW, rfl⟩)
        have h5 : fiveF (L.take m) x f = false := by rw [fiveF, H.out, T1.out, T2.out]; simp
        refine bodyPost_ret (results_tmp rfl _ _ _) rfl ⟨by rw [h5]; rfl, (fun h => by rw [h5] at h; cases h), ?_⟩
        exact grownBy_trans (gext w (some mb) d) (gext _ none dW).widen
    · have T5 := t5 (by omega)
      have T1 := t1 (by omega)
      have T2 := t2 (by omega)
      have T3 := t3 (by omega)
      have hinv : 0 ≤ x.inv := by have h := T1.out; simp [ordF] at h; omega
      clear t1 t2 t3 t4 t5 t6
      by_cases hc : aftF (L.take m) x = true
      · rw [hc] at HA
        have H := Lib.hid hc
        clear hc
        go_wp2_with (go_at_call 36; refine (HA.out _).mono ?_; rintro e w' ⟨rfl, dW, rfl⟩)
        refine ⟨⟨4, by omega, by go_num, fun _ => T1, fun _ => T2, fun _ => T3, fun _ => H, fun _ => ?_, fun h => absurd h (by omega), hjoin d dW⟩, by simp [intOf]⟩
        exact T5.out.kept (gext _ none dW) (by simp)
      · have hc : aftF (L.take m) x = false := by simpa using hc
        rw [hc] at HA
        have H := Lib.hid hc
        clear hc
        go_wp2_with (go_at_call 36; refine (HA.out _).mono ?_; rintro e w' ⟨rfl, dW, rfl⟩)
        have h5 : fiveF (L.take m) x f = false := by rw [fiveF, H.out, T1.out, T2.out, T3.out]; simp
        refine bodyPost_ret (results_tmp rfl _ _ _) rfl ⟨by rw [h5]; rfl, (fun h => by rw [h5] at h; cases h), ?_⟩
        exact grownBy_trans (gext w (some mb) d) (gext _ none dW).widen
    · have T5 := t5 (by omega)
      have T1 := t1 (by omega)
      have T2 := t2 (by omega)
      have T3 := t3 (by omega)
      have T4 := t4 (by omega)
      have hinv : 0 ≤ x.inv := by have h := T1.out; simp [ordF] at h; omega
      clear t1 t2 t3 t4 t5 t6
      by_cases hc : (apRun x.th [x.inv, x.took, x.ans] f).isSome = true
      · rw [hc] at HP
        have H := Lib.hid hc
        clear hc
        go_wp2_with (go_at_call 37; refine (HP.out _ T5.out).mono ?_; rintro e w' ⟨rfl, hmap, hgr⟩; obtain ⟨d2, rfl⟩ : ∃ d2, w' = w.ext (some mb) d2 := ⟨_, (ext_of (grownBy_trans (gext w (some mb) d) hgr)).symm⟩; have HMap := Lib.hid hmap; clear hmap hgr)
        refine ⟨⟨5, by omega, by go_num, fun _ => T1, fun _ => T2, fun _ => T3, fun _ => T4, fun h => absurd h (by omega), fun _ => ?_, d2, rfl⟩, by simp [intOf]⟩
        show ∃ _, _
        obtain ⟨f1, hf1⟩ := Option.isSome_iff_exists.1 H.out
        exact ⟨f1, hf1, HMap.out f1 hf1⟩
      · have hc : (apRun x.th [x.inv, x.took, x.ans] f).isSome = false := by simpa using hc
        rw [hc] at HP
        have H := Lib.hid hc
        clear hc
        go_wp2_with (go_at_call 37; refine (HP.out _ T5.out).mono ?_; rintro e w' ⟨rfl, hmap, hgr⟩; obtain ⟨d2, rfl⟩ : ∃ d2, w' = w.ext (some mb) d2 := ⟨_, (ext_of (grownBy_trans (gext w (some mb) d) hgr)).symm⟩; have HMap := Lib.hid hmap; clear hmap hgr)
        have h5 : fiveF (L.take m) x f = false := by
          have h6 : (apRun x.th (sts x) f).isSome = false := H.out
          rw [fiveF, h6, T1.out, T2.out, T3.out, T4.out]; rfl
        refine bodyPost_ret (results_tmp rfl _ _ _) rfl ⟨by rw [h5]; rfl, (fun h => by rw [h5] at h; cases h), gext _ _ _⟩
    · have T6 := t6 (by omega)
      have T1 := t1 (by omega)
      have T2 := t2 (by omega)
      have T3 := t3 (by omega)
      have T4 := t4 (by omega)
      clear t1 t2 t3 t4 t5 t6
      go_wp2
      obtain ⟨f1, hf1, hm1⟩ := T6.out
      have h5 : fiveF (L.take m) x f = true := by rw [fiveF, hf1, T1.out, T2.out, T3.out, T4.out]; rfl
      refine bodyPost_ret (results_tmp rfl _ _ _) rfl ⟨by rw [h5]; rfl, fun _ => ⟨f1, hf1, hm1⟩, gext _ _ _⟩
end Go.Proofs.Ytjpgechcfkhoaaa
