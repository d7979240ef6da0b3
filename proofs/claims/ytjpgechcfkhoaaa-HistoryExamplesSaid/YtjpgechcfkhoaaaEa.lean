import Derived.Test.YtjpgechcfkhoaaaZ
namespace Go.Proofs.Ytjpgechcfkhoaaa
open Go.RowKit Go.Xt Go.Shelf Go.Sort
def natI (l : List Nat) : List Int := l.map fun i : Nat => (i : Int)
theorem natI_app (a b : List Nat) : natI (a ++ b) = natI a ++ natI b := by simp [natI]
def chkE (l : List Cl) : Int := if bad l = none then 0 else 15
def EffP (l : List Cl) (ys : List Nat) : Prop := (bad l = none → IsEff l ys) ∧ (bad l ≠ none → ys = [])
set_option maxRecDepth 20000 in
set_option maxHeartbeats 4000000 in
theorem effects_any (A : Option Addr) (n c : Nat) (l : List Cl) (w : World) (hn : n ≤ 1000) (hc : n ≤ c) (hcm : c ≤ 9223372036854775807) (hl : Cs w A n l) (hw : ∀ y ∈ l, WfC y) :
    Calls Try.prog 17 #[.slice A n c] w fun e w' => ∃ v ys, e = .returned (.tuple #[v, .int .i64 (chkE l)]) ∧ EffP l ys ∧ OwnI w' w.heap.size v (natI ys) ∧ Nw w w' := by
  obtain ⟨W1, hW1⟩ : ∃ W1, W1 = (w.alloc (.cells #[.slice A n c] 22)) := ⟨_, rfl⟩
  have hnw : Nw w W1 := by rw [hW1]; exact (by repeat (first | exact Xt.Nw.refl _ | refine Xt.Nw.drew ?_ | refine Xt.Nw.drewN ?_ _ | refine Xt.Nw.alloc ?_ _ | refine Xt.Nw.joined ?_ | refine Xt.Nw.drewd ?_ | refine Xt.Nw.drewdN ?_ | refine Xt.Nw.ext ?_ | refine Xt.Nw.ext_some ?_ (by assumption) | refine Xt.Nw.setCell ?_ (by simp [go_sem] <;> omega) _))
  have hcell : W1.cell? ⟨w.heap.size, 0, none⟩ = some (.slice A n c) := by rw [hW1]; simp [go_sem]
  have hsz : W1.heap.size = w.heap.size + 1 := by rw [hW1]; simp
  have hB : ∀ b o, A = some ⟨b, o, none⟩ → 0 < n → b < w.heap.size := fun b o e hp => by
    obtain ⟨b', o', rfl, hb, _⟩ := hl.2 hp
    injection e with e; injection e with e1 e2; omega
  have HK := Lib.hid (check_any A n c l W1 hn hc hcm (hl.nw hnw) hw)
  have HL := Lib.hid (hl.nw hnw)
  have hlen := hl.1
  have HW := Lib.hid hw
  have HB := Lib.hid hB
  have HW1 := Lib.hid hW1
  have HN := Lib.hid hnw
  have HS := Lib.hid hsz
  clear hl hw hW1 hnw hB hsz
  haveI : In w.heap.size W1 := ⟨by have := HS.out; omega⟩
  rcases chk_cases l with ⟨hb, hv⟩ | ⟨i, hb, hv⟩
  · rw [hv] at HK
    have HBD := Lib.hid hb
    have hE : chkE l = 0 := by simp [chkE, hb]
    rw [hE]
    clear hb hv hE
    go_enter Try.func17, Try.ntmps17
    go_wp2_with (go_at_call 11; rw [← HW1.out]; refine (HK.out).mono ?_; rintro e w' ⟨rfl, dW, rfl⟩)
    go_loopw [6, 7, 8, 19] (fun a _ _ i wr => ∃ k : Nat, k ≤ n ∧ i = .int .i64 k ∧ OwnI wr W1.heap.size a (natI (idxK l k)) ∧ Nw W1 wr) (fun _ _ _ i _ => n - (intOf i).toNat)
    case atStart => exact ⟨0, by omega, rfl, World.ownsRow_nil _ _ _ _, (by repeat (first | exact Xt.Nw.refl _ | refine Xt.Nw.drew ?_ | refine Xt.Nw.drewN ?_ _ | refine Xt.Nw.alloc ?_ _ | refine Xt.Nw.joined ?_ | refine Xt.Nw.drewd ?_ | refine Xt.Nw.drewdN ?_ | refine Xt.Nw.ext ?_ | refine Xt.Nw.ext_some ?_ (by assumption) | refine Xt.Nw.setCell ?_ (by simp [go_sem] <;> omega) _))⟩
    case round =>
      obtain ⟨k, hk, rfl, hown, d, rfl⟩ := hrel
      by_cases hlt : k < n
      · obtain ⟨b, o, x, rfl, hb, hx, hcx⟩ := HL.out.get hlt
        haveI : CallAt W1 b (o + k * 18) x := ⟨hcx, hb⟩
        have hP := Lib.hid (idxK_succ hx)
        have hle : (natI (idxK l k)).length ≤ k := by rw [natI, List.length_map]; exact idxK_len l k
        have hkn : (k : Int) < (n : Int) := by omega
        clear hx hcx
        by_cases h0 : 0 ≤ x.took
        · have hd : decide (0 ≤ x.took) = true := by simpa using h0
          go_wp2_with (at_builtin; refine wpList_app1 rfl _ _ 30 rfl 3 (.int .i64 0) 1 8 Try.underlying30 intInfo rfl (by decide) (W1) _ (by repeat (first | exact Xt.Nw.refl _ | refine Xt.Nw.drew ?_ | refine Xt.Nw.drewN ?_ _ | refine Xt.Nw.alloc ?_ _ | refine Xt.Nw.joined ?_ | refine Xt.Nw.drewd ?_ | refine Xt.Nw.drewdN ?_ | refine Xt.Nw.ext ?_ | refine Xt.Nw.ext_some ?_ (by assumption) | refine Xt.Nw.setCell ?_ (by simp [go_sem] <;> omega) _)) _ _ _ rfl (by first | assumption | exact own_nw (by assumption) (by repeat (first | exact Xt.Nw.refl _ | refine Xt.Nw.drew ?_ | refine Xt.Nw.drewN ?_ _ | refine Xt.Nw.alloc ?_ _ | refine Xt.Nw.joined ?_ | refine Xt.Nw.drewd ?_ | refine Xt.Nw.drewdN ?_ | refine Xt.Nw.ext ?_ | refine Xt.Nw.ext_some ?_ (by assumption) | refine Xt.Nw.setCell ?_ (by simp [go_sem] <;> omega) _))) _ 1 1 _ _ rfl (by first | rfl | simp) rfl (by intro u hu; simp at hu; (repeat' rcases hu with rfl | hu) <;> first | rfl | (subst hu; rfl)) (by unfold maxLen; omega) (by omega) ?_; intro vA dA hownA)
          refine ⟨⟨k + 1, by omega, by go_num, OwnI.cast hownA (by rw [hP.out]; simp [h0, natI]) (by rw [hP.out, if_pos h0, natI_app]; simp [ints, natI]), ⟨_, rfl⟩⟩, by simp [intOf]; omega⟩
        · have hd : decide (0 ≤ x.took) = false := by simpa using h0
          go_wp2
          refine ⟨⟨k + 1, by omega, by go_num, OwnI.cast (own_nw hown ((by repeat (first | exact Xt.Nw.refl _ | refine Xt.Nw.drew ?_ | refine Xt.Nw.drewN ?_ _ | refine Xt.Nw.alloc ?_ _ | refine Xt.Nw.joined ?_ | refine Xt.Nw.drewd ?_ | refine Xt.Nw.drewdN ?_ | refine Xt.Nw.ext ?_ | refine Xt.Nw.ext_some ?_ (by assumption) | refine Xt.Nw.setCell ?_ (by simp [go_sem] <;> omega) _)))) (by rw [hP.out]; simp [h0, natI]) (by rw [hP.out]; simp [h0]), (by repeat (first | exact Xt.Nw.refl _ | refine Xt.Nw.drew ?_ | refine Xt.Nw.drewN ?_ _ | refine Xt.Nw.alloc ?_ _ | refine Xt.Nw.joined ?_ | refine Xt.Nw.drewd ?_ | refine Xt.Nw.drewdN ?_ | refine Xt.Nw.ext ?_ | refine Xt.Nw.ext_some ?_ (by assumption) | refine Xt.Nw.setCell ?_ (by simp [go_sem] <;> omega) _))⟩, by simp [intOf]; omega⟩
      · have hkn : k = n := by omega
        subst hkn
        have hcl := HL.out.ext d
        have hcell' : (W1.ext none d).cell? ⟨w.heap.size, 0, none⟩ = some (.slice A k c) := by rw [cell_ext]; exact hcell
        rcases hown.2 with ⟨rfl, h0⟩ | ⟨g, cap, cur, hu, hgb, hgg, hgn, hgm, _, _⟩
        · have hnil : idxK l k = [] := by rw [← List.length_eq_zero_iff, ← h0]; simp [natI]
          have hE : IsEff l [] := by
            have h1 := eff_of HBD.out (ys := []) (by rw [hlen, hnil]) (by simp)
            exact h1
          have HE := Lib.hid (show EffP l [] from ⟨fun _ => hE, fun h => absurd HBD.out h⟩)
          clear hown h0 hnil hE hcl
          go_wp2_with (go_at_call 40; refine (sort_nil _ _ _ _).mono ?_; rintro e w' ⟨rfl, rfl⟩)
          refine bodyPost_ret (results_tmp2 rfl _ _ _) rfl ⟨.slice none 0 0, [], rfl, HE.out, World.ownsRow_nil _ _ _ _, HN.out.trans ⟨_, rfl⟩⟩
        · obtain ⟨m, hm⟩ : ∃ m, (natI (idxK l k)).length = m := ⟨_, rfl⟩
          have hml : (idxK l k).length = m := by rw [← hm]; simp [natI]
          have hmk : m ≤ k := by rw [← hml]; exact idxK_len l k
          have hown' : (W1.ext none d).ownsRow W1.heap.size 3 1 u6 m (ints (natI (idxK l k))) := by rw [← hm]; exact hown
          rw [hm] at hu
          subst hu
          have hns := HS.out
          have hfin : ∀ ys : List Nat, ys.Perm (idxK l k) → ys.Pairwise (fun i j => tk l i ≤ tk l j) → EffP l ys := fun ys h1 h2 => ⟨fun _ => eff_of HBD.out (by rw [hlen]; exact h1) h2, fun h => absurd HBD.out h⟩
          have HF := Lib.hid hfin
          by_cases hm0 : m = 0
          · subst hm0
            have hnil : idxK l k = [] := List.eq_nil_of_length_eq_zero hml
            have hown2 : OwnI (W1.ext none d) W1.heap.size (.slice (some ⟨g, 0, none⟩) 0 cap) (natI []) := OwnI.cast hown' (by simp [natI]) (by rw [hnil])
            have hP : EffP l [] := hfin [] (by rw [hnil]) (by simp)
            have HP2 := Lib.hid hP
            have HSZ := Lib.hid HN.out.grown.size
            clear hown hown' hgg hcl hfin hnil hP
            go_wp2_with (go_at_call 40; refine (sort_nil _ _ _ _).mono ?_; rintro e w' ⟨rfl, rfl⟩)
            refine bodyPost_ret (results_tmp2 rfl _ _ _) rfl ⟨_, [], rfl, HP2.out, own_le hown2 HSZ.out, HN.out.trans ⟨_, rfl⟩⟩
          · obtain ⟨b, o, rfl, hb, hc0⟩ := hcl.2 (by omega)
            have hbw := HB.out b o rfl (by omega)
            have hsrt := sort_any W1.heap.size g m cap w.heap.size b o k c l (idxK l k) (W1.ext none d) hn hcl HW.out (fun i hi => ((idxK_mem l k i).1 hi).2) (fun h => hm0 (by rw [← hml, h]; rfl)) hml (by omega) hcell' (by omega) (by omega) hown'
            have HSR := Lib.hid hsrt
            have HSZ := Lib.hid HN.out.grown.size
            clear hown hown' hgg hcl hc0 hfin hsrt
            go_wp2_with (go_at_call 40; refine HSR.out.mono ?_; rintro e w' ⟨rfl, ys, hp, hs, hown2, hgrow⟩)
            have hP := HF.out ys hp hs
            obtain ⟨d2, rfl⟩ : Nw W1 w' := (show Nw W1 (W1.ext none d) from ⟨_, rfl⟩).row hgrow (fun q hq => by injection hq with hq; subst hq; exact hgb)
            have hown3 : OwnI (W1.ext none d2) W1.heap.size (.slice (some ⟨g, 0, none⟩) m cap) (natI ys) := OwnI.cast hown2 (by rw [natI, List.length_map, hp.length_eq, hml]) rfl
            clear hown2 hgrow
            have HP2 := Lib.hid hP
            clear hp hs hP
            go_wp2
            refine bodyPost_ret (results_tmp2 rfl _ _ _) rfl ⟨_, ys, rfl, HP2.out, own_le hown3 HSZ.out, HN.out.trans ⟨_, rfl⟩⟩
  · rw [hv] at HK
    have hE : chkE l = 15 := by simp [chkE, hb]
    have hP : EffP l [] := ⟨fun h => absurd (hb.symm.trans h) (by simp), fun _ => rfl⟩
    rw [hE]
    have HP := Lib.hid hP
    clear hb hv hE hP
    go_enter Try.func17, Try.ntmps17
    go_wp2_with (go_at_call 11; rw [← HW1.out]; refine (HK.out).mono ?_; rintro e w' ⟨rfl, dW, rfl⟩)
    refine bodyPost_ret (results_tmp2 rfl _ _ _) rfl ⟨.slice none 0 0, [], rfl, HP.out, World.ownsRow_nil _ _ _ _, HN.out.trans ⟨_, rfl⟩⟩
end Go.Proofs.Ytjpgechcfkhoaaa
