import Derived.Test.YtdhinclpmmpkhaaJ
import Derived.Test.YtdhinclpmmpkhaaLib2
namespace Go.Proofs.Ytdhinclpmmpkhaa
open Go.RowKit Go.Xt
theorem join_len : ∀ (l : List (Int × Int)) (s : Int × Int), (Nm.join l s).2.length ≤ l.length
  | [], s => by simp [Nm.join]
  | o :: l, s => by
    unfold Nm.join
    split
    · have := join_len l (Nm.hull o s); simp; omega
    · have := join_len l s; simp; omega
theorem put_len : ∀ (l : List (Int × Int)) (s : Int × Int), (Nm.put l s).length = l.length + 1
  | [], s => by simp [Nm.put]
  | o :: l, s => by
    unfold Nm.put
    split
    · simp
    · simp [put_len l s]
theorem add_len (out : List (Int × Int)) (s : Int × Int) : (Nm.add out s).length ≤ out.length + 1 := by
  unfold Nm.add; rw [put_len]; have := join_len out s; omega
theorem fold_len : ∀ (l out : List (Int × Int)), (l.foldl Nm.add out).length ≤ out.length + l.length
  | [], out => by simp
  | s :: l, out => by
    rw [List.foldl_cons]
    have := fold_len l (Nm.add out s)
    have := add_len out s
    simp; omega
def Bs (s : Int × Int) : Prop := 0 ≤ s.1 ∧ 0 ≤ s.2 ∧ s.1 ≤ 18446744073709551615 ∧ s.2 ≤ 18446744073709551615
theorem hull_bd {a b : Int × Int} (ha : Bs a) (hb : Bs b) : Bs (Nm.hull a b) := by
  unfold Bs at *
  simp only [Nm.hull, Nm.mn, Nm.mx]
  (repeat' split) <;> omega
theorem join_bd : ∀ (l : List (Int × Int)) (s : Int × Int), Bd l → Bs s → Bs (Nm.join l s).1 ∧ Bd (Nm.join l s).2
  | [], s, hl, hs => ⟨hs, hl⟩
  | o :: l, s, hl, hs => by
    have ho : Bs o := hl o (by simp)
    have hl' : Bd l := fun u hu => hl u (List.mem_cons_of_mem _ hu)
    unfold Nm.join
    split
    · exact join_bd l _ hl' (hull_bd ho hs)
    · refine ⟨(join_bd l s hl' hs).1, fun u hu => ?_⟩
      rcases List.mem_cons.1 hu with rfl | hu
      · exact ho
      · exact (join_bd l s hl' hs).2 u hu
theorem put_mem : ∀ (l : List (Int × Int)) (s u : Int × Int), u ∈ Nm.put l s → u = s ∨ u ∈ l
  | [], s, u, h => by simpa [Nm.put] using h
  | o :: l, s, u, h => by
    unfold Nm.put at h
    split at h
    · simpa using h
    · rcases List.mem_cons.1 h with rfl | h
      · exact .inr (by simp)
      · rcases put_mem l s u h with h | h
        · exact .inl h
        · exact .inr (List.mem_cons_of_mem _ h)
theorem fold_bd : ∀ (l out : List (Int × Int)), Bd l → Bd out → Bd (l.foldl Nm.add out)
  | [], _, _, h => h
  | s :: l, out, hl, ho => by
    rw [List.foldl_cons]
    refine fold_bd l _ (fun u hu => hl u (List.mem_cons_of_mem _ hu)) fun u hu => ?_
    obtain ⟨j1, j2⟩ := join_bd out s ho (hl s (by simp))
    rcases put_mem _ _ _ hu with rfl | h
    · exact j1
    · exact j2 u h
/-- The inner loop of the reference, from the front: the state behind the elements read so far. -/
def jst (a : (Int × Int) × List (Int × Int)) (o : Int × Int) : (Int × Int) × List (Int × Int) := if Nm.touch o a.1 then (Nm.hull o a.1, a.2) else (a.1, a.2 ++ [o])
theorem jst_join : ∀ (l : List (Int × Int)) (s : Int × Int) (r : List (Int × Int)), l.foldl jst (s, r) = ((Nm.join l s).1, r ++ (Nm.join l s).2)
  | [], s, r => by simp [Nm.join]
  | o :: l, s, r => by
    rw [List.foldl_cons]
    by_cases h : Nm.touch o s = true
    · have : jst (s, r) o = (Nm.hull o s, r) := by simp [jst, h]
      rw [this, jst_join l _ r, Nm.join, if_pos h]
    · have : jst (s, r) o = (s, r ++ [o]) := by simp [jst, h]
      rw [this, jst_join l s _, Nm.join, if_neg h]; simp
theorem jst_len : ∀ (l : List (Int × Int)) (a : (Int × Int) × List (Int × Int)), (l.foldl jst a).2.length ≤ a.2.length + l.length
  | [], a => by simp
  | o :: l, a => by
    rw [List.foldl_cons]
    have := jst_len l (jst a o)
    have h2 : (jst a o).2.length ≤ a.2.length + 1 := by unfold jst; split <;> simp
    simp only [List.length_cons]; omega
theorem jst_ok : ∀ (l : List (Int × Int)) (a : (Int × Int) × List (Int × Int)), Bd l → (∀ s ∈ l, s.1 ≤ s.2) → Bs a.1 → a.1.1 ≤ a.1.2 → Bs (l.foldl jst a).1 ∧ (l.foldl jst a).1.1 ≤ (l.foldl jst a).1.2
  | [], a, _, _, h1, h2 => ⟨h1, h2⟩
  | o :: l, a, hb, hv, h1, h2 => by
    rw [List.foldl_cons]
    have ho : Bs o := hb o (by simp)
    have hov := hv o (by simp)
    refine jst_ok l _ (fun u hu => hb u (List.mem_cons_of_mem _ hu)) (fun u hu => hv u (List.mem_cons_of_mem _ hu)) ?_ ?_
    · unfold jst; split
      · exact hull_bd ho h1
      · exact h1
    · unfold jst; split
      · exact (Nm.hull_valid o a.1 hov h2).1
      · exact h2
theorem hullF_eq (a b : Int × Int) (ha : a.1 ≤ a.2) (hb : b.1 ≤ b.2) : hullF a.1 a.2 b.1 b.2 = ((Nm.hull a b).1, (Nm.hull a b).2, 0) := by
  unfold hullF
  rw [if_neg (by omega)]
  rfl
set_option maxHeartbeats 1000000 in
theorem rnorm_bad (A : Option Addr) (n c : Nat) (l : List (Int × Int)) (w : World) (hn : n ≤ 1000) (hl : Sp w A n l) (hok : Ok l = false) :
    Calls Try.prog 28 #[.slice A n c] w fun e w' => e = .returned (.tuple #[.slice none 0 0, .int .i64 13]) ∧ Nw w w' := by
  have hv := fun w hl => all_any A n c l w (by omega) hl
  rw [hok] at hv
  have HL := Lib.hid hl
  clear hl hok
  have HV := Lib.hid hv
  clear hv
  go_enter Try.func28, Try.ntmps28
  go_wp2_with ((go_at_call 40; refine (HV.out _ HL.out).mono ?_; rintro e w' ⟨rfl, dW, rfl⟩))
  go_ret2
  exact ⟨rfl, (by repeat (first | exact Xt.Nw.refl _ | refine Xt.Nw.drew ?_ | refine Xt.Nw.drewN ?_ _ | refine Xt.Nw.alloc ?_ _ | refine Xt.Nw.joined ?_ | refine Xt.Nw.drewd ?_ | refine Xt.Nw.drewdN ?_ | refine Xt.Nw.ext ?_ | refine Xt.Nw.ext_some ?_ (by assumption) | refine Xt.Nw.setCell ?_ (by simp [go_sem] <;> omega) _))⟩
set_option maxHeartbeats 1000000 in
theorem rnorm_ok (A : Option Addr) (n c : Nat) (l : List (Int × Int)) (w : World) (hn : n ≤ 400) (hl : Sp w A n l) (hok : Ok l = true) (hb : Bd l) :
    Calls Try.prog 28 #[.slice A n c] w (NormPost w (Nm.norm l)) := by
  have hv := fun w hl => all_any A n c l w (by omega) hl
  rw [hok] at hv
  have HL := Lib.hid hl
  have HB := Lib.hid hb
  have HK := Lib.hid ((ok_iff l).1 hok)
  clear hl hok hb
  have HV := Lib.hid hv
  clear hv
  go_enter Try.func28, Try.ntmps28
  go_wp2_with ((go_at_call 40; refine (HV.out _ HL.out).mono ?_; rintro e w' ⟨rfl, dW, rfl⟩))
  go_loopw [4, 5] (fun a i wr => ∃ (k : Nat), k ≤ n ∧ i = .int .i64 k ∧ wr.ownsRow w.heap.size 24 2 a ((l.take k).foldl Nm.add []).length (cells ((l.take k).foldl Nm.add [])) ∧ Nw w wr) (fun _ i _ => n - (intOf i).toNat)
  case atStart => exact ⟨0, Nat.zero_le _, rfl, World.ownsRow_nil _ _ _ _, ⟨_, rfl⟩⟩
  case round =>
    obtain ⟨k, hk, rfl, hown, d, rfl⟩ := hrel
    by_cases hlt : k < n
    · obtain ⟨b, o, lo, hi, rfl, hb, hx, c0, c1⟩ := HL.out.get hlt
      have hstep : Hid ((l.take (k + 1)).foldl Nm.add [] = Nm.add ((l.take k).foldl Nm.add []) (lo, hi)) := by
        show _ = _
        obtain ⟨p1, q1⟩ := List.getElem?_eq_some_iff.1 hx
        rw [List.take_succ_eq_append_getElem p1, List.foldl_append, q1]; rfl
      have hxm := List.mem_of_getElem? hx
      have hsb : Hid (Bs (lo, hi)) := HB.out _ hxm
      have hsv : Hid (lo ≤ hi) := HK.out _ hxm
      have hmem : ∀ s ∈ l.take k, s ∈ l := fun s hs => List.mem_of_mem_take hs
      have hon := Nm.norm_go (l.take k) [] trivial (fun s hs => HK.out s (hmem s hs))
      have hOB := Lib.hid (fold_bd (l.take k) [] (fun s hs => HB.out s (hmem s hs)) (fun s hs => by cases hs))
      have hON := Lib.hid hon.1
      have holen : ((l.take k).foldl Nm.add []).length ≤ n := by
        have h1 := fold_len (l.take k) []
        have h2 : (l.take k).length ≤ k := List.length_take_le _ _
        simp at h1; omega
      clear hx hxm hmem hon
      generalize (l.take k).foldl Nm.add [] = out at *
      obtain ⟨A', c', rfl, hsp⟩ := Own.form hown
      have HSP := Lib.hid hsp
      clear hsp hown
      go_wp2
      go_loopw [7, 8] (fun a i wr => ∃ (q : Nat) (rest : List (Int × Int)) (s1 s2 : Int), q ≤ out.length ∧ i = .int .i64 q ∧ (out.take q).foldl jst ((lo, hi), []) = ((s1, s2), rest) ∧ wr.ownsRow ((w.ext none d).alloc (.cells #[.int .u64 s1, .int .u64 s2] 24)).heap.size 24 2 a rest.length (cells rest) ∧ Nw ((w.ext none d).alloc (.cells #[.int .u64 s1, .int .u64 s2] 24)) wr) (fun _ i _ => out.length - (intOf i).toNat)
      case atStart => exact ⟨0, [], lo, hi, Nat.zero_le _, rfl, rfl, World.ownsRow_nil _ _ _ _, Nw.refl _⟩
      case round =>
        obtain ⟨q, rest, s1, s2, hq, rfl, hf, hown2, d2, rfl⟩ := hrel
        have hrl : rest.length ≤ out.length := by
          have h1 := jst_len (out.take q) ((lo, hi), [])
          rw [hf] at h1
          have h2 : (out.take q).length ≤ q := List.length_take_le _ _
          simp at h1; omega
        have hvo := hON.out.valid
        have hsok := jst_ok (out.take q) ((lo, hi), []) (fun s hs => hOB.out s (List.mem_of_mem_take hs)) (fun s hs => hvo s (List.mem_of_mem_take hs)) hsb.out hsv.out
        rw [hf] at hsok
        obtain ⟨⟨e1, e2, e3, e4⟩, e5⟩ := hsok
        simp only at e1 e2 e3 e4 e5
        have HF := Lib.hid hf
        clear hf hvo
        by_cases hlt2 : q < out.length
        · obtain ⟨b', o', t1, t2, rfl, hb', hx', f0, f1⟩ := HSP.out.get hlt2
          have hstep2 : Hid ((out.take (q + 1)).foldl jst ((lo, hi), []) = jst ((s1, s2), rest) (t1, t2)) := by
            show _ = _
            obtain ⟨p1, q1⟩ := List.getElem?_eq_some_iff.1 hx'
            rw [List.take_succ_eq_append_getElem p1, List.foldl_append, HF.out, q1]; rfl
          have hm' := List.mem_of_getElem? hx'
          have htv := hON.out.valid _ hm'
          obtain ⟨g1, g2, g3, g4⟩ := hOB.out _ hm'
          simp only at htv g1 g2 g3 g4
          clear hx' hm'
          have hto := fun w => touch_any t1 t2 s1 s2 w htv e5 g1 e1 g4 e4
          have hhu := fun w => rhull_any t1 t2 s1 s2 w
          rw [hullF_eq (t1, t2) (s1, s2) htv e5] at hhu
          cases htt : Nm.touch (t1, t2) (s1, s2) with
          | true =>
            rw [htt] at hto
            have HJ : Hid (jst ((s1, s2), rest) (t1, t2) = (Nm.hull (t1, t2) (s1, s2), rest)) := by show _ = _; simp [jst, htt]
            have HTO := Lib.hid hto
            have HHU := Lib.hid hhu
            clear hto hhu htt
            go_wp2
            (refine wp_region_nw (by kernel_rfl) (by kernel_rfl) ?_; (repeat (go_big_quiet_step ((go_at_call 41; exact quiet_of (HTO.out _))))); refine wpQuiet_nil ?_; intro _ hreg; obtain ⟨dW, rfl⟩ : Nw _ _ := hreg)
            go_wp2_with fail
            go_region_with (go_at_call 21; refine (HHU.out _).mono ?_; rintro e w' ⟨rfl, dH, rfl⟩)
            all_goals go_wp2
            all_goals
              refine ⟨⟨q + 1, rest, _, _, by omega, by go_num, ?_, own_le (own_upd2 (Y := (((((w.ext none d).alloc (.cells #[.int .u64 s1, .int .u64 s2] 24)).ext none d2).ext none dW).drew).ext none dH) (g := (w.ext none d).heap.size) (u0 := .int .u64 (Nm.hull (t1, t2) (s1, s2)).1) (u1 := .int .u64 (Nm.hull (t1, t2) (s1, s2)).2) (own_nw hown2 (by repeat (first | exact Xt.Nw.refl _ | refine Xt.Nw.drew ?_ | refine Xt.Nw.drewN ?_ _ | refine Xt.Nw.alloc ?_ _ | refine Xt.Nw.joined ?_ | refine Xt.Nw.drewd ?_ | refine Xt.Nw.drewdN ?_ | refine Xt.Nw.ext ?_ | refine Xt.Nw.ext_some ?_ (by assumption) | refine Xt.Nw.setCell ?_ (by simp [go_sem] <;> omega) _))) (by simp) (by simp [go_sem])) (by simp), (by repeat (first | exact Xt.Nw.refl _ | refine Xt.Nw.drew ?_ | refine Xt.Nw.drewN ?_ _ | refine Xt.Nw.alloc ?_ _ | refine Xt.Nw.joined ?_ | refine Xt.Nw.drewd ?_ | refine Xt.Nw.drewdN ?_ | refine Xt.Nw.ext ?_ | refine Xt.Nw.ext_some ?_ (by assumption) | refine Xt.Nw.setCell ?_ (by simp [go_sem] <;> omega) _))⟩, by simp [intOf]; omega⟩
              rw [hstep2.out, HJ.out]
          | false =>
            rw [htt] at hto
            have HJ : Hid (jst ((s1, s2), rest) (t1, t2) = ((s1, s2), rest ++ [(t1, t2)])) := by show _ = _; simp [jst, htt]
            have HTO := Lib.hid hto
            clear hto hhu htt
            go_wp2
            (refine wp_region_nw (by kernel_rfl) (by kernel_rfl) ?_; (repeat (go_big_quiet_step ((go_at_call 41; exact quiet_of (HTO.out _))))); refine wpQuiet_nil ?_; intro _ hreg; obtain ⟨dW, rfl⟩ : Nw _ _ := hreg)
            go_wp2_with (at_builtin; refine wpList_app1 rfl _ _ 37 rfl 24 (.agg #[.int .u64 0, .int .u64 0]) 2 16 Try.underlying37 spanInfo rfl (by decide) ((w.ext none d).alloc (.cells #[.int .u64 s1, .int .u64 s2] 24)) _ (by repeat (first | exact Xt.Nw.refl _ | refine Xt.Nw.drew ?_ | refine Xt.Nw.drewN ?_ _ | refine Xt.Nw.alloc ?_ _ | refine Xt.Nw.joined ?_ | refine Xt.Nw.drewd ?_ | refine Xt.Nw.drewdN ?_ | refine Xt.Nw.ext ?_ | refine Xt.Nw.ext_some ?_ (by assumption) | refine Xt.Nw.setCell ?_ (by simp [go_sem] <;> omega) _)) _ _ _ rfl (by first | assumption | exact own_nw (by assumption) (by repeat (first | exact Xt.Nw.refl _ | refine Xt.Nw.drew ?_ | refine Xt.Nw.drewN ?_ _ | refine Xt.Nw.alloc ?_ _ | refine Xt.Nw.joined ?_ | refine Xt.Nw.drewd ?_ | refine Xt.Nw.drewdN ?_ | refine Xt.Nw.ext ?_ | refine Xt.Nw.ext_some ?_ (by assumption) | refine Xt.Nw.setCell ?_ (by simp [go_sem] <;> omega) _))) _ 1 1 _ _ rfl (by first | rfl | simp) rfl (by intro u hu; simp at hu; (repeat' rcases hu with rfl | hu) <;> first | rfl | (subst hu; rfl)) (by unfold maxLen; omega) (by omega) ?_; intro vA dA hownA)
            refine ⟨⟨q + 1, rest ++ [(t1, t2)], s1, s2, by omega, by go_num, ?_, own_cast hownA (by simp) (by simp [cells]), ⟨_, rfl⟩⟩, by simp [intOf]; omega⟩
            rw [hstep2.out, HJ.out]
        · have hqo : out.take q = out := List.take_of_length_le (by omega)
          have hj := jst_join out (lo, hi) []
          have hf := HF.out
          rw [hqo] at hf
          rw [hf, List.nil_append] at hj
          have HJ := Lib.hid hj
          clear hj hf hqo
          obtain ⟨A2, c2, rfl, hsp2⟩ := Own.form hown2
          have HSP2 := Lib.hid hsp2
          clear hsp2 hown2
          go_wp2_with (go_at_call 42; refine (put_any _ _ _ rest _ _ _ (by omega) (HSP2.out.nw (by repeat (first | exact Xt.Nw.refl _ | refine Xt.Nw.drew ?_ | refine Xt.Nw.drewN ?_ _ | refine Xt.Nw.alloc ?_ _ | refine Xt.Nw.joined ?_ | refine Xt.Nw.drewd ?_ | refine Xt.Nw.drewdN ?_ | refine Xt.Nw.ext ?_ | refine Xt.Nw.ext_some ?_ (by assumption) | refine Xt.Nw.setCell ?_ (by simp [go_sem] <;> omega) _)))).mono ?_; rintro e w' ⟨v, rfl, hown3, dW, rfl⟩)
          have hadd : Nm.put rest (s1, s2) = Nm.add out (lo, hi) := by
            have h1 := HJ.out
            simp only [Prod.mk.injEq] at h1
            rw [Nm.add, ← h1.1, ← h1.2]
          rw [hadd, ← hstep.out] at hown3
          refine ⟨⟨k + 1, by omega, by go_num, own_le hown3 (Nw.grown (by repeat (first | exact Xt.Nw.refl _ | refine Xt.Nw.drew ?_ | refine Xt.Nw.drewN ?_ _ | refine Xt.Nw.alloc ?_ _ | refine Xt.Nw.joined ?_ | refine Xt.Nw.drewd ?_ | refine Xt.Nw.drewdN ?_ | refine Xt.Nw.ext ?_ | refine Xt.Nw.ext_some ?_ (by assumption) | refine Xt.Nw.setCell ?_ (by simp [go_sem] <;> omega) _))).size, (by repeat (first | exact Xt.Nw.refl _ | refine Xt.Nw.drew ?_ | refine Xt.Nw.drewN ?_ _ | refine Xt.Nw.alloc ?_ _ | refine Xt.Nw.joined ?_ | refine Xt.Nw.drewd ?_ | refine Xt.Nw.drewdN ?_ | refine Xt.Nw.ext ?_ | refine Xt.Nw.ext_some ?_ (by assumption) | refine Xt.Nw.setCell ?_ (by simp [go_sem] <;> omega) _))⟩, by simp [intOf]; omega⟩
    · have hkn : l.take k = l := List.take_of_length_le (by have := HL.out.1; omega)
      rw [hkn] at hown
      obtain ⟨A', c', rfl, hsp⟩ := Own.form (show Own _ _ _ (Nm.norm l) from hown)
      have HO := Lib.hid hown
      have HSP := Lib.hid hsp
      clear hown hsp hkn
      go_wp2
      go_ret2
      refine ⟨A', c', rfl, HSP.out, ?_, ?_, ?_, (by repeat (first | exact Xt.Nw.refl _ | refine Xt.Nw.drew ?_ | refine Xt.Nw.drewN ?_ _ | refine Xt.Nw.alloc ?_ _ | refine Xt.Nw.joined ?_ | refine Xt.Nw.drewd ?_ | refine Xt.Nw.drewdN ?_ | refine Xt.Nw.ext ?_ | refine Xt.Nw.ext_some ?_ (by assumption) | refine Xt.Nw.setCell ?_ (by simp [go_sem] <;> omega) _))⟩
      · rintro rfl
        rcases own_forms HO.out with ⟨h, _⟩ | ⟨g, cap, h, _⟩
        · injection h
        · injection h with h; cases h
      · intro hp
        rcases own_forms HO.out with ⟨h, h0⟩ | ⟨g, cap, h, hg, _⟩
        · exact absurd hp (by show ¬ 0 < (l.foldl Nm.add []).length; omega)
        · injection h with h1 h2 h3
          subst h1 h3
          exact ⟨g, rfl, hg, fun j => HO.out.frozenAt j⟩
      · rcases own_forms HO.out with ⟨h, h0⟩ | ⟨g, cap, h, hg, _, hcap, _⟩
        · injection h with _ h2 h3; show (l.foldl Nm.add []).length ≤ c'; omega
        · injection h with h1 h2 h3; show (l.foldl Nm.add []).length ≤ c'; omega
end Go.Proofs.Ytdhinclpmmpkhaa
