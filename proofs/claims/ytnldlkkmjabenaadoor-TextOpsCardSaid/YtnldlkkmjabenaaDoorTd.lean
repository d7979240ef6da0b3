import Derived.Test.YtnldlkkmjabenaaDoorTc
import Derived.Laws.OwnMore
namespace Go.Proofs.YtnldlkkmjabenaaDoor
open Go.RowKit Go.Xt
/-! The reference's Words. -/
theorem wd_snoc32 : ∀ (l : List UInt8), wd (l ++ [32]) = wd l ++ [[]]
  | [] => rfl
  | d :: l => by
    have ih := wd_snoc32 l
    rw [List.cons_append, wd, wd]
    split
    · rw [ih]; rfl
    · rw [ih]
      cases e : wd l with
      | nil => exact absurd e (wd_ne l)
      | cons h t => rfl
theorem wd_snoc {c : UInt8} (hc : c ≠ 32) : ∀ (l : List UInt8), ∃ R x, wd l = R ++ [x] ∧ wd (l ++ [c]) = R ++ [x ++ [c]]
  | [] => ⟨[], [], rfl, by rw [List.nil_append, wd, if_neg hc]; rfl⟩
  | d :: l => by
    obtain ⟨R, x, h1, h2⟩ := wd_snoc hc l
    rw [List.cons_append]
    by_cases h : d = 32
    · exact ⟨[] :: R, x, by rw [wd, if_pos h, h1]; rfl, by rw [wd, if_pos h, h2]; rfl⟩
    · cases R with
      | nil => exact ⟨[], d :: x, by rw [wd, if_neg h, h1]; rfl, by rw [wd, if_neg h, h2]; rfl⟩
      | cons y R => exact ⟨(d :: y) :: R, x, by rw [wd, if_neg h, h1]; rfl, by rw [wd, if_neg h, h2]; rfl⟩
theorem ext1 (s : ByteArray) (k : Nat) (hk : k < s.size) : (s.extract k (k + 1)).data.toList = [s[k]'hk] := by
  have h : (s.extract k (k + 1)).data.toList = (s.data.toList.drop k).take 1 := by
    rw [ByteArray.data_extract]; simp
  rw [h]
  have h2 := data_at s k hk
  obtain ⟨p1, p2⟩ := List.getElem?_eq_some_iff.1 h2
  rw [List.drop_eq_getElem_cons p1, p2]; rfl
theorem app_data (a b : ByteArray) : (a ++ b).data.toList = a.data.toList ++ b.data.toList := by simp [ByteArray.data_append]
theorem words_of {s : ByteArray} {ws : List ByteArray} (h : ws.map (·.data.toList) = wd s.data.toList) : ws = wordsB s := by
  have h2 := words_data s
  rw [← h] at h2
  have hinj : ∀ (a b : List ByteArray), a.map (·.data.toList) = b.map (·.data.toList) → a = b := by
    intro a
    induction a with
    | nil => intro b e; cases b with
      | nil => rfl
      | cons y b => simp at e
    | cons x a ih => intro b e; cases b with
      | nil => simp at e
      | cons y b =>
        rw [List.map_cons, List.map_cons] at e
        injection e with e1 e2
        rw [ih b e2, ba_eq x, e1, ← ba_eq y]
  exact (hinj _ _ h2).symm
theorem strs_app (a b : List ByteArray) : strs (a ++ b) = strs a ++ strs b := List.map_append
def WordsE (ws : List ByteArray) (e : Ending) (W : World) : Prop := ∃ b c, e = .returned (.slice (some ⟨b, 0, none⟩) ws.length c) ∧ b < W.heap.size ∧ Rd W 1 (some ⟨b, 0, none⟩) ws.length (strs ws) ∧ ws.length ≤ c ∧ c ≤ maxLen
set_option maxRecDepth 20000 in
set_option maxHeartbeats 4000000 in
theorem rwords_any (s : ByteArray) (w : World) (hs : s.size ≤ 1000) :
    Calls Tryd.prog 18 #[.string s] w fun e w' => WordsE (wordsB s) e w' ∧ Nw w w' := by
  obtain ⟨n, hn⟩ : ∃ n, n = s.size := ⟨_, rfl⟩
  obtain ⟨L, hL⟩ : ∃ L, L = s.data.toList := ⟨_, rfl⟩
  have hdl := data_len s
  have hbyte : ∀ (i : Nat) (hi : i < s.size), L[i]? = some (s[i]'hi) := fun i hi => by rw [hL]; exact data_at s i hi
  rw [← hL] at hdl
  have HB := Lib.hid hbyte
  have HN := Lib.hid hn
  have HDL := Lib.hid hdl
  have HL := Lib.hid hL
  have hn1 : n ≤ 1000 := by omega
  clear hbyte hn hdl hL
  go_enter Tryd.func18, Tryd.ntmps18
  go_wp2
  go_loopw [3, 4] (fun a i wr => ∃ (k p : Nat) (R : List ByteArray) (x : ByteArray), k ≤ n ∧ p ≤ k ∧ x.size ≤ k ∧ R.length = p ∧ i = .int .i64 k ∧ Hid ((R ++ [x]).map (·.data.toList) = wd (L.take k)) ∧ wr.ownsRow w.heap.size 9 1 a (p + 1) (strs (R ++ [x])) ∧ Nw w wr) (fun _ i _ => n - (intOf i).toNat)
  case atStart =>
    refine ⟨0, 0, [], ⟨#[]⟩, by omega, by omega, Nat.le_refl _, rfl, rfl, rfl, ?_, (by repeat (first | exact Xt.Nw.refl _ | refine Xt.Nw.drew ?_ | refine Xt.Nw.drewN ?_ _ | refine Xt.Nw.alloc ?_ _ | refine Xt.Nw.joined ?_ | refine Xt.Nw.drewd ?_ | refine Xt.Nw.drewdN ?_ | refine Xt.Nw.ext ?_ | refine Xt.Nw.ext_some ?_ (by assumption) | refine Xt.Nw.setCell ?_ (by simp [go_sem] <;> omega) _))⟩
    exact World.ownsRow_lit w _ 1 (Nat.le_refl _) (by unfold maxLen; omega) rfl
  case round =>
    obtain ⟨k, p, R, x, hk, hpk, hxk, hRp, rfl, hh, hown, hwr⟩ := hrel
    rcases own_forms hown with ⟨_, h0⟩ | ⟨g, cap, rfl, hg, hIn, hcap, hcm⟩
    · omega
    haveI := hIn
    have HWR := Lib.hid hwr
    clear hwr
    by_cases hlt : k < n
    · have hks : k < s.size := by have := HN.out; omega
      have q1 : (k : Int) < (s.size : Int) := by omega
      obtain ⟨c, hc⟩ : ∃ c : UInt8, c = s[k]'hks := ⟨_, rfl⟩
      have hat : L[k]? = some c := by rw [hc]; exact HB.out k hks
      have htk : L.take (k + 1) = L.take k ++ [c] := by
        obtain ⟨p1, p2⟩ := List.getElem?_eq_some_iff.1 hat
        rw [List.take_succ_eq_append_getElem p1, p2]
      by_cases h32 : c = 32
      · have f1 : (((s[k]'hks).toNat : Int) == 32) = true := by rw [← hc, h32]; rfl
        have hnx := Lib.hid (show ((R ++ [x]) ++ [(⟨#[]⟩ : ByteArray)]).map (fun b : ByteArray => b.data.toList) = wd (L.take (k + 1)) by
          rw [List.map_append, hh.out, htk, h32, wd_snoc32]; rfl)
        have HO := Lib.hid hown
        clear hc hat htk h32 hh hown
        go_upto_region 6 with (fail)
        have hown2 := own_nw HO.out (Nw.refl _)
        have hnw := HWR.out
        go_wp2_with (at_builtin; refine wpList_app1 rfl _ _ 46 rfl 9 (.string ByteArray.empty) 1 16 Tryd.underlying46 strInfo rfl (by decide) w wr hnw _ _ _ rfl (by exact hown2) _ 1 1 _ _ rfl rfl rfl (by intro z hz; simp at hz; subst hz; rfl) (by unfold maxLen; omega) (by omega) ?_; intro vA dA hownA)
        refine ⟨⟨k + 1, p + 1, R ++ [x], ⟨#[]⟩, by omega, by omega, Nat.zero_le _, by simp [hRp], by go_num, hnx, ?_, (by repeat (first | exact Xt.Nw.refl _ | refine Xt.Nw.drew ?_ | refine Xt.Nw.drewN ?_ _ | refine Xt.Nw.alloc ?_ _ | refine Xt.Nw.joined ?_ | refine Xt.Nw.drewd ?_ | refine Xt.Nw.drewdN ?_ | refine Xt.Nw.ext ?_ | refine Xt.Nw.ext_some ?_ (by assumption) | refine Xt.Nw.setCell ?_ (by simp [go_sem] <;> omega) _))⟩, by first | (simp [intOf]; omega) | omega⟩
        rw [show strs ((R ++ [x]) ++ [(⟨#[]⟩ : ByteArray)]) = strs (R ++ [x]) ++ [.string ByteArray.empty] by rw [strs_app]; rfl]
        exact hownA
      · have f1 : (((s[k]'hks).toNat : Int) == 32) = false := by
          rw [beq_eq_false_iff_ne, ← hc]
          intro e
          refine h32 (UInt8.toNat.inj ?_)
          show c.toNat = 32
          omega
        have hnx := Lib.hid (show (R ++ [x ++ s.extract k (k + 1)]).map (fun b : ByteArray => b.data.toList) = wd (L.take (k + 1)) by
          obtain ⟨R', x', h1, h2⟩ := wd_snoc h32 (L.take k)
          have h3 := hh.out
          rw [h1, List.map_append, List.map_singleton] at h3
          obtain ⟨h4, h5⟩ := List.append_inj' h3 rfl
          injection h5 with h5
          rw [List.map_append, List.map_singleton, htk, h2, h4, ← h5, app_data, ext1 s k hks, ← hc])
        have f2 : wr.cell? ⟨g, p, none⟩ = some (.string x) := by
          rw [hown.cellAt p (by omega), strs_app]
          rw [List.getElem?_append_right (by simp [strs, hRp]), show p - (strs R).length = 0 by simp [strs, hRp]]
          rfl
        have f3 : wr.frozen? ⟨g, p, none⟩ = false := hown.frozenAt p
        have f4 : IntKind.i64.wrap (p : Int) = (p : Int) := by rw [IntKind.wrap_i64]; omega
        have f5 : IntKind.i64.wrap ((k : Int) + 1) = (k : Int) + 1 := by rw [IntKind.wrap_i64]; omega
        have q2 : (p : Int) < (p : Int) + 1 := by omega
        have q3 : (k : Int) ≤ (k : Int) + 1 := by omega
        have q5 : ¬ 9223372036854775807 < x.size + (min (k + 1) s.size - k) := by omega
        have q4 : (k : Int) + 1 ≤ (s.size : Int) := by omega
        have HO := Lib.hid hown
        clear hc hat htk h32 hh hown
        go_upto_region 7 with (fail)
        go_still_tail 17, (by kernel_rfl)
        change wpList _ _ _ _ _ wr.drew
        go_wp2
        have hnw := HWR.out
        have hnw2 : Nw w (wr.drew.setCell ⟨g, p, none⟩ (.string (x ++ s.extract k (k + 1)))) := Nw.setCell (Nw.drew hnw) (by show w.heap.size ≤ g; omega) _
        refine ⟨⟨k + 1, p, R, x ++ s.extract k (k + 1), by omega, by omega, by simp; omega, hRp, by go_num, hnx, ?_, hnw2⟩, by first | (simp [intOf]; omega) | omega⟩
        have h := (HO.out.stored p (.string (x ++ s.extract k (k + 1)))).1
        rw [strs_app, List.set_append_right _ _ (by simp [strs, hRp]), show p - (strs R).length = 0 by simp [strs, hRp]] at h
        rw [strs_app]
        exact own_nw h (Nw.drew (Nw.refl _))
    · have hkn : k = n := by omega
      have hfin : R ++ [x] = wordsB s := words_of (by
        have h := hh.out
        rwa [hkn, List.take_of_length_le (by have := HDL.out; have := HN.out; omega), HL.out] at h)
      have hl : (wordsB s).length = p + 1 := by rw [← hfin]; simp [hRp]
      rw [hfin] at hown
      have HO := Lib.hid hown
      have HLN := Lib.hid hl
      have q1 : ¬ (k : Int) < (s.size : Int) := by have := HN.out; omega
      clear hh hown hfin hl
      go_wp2
      obtain ⟨A, c, hv, hrd⟩ := own_rd HO.out
      injection hv with hA hn' hc'
      subst hA
      exact bodyPost_ret (results_tmp rfl _ _ _) rfl ⟨⟨g, cap, by rw [HLN.out]; rfl, hIn.lt, by rw [HLN.out]; exact hrd, by rw [HLN.out]; exact hcap, hcm⟩, HWR.out⟩
end Go.Proofs.YtnldlkkmjabenaaDoor
