import Derived.Test.YtkikdpdainmlcaaGreatGQm
import Derived.Deep.AppendSrc
set_option linter.unusedVariables false
set_option linter.unusedSimpArgs false
set_option linter.unnecessarySimpa false
namespace Go.Proofs.YtkikdpdainmlcaaGreat
open Go.RowKit Go.Xt
/-! Copy of a model. -/
noncomputable def thCap (W : World) (n : Nat) : Nat := grownCap W (0 + n) 0 175
noncomputable def thArr (W : World) (th : List Th) : Array Value := ([] ++ tcells th).toArray ++ Builtin.zeroCells (Value.agg #[.bool false, .bool false, .int .u64 0, .int .u64 0, .bool false]).cells (thCap W th.length - (0 + th.length))
theorem tcells_one (th : List Th) : ∀ u ∈ tcells th, u.oneCell' = true := by
  intro u hu
  obtain ⟨x, _, hx⟩ := List.mem_flatMap.1 hu
  simp [thc] at hx
  rcases hx with rfl | rfl | rfl | rfl | rfl <;> rfl
theorem run_thcopy (W : World) (gt ct : Nat) (th : List Th) (h : ThR W gt th) (h0 : 0 < th.length) (hn : th.length ≤ 1000) (ty : TypeId) :
    (Builtin.append_ #[136, 136] ty #[.slice none 0 0, .slice (some ⟨gt, 0, none⟩) th.length ct]).run Tryz.prog W = .ok (.slice (some ⟨W.heap.size, 0, none⟩) (0 + th.length) (thCap W th.length)) (W.drew.alloc (.cells (thArr W th) 175)) := by
  obtain ⟨i, hi1, hz0, hz1, hz2⟩ := info_parts thInfo
  obtain ⟨c, h⟩ := h
  have hsrc : Src Tryz.prog i.size 136 (.slice (some ⟨gt, 0, none⟩) th.length ct) th.length (tcells th) W :=
    Src.ofSlice W Tryz.underlying136 ⟨gt, 0, none⟩ th.length ct (tcells th) (by rw [hz1, tcells_len]) (fun j u hu => by
      rw [add_at, Nat.zero_add]
      have := (List.getElem?_eq_some_iff.1 hu).1
      rw [tcells_len] at this
      rw [h.cellAt j this]; exact hu) (tcells_one th)
  exact run_append_grow_src W 136 136 ty 175 i _ Tryz.underlying136 hi1 hz0 none 0 0 [] (run_firstCells_none W.drew i.size 0 0 0) _ th.length (tcells th) hsrc (by omega) (by omega) (growslice_fits (by omega) (by rw [hz2]; omega))
theorem thcopy_row (W : World) (th : List Th) (hn : th.length ≤ 1000) : ThR (W.drew.alloc (.cells (thArr W th) 175)) W.heap.size th := by
  have hge : th.length ≤ thCap W th.length := by have := grownCap_ge W (0 + th.length) 0 175; unfold thCap; omega
  have hle : thCap W th.length ≤ maxLen := grownCap_le_maxLen _ _ _ _ (by unfold maxLen; omega)
  have hz : (Value.agg #[.bool false, .bool false, .int .u64 0, .int .u64 0, .bool false]).cells.size = 5 := rfl
  have hsz : (thArr W th).size = thCap W th.length * 5 := by
    unfold thArr
    rw [Array.size_append, size_zeroCells, hz, List.size_toArray, List.nil_append, tcells_len]
    omega
  have hrow := World.ownsRow_lit (base := 0) (e := 175) (size := 5) W.drew (thArr W th) (thCap W th.length) (Nat.zero_le _) hle hsz
  have h2 := own_take hrow hge
  have h3 : (thArr W th).toList.take (th.length * 5) = tcells th := by
    unfold thArr
    rw [Array.toList_append]
    exact List.take_left' (tcells_len th)
  rw [h3] at h2
  exact ⟨_, h2⟩
theorem copy_fin {w W : World} {gt gq ct : Nat} {v : Value} {s : Md} (hn : Nw w W) (ht : ThR W gt s.th) (hgt : w.heap.size ≤ gt) (ho : OM W gq v s.l) (hgq : w.heap.size ≤ gq) (hv : ∀ b, v.ownBlock = some b → w.heap.size ≤ b) (d1 : gt ≠ gq) (d2 : v.ownBlock ≠ some gt) :
    MAt (W.alloc (.cells #[.int .i64 s.slots, .pointer (some ⟨gq, 0, none⟩), .slice (some ⟨gt, 0, none⟩) s.th.length ct] 138)) ⟨W.heap.size, gt, gq, v⟩ s ∧ (∀ g ∈ (⟨W.heap.size, gt, gq, v⟩ : Pl).foot, w.heap.size ≤ g) ∧ Nw w (W.alloc (.cells #[.int .i64 s.slots, .pointer (some ⟨gq, 0, none⟩), .slice (some ⟨gt, 0, none⟩) s.th.length ct] 138)) := by
  have hA := (Nw.refl W).alloc (.cells #[.int .i64 s.slots, .pointer (some ⟨gq, 0, none⟩), .slice (some ⟨gt, 0, none⟩) s.th.length ct] 138)
  have h1 := ht.inn
  have h2 := ho.lt
  refine ⟨⟨by simp [go_sem], by simp [go_sem], ⟨ct, by simp [go_sem]⟩, fun o => by simp [go_sem], ht.nw hA, ho.nw hA, by show W.heap.size ≠ gt; omega, by show W.heap.size ≠ gq; omega, d1, fun e => ?_, d2⟩, fun g hg => ?_, hn.trans hA⟩
  · have h3 := ho.rlt e
    have h3 : W.heap.size < W.heap.size := h3
    omega
  · rcases Pl.mem.1 hg with h9 | h9 | h9 | h9
    · have h9 : g = W.heap.size := h9
      rw [h9]; exact hn.grown.size
    · have h9 : g = gt := h9; omega
    · have h9 : g = gq := h9; omega
    · exact hv g h9
set_option maxRecDepth 20000 in
set_option maxHeartbeats 4000000 in
theorem copy_M (w : World) (p : Pl) (s : Md) (h : MAt w p s) (hl : s.l.length ≤ 1000000) (ht0 : 0 < s.th.length) (htn : s.th.length ≤ 1000) :
    Calls Tryz.prog 108 #[.pointer (some ⟨p.gm, 0, none⟩)] w fun e w' => ∃ gq, e = .returned (.pointer (some ⟨gq, 0, none⟩)) ∧ ∃ p', p'.gm = gq ∧ MAt w' p' s ∧ (∀ g ∈ p'.foot, w.heap.size ≤ g) ∧ Nw w w' := by
  obtain ⟨gm, gt, gp, v⟩ := p
  have m0 : w.cell? ⟨gm, 0, none⟩ = some (.int .i64 s.slots) := h.m0
  have m1 : w.cell? ⟨gm, 1, none⟩ = some (.pointer (some ⟨gp, 0, none⟩)) := h.m1
  obtain ⟨ct, m2⟩ : ∃ ct, w.cell? ⟨gm, 2, none⟩ = some (.slice (some ⟨gt, 0, none⟩) s.th.length ct) := h.m2
  haveI : In gm w := ⟨h.im⟩
  have HC := Lib.hid (fun W (hw : Nw w W) => ocopy_M (h.om.nw hw : OM W gp v s.l) hl)
  have HAP := Lib.hid (fun W (hw : Nw w W) ty => run_thcopy W gt ct s.th (ThR.nw h.th hw) ht0 htn ty)
  have HRW := Lib.hid (fun W => thcopy_row W s.th htn)
  obtain ⟨n, hn⟩ : ∃ n, n = s.th.length := ⟨_, rfl⟩
  have HN := Lib.hid hn
  rw [← hn] at m2 HAP
  obtain ⟨sl, hsl⟩ : ∃ z, z = s.slots := ⟨_, rfl⟩
  have HSL := Lib.hid hsl
  rw [← hsl] at m0
  simp only
  clear h hl ht0 htn hn hsl
  go_enter Tryz.func108, Tryz.ntmps108
  go_upto_region 3 with (fail)
  go_region_law (first | (refine step_app_eq rfl (.const (.slice none 0 0)) (.tmp 17) 136 136 rfl _ _ (by first | (simp [Act.eval, Act.put]; done) | (simp [Act.eval, Act.put]; rfl)) (by first | (simp [Act.eval, Act.put]; done) | (simp [Act.eval, Act.put]; rfl)) (HAP.out _ (by exact nwa) _) ?_) | (go_simp; go_at_call 137; refine (HC.out _ (by exact nwa)).mono ?_; rintro e w' ⟨gq, rfl, hgq, hom, dK, rfl⟩))
  all_goals
    rw [ext_drew] at hom
    obtain ⟨WK, hWK⟩ : ∃ WK, WK = w.ext none (dpre w.drew none dK) := ⟨_, rfl⟩
    have hnk : Nw w WK := by rw [hWK]; exact ⟨_, rfl⟩
    rw [← hWK] at hom
    obtain ⟨v', hom, hv⟩ := hom
    have hgq' : w.heap.size ≤ gq := hgq
    have hth : ThR (WK.alloc (.cells (thArr WK s.th) 175)) WK.heap.size s.th := HRW.out WK
    have hA : Nw WK (WK.alloc (.cells (thArr WK s.th) 175)) := (Nw.refl _).alloc _
    have hfin := copy_fin (ct := thCap WK n) (s := s) (hnk.trans hA) hth hnk.grown.size (hom.nw hA) hgq' (fun b hb => hv b hb) (by have := hom.lt; omega) (fun e => by have := hom.rlt e; omega)
    rw [← HSL.out, ← HN.out] at hfin
    have HF := Lib.hid hfin
    clear hom hv hth hA hfin hnk hgq hgq' HC HAP HRW
    rw [← hWK]
    clear hWK
    go_wp2
    refine bodyPost_ret (v := .pointer (some ⟨WK.heap.size + 1, 0, none⟩)) ?_ rfl ⟨WK.heap.size + 1, rfl, _, ?_, HF.out.1.nw (Nw.drew (Nw.refl _)), HF.out.2.1, HF.out.2.2.drew⟩
    · simp [results, Tryz.results108, Act.put, go_sem]
    · simp
end Go.Proofs.YtkikdpdainmlcaaGreat
namespace Go.Proofs.YtkikdpdainmlcaaGreat
open Go.RowKit Go.Xt
/-! births, gives. -/
def birthsM (s : Md) (o : Ox) : Bool := (inR o.key o.hi s.l).any fun p => !hasK (p.1 + o.by_) s.l
def givesM (s : Md) (o : Ox) (e : Int) : Bool :=
  if e = 11 then (decide (3 ≤ o.k) && decide (o.k ≤ 10)) || decide (o.k = 12)
  else if e = 6 then ((decide (o.k = 4) || decide (o.k = 5)) && !hasK o.key s.l) || (decide (o.k = 8) && birthsM s o)
  else if e = 10 then decide (o.k = 1)
  else false
theorem any_take {α : Type} {p : α → Bool} {l : List α} {i : Nat} {x : α} (h : l[i]? = some x) : (l.take (i + 1)).any p = ((l.take i).any p || p x) := by
  rw [List.take_add_one, h]; simp
set_option maxRecDepth 20000 in
set_option maxHeartbeats 8000000 in
theorem births_M (w : World) (p : Pl) (s : Md) (h : MAt w p s) (hl : s.l.length ≤ 500000) (a b c d e f : Int) (hab : a ≤ b) (ha : 0 ≤ a) (he : 0 ≤ e) (hbe : b + e ≤ 18446744073709551615) :
    Calls Tryz.prog 135 #[.pointer (some ⟨p.gm, 0, none⟩), op7 8 a b c d e f] w fun q w' => q = .returned (.bool (birthsM s ⟨8, a, b, c, d, e, f⟩)) ∧ Nw w w' := by
  obtain ⟨gm, gt, gp, v⟩ := p
  have m1 : w.cell? ⟨gm, 1, none⟩ = some (.pointer (some ⟨gp, 0, none⟩)) := h.m1
  haveI : In gm w := ⟨h.im⟩
  have HG := Lib.hid (fun W (hw : Nw w W) k => get_om (h.om.nw hw : OM W gp v s.l) (by omega) k)
  have HR := Lib.hid (fun W (hw : Nw w W) => range_om (h.om.nw hw : OM W gp v s.l) (by omega) a b hab)
  unfold spV at HR
  unfold birthsM
  simp only
  obtain ⟨R, hR⟩ : ∃ R, R = inR a b s.l := ⟨_, rfl⟩
  have HIN := Lib.hid (fun p (hp : p ∈ R) => show a ≤ p.1 ∧ p.1 ≤ b by
    rw [hR] at hp
    have := (List.mem_filter.1 hp).2
    simpa using this)
  have HLEN := Lib.hid (show R.length ≤ 500000 by rw [hR]; exact Nat.le_trans (List.length_filter_le _ _) hl)
  simp only [← hR] at HR ⊢
  obtain ⟨l, hl'⟩ : ∃ l, l = s.l := ⟨_, rfl⟩
  simp only [← hl'] at HG ⊢
  obtain ⟨W2, hW2⟩ : ∃ W2, W2 = w.alloc (.cells #[.int .u8 8, .int .u64 a, .int .u64 b, .int .u64 c, .int .u64 d, .int .u64 e, .int .u64 f] 41) := ⟨_, rfl⟩
  have hn2 : Nw w W2 := by rw [hW2]; exact nwa
  have q0 : W2.cell? ⟨w.heap.size, 0, none⟩ = some (.int .u8 8) := by rw [hW2]; simp [go_sem]
  have q1 : W2.cell? ⟨w.heap.size, 1, none⟩ = some (.int .u64 a) := by rw [hW2]; simp [go_sem]
  have q2 : W2.cell? ⟨w.heap.size, 2, none⟩ = some (.int .u64 b) := by rw [hW2]; simp [go_sem]
  have q3 : W2.cell? ⟨w.heap.size, 3, none⟩ = some (.int .u64 c) := by rw [hW2]; simp [go_sem]
  have q4 : W2.cell? ⟨w.heap.size, 4, none⟩ = some (.int .u64 d) := by rw [hW2]; simp [go_sem]
  have q5 : W2.cell? ⟨w.heap.size, 5, none⟩ = some (.int .u64 e) := by rw [hW2]; simp [go_sem]
  have q6 : W2.cell? ⟨w.heap.size, 6, none⟩ = some (.int .u64 f) := by rw [hW2]; simp [go_sem]
  replace m1 := cell_nw m1 hn2
  have HN2 := Lib.hid hn2
  have HW2 := Lib.hid hW2
  have HA := Lib.hid (⟨ha, he, hbe⟩ : 0 ≤ a ∧ 0 ≤ e ∧ b + e ≤ 18446744073709551615)
  clear h hl hab ha he hbe hR hl' hn2 hW2
  go_enter Tryz.func135, Tryz.ntmps135
  go_upto_region 1 with (fail)
  rw [← HW2.out]
  go_region_held3 (fun w' => w'.cell? ⟨gm, 1, none⟩ = some (.pointer (some ⟨gp, 0, none⟩)) ∧ w'.cell? ⟨w.heap.size, 0, none⟩ = some (.int .u8 8) ∧ w'.cell? ⟨w.heap.size, 1, none⟩ = some (.int .u64 a) ∧ w'.cell? ⟨w.heap.size, 2, none⟩ = some (.int .u64 b) ∧ w'.cell? ⟨w.heap.size, 3, none⟩ = some (.int .u64 c) ∧ w'.cell? ⟨w.heap.size, 4, none⟩ = some (.int .u64 d) ∧ w'.cell? ⟨w.heap.size, 5, none⟩ = some (.int .u64 e) ∧ w'.cell? ⟨w.heap.size, 6, none⟩ = some (.int .u64 f)) (first | exact ⟨m1, q0, q1, q2, q3, q4, q5, q6⟩ | exact ⟨cell_nw m1 hnk, cell_nw q0 hnk, cell_nw q1 hnk, cell_nw q2 hnk, cell_nw q3 hnk, cell_nw q4 hnk, cell_nw q5 hnk, cell_nw q6 hnk⟩ | exact ⟨cell_nw m1 hnr, cell_nw q0 hnr, cell_nw q1 hnr, cell_nw q2 hnr, cell_nw q3 hnr, cell_nw q4 hnr, cell_nw q5 hnr, cell_nw q6 hnr⟩)
    ((first | (go_at_call 148; refine (keys_agg _ _ _ _ _ _ _ _).mono ?_; rintro r Wk ⟨rfl, hnk0⟩; have hnk : Nw W2 Wk := (Nw.drew (Nw.refl W2)).trans hnk0) | (go_at_call 152; refine (HR.out _ (HN2.out.trans hnk)).mono ?_; rintro r Wr ⟨vR, rfl, hown, hnr0⟩; have hnr : Nw W2 Wr := hnk.trans hnr0)))
  obtain ⟨m, hm⟩ : ∃ m, m = R.length := ⟨_, rfl⟩
  obtain ⟨AA, cA, hvA⟩ : ∃ A c, vR = .slice A m c := by
    rcases own_forms hown with ⟨rfl, h0⟩ | ⟨g, c, rfl, _⟩
    · rw [hm, h0]; exact ⟨_, _, rfl⟩
    · rw [hm]; exact ⟨_, _, rfl⟩
  subst hvA
  rw [← hm] at hown
  have HM := Lib.hid hm
  have HO := Lib.hid hown
  have HNR := Lib.hid (HN2.out.trans hnr)
  replace m1 := cell_nw m1 hnr
  replace q5 := cell_nw q5 hnr
  clear hown hnk hnk0 hnr hnr0 hm q0 q1 q2 q3 q4 q6
  go_wp2_with fail
  go_loopw [8, 9, 10, 23] (fun _ _ _ x wr => ∃ i : Nat, i ≤ m ∧ x = .int .i64 i ∧ Hid ((R.take i).any (fun p => !hasK (p.1 + e) l) = false) ∧ Nw Wr wr) (fun _ _ _ x _ => m - (intOf x).toNat)
  case atStart => exact ⟨0, Nat.zero_le _, rfl, Lib.hid rfl, Nw.refl _⟩
  case round =>
    obtain ⟨i, hi, rfl, HB, hnx⟩ := hrel
    have c1 := cell_nw m1 hnx
    have c5 := cell_nw q5 hnx
    haveI : In gm wr := ⟨World.block_lt_of_cell? wr _ c1⟩
    haveI : In w.heap.size wr := ⟨World.block_lt_of_cell? wr _ c5⟩
    by_cases him : i < m
    · obtain ⟨⟨pk, px⟩, hp⟩ : ∃ p, R[i]? = some p := ⟨_, List.getElem?_eq_getElem (by have := HM.out; omega)⟩
      obtain ⟨y0, y1⟩ := pcells_get R i _ hp
      have hrow := own_nw HO.out hnx
      rcases own_forms hrow with ⟨hA, h0⟩ | ⟨gC, cC', hA, _, hin, _, _⟩
      · omega
      injection hA with a1 a2 a3
      subst a1 a3
      have e0 : wr.cell? ⟨gC, i * 2, none⟩ = some (.int .u64 pk) := (hrow.cellAt _ (by omega)).trans y0
      have e1 : wr.cell? ⟨gC, i * 2 + 1, none⟩ = some (.int .u64 px) := (hrow.cellAt _ (by omega)).trans y1
      haveI : In gC wr := ⟨World.block_lt_of_cell? wr _ e0⟩
      have i1 : (i : Int) < (m : Int) := by omega
      have i0 : (0 : Int) ≤ (i : Int) := by omega
      have i3 : i < 1000000 := by have := HLEN.out; have := HM.out; omega
      have hpk := HIN.out _ (List.mem_of_getElem? hp)
      have qk : IntKind.u64.wrap (pk + e) = pk + e := by
        have := HA.out
        simp at hpk
        rw [IntKind.wrap_u64]; omega
      have HP := Lib.hid (any_take (p := fun p : Int × Int => !hasK (p.1 + e) l) hp)
      have HIM := Lib.hid him
      have HNX := Lib.hid hnx
      clear y0 y1 hrow hin hpk him hnx
      have HGK := Lib.hid (fun W (hw : Nw wr W) => HG.out W ((HNR.out.trans HNX.out).trans hw) (pk + e))
      obtain ⟨bb, hbb⟩ : ∃ bb, bb = hasK (pk + e) l := ⟨_, rfl⟩
      obtain ⟨yv, hyv⟩ : ∃ yv, yv = valL (pk + e) l := ⟨_, rfl⟩
      simp only [← hbb, ← hyv] at HGK HP
      have HMEM := Lib.hid (List.mem_of_getElem? hp)
      have HBB := Lib.hid hbb
      clear hbb hyv hp
      cases bb with
      | true =>
        go_upto_region 5 with (fail)
        (refine wp_region_nw (by kernel_rfl) (by kernel_rfl) ?_; (repeat (go_big_quiet_step ((go_at_call 134; exact quiet_of (HGK.out _ (nwa)))))); refine wpQuiet_nil ?_; intro _ hreg; obtain ⟨dW, rfl⟩ : Nw _ _ := hreg)
        go_wp2
        exact ⟨⟨i + 1, by have := HIM.out; omega, by go_num, Lib.hid (by rw [HP.out, HB.out]; rfl), HNX.out.trans (nwa)⟩, by have := HIM.out; simp [intOf]; omega⟩
      | false =>
        have HT := Lib.hid (show (R.any fun p => !hasK (p.1 + e) l) = true from List.any_eq_true.2 ⟨(pk, px), HMEM.out, by rw [← HBB.out]; rfl⟩)
        go_upto_region 5 with (fail)
        (refine wp_region_nw (by kernel_rfl) (by kernel_rfl) ?_; (repeat (go_big_quiet_step ((go_at_call 134; exact quiet_of (HGK.out _ (nwa)))))); refine wpQuiet_nil ?_; intro _ hreg; obtain ⟨dW, rfl⟩ : Nw _ _ := hreg)
        go_wp2
        go_ret
        exact ⟨by rw [HT.out]; rfl, (HNR.out.trans HNX.out).trans (nwa)⟩
    · obtain rfl : i = m := by omega
      have HF := Lib.hid (show (R.any fun p => !hasK (p.1 + e) l) = false by rw [← HB.out, HM.out, List.take_length])
      have HNX := Lib.hid hnx
      clear hnx
      go_wp2
      go_ret
      exact ⟨by rw [HF.out]; rfl, HNR.out.trans HNX.out⟩
end Go.Proofs.YtkikdpdainmlcaaGreat
namespace Go.Proofs.YtkikdpdainmlcaaGreat
open Go.RowKit Go.Xt
/-! gives. -/
set_option maxRecDepth 20000 in
set_option maxHeartbeats 8000000 in
theorem gives_11 (w : World) (p : Pl) (s : Md) (h : MAt w p s) (hl : s.l.length ≤ 500000) (k a b c d e f : Int) :
    Calls Tryz.prog 104 #[.pointer (some ⟨p.gm, 0, none⟩), op7 k a b c d e f, .int .i64 11] w fun q w' => q = .returned (.bool (givesM s ⟨k, a, b, c, d, e, f⟩ 11)) ∧ Nw w w' := by
  obtain ⟨gm, gt, gp, v⟩ := p
  have m1 : w.cell? ⟨gm, 1, none⟩ = some (.pointer (some ⟨gp, 0, none⟩)) := h.m1
  haveI : In gm w := ⟨h.im⟩
  have HG := Lib.hid (fun W (hw : Nw w W) => get_om (h.om.nw hw : OM W gp v s.l) (by omega) a)
  obtain ⟨bb, hbb⟩ : ∃ bb, bb = hasK a s.l := ⟨_, rfl⟩
  obtain ⟨yv, hyv⟩ : ∃ yv, yv = valL a s.l := ⟨_, rfl⟩
  simp only [← hbb, ← hyv] at HG
  have HR := Lib.hid (show givesM s ⟨k, a, b, c, d, e, f⟩ 11 = ((decide (3 ≤ k) && decide (k ≤ 10)) || (k == 12)) by simp [givesM]; rfl)
  rw [HR.out]
  obtain ⟨b1, h1⟩ : ∃ b1, decide (3 ≤ k) = b1 := ⟨_, rfl⟩
  obtain ⟨b2, h2⟩ : ∃ b2, decide (k ≤ 10) = b2 := ⟨_, rfl⟩
  obtain ⟨b3, h3⟩ : ∃ b3, (k == 12) = b3 := ⟨_, rfl⟩
  rw [h1, h2, h3]
  clear h hl hbb hyv
  cases b1 <;> cases b2 <;> cases b3
  all_goals
    go_enter Tryz.func104, Tryz.ntmps104
    go_upto_region 1 with (fail)
    (refine wp_region_nw (by kernel_rfl) (by kernel_rfl) ?_; (repeat (go_big_quiet_step ((go_at_call 134; exact quiet_of (HG.out _ (nwa)))))); refine wpQuiet_nil ?_; intro _ hreg; obtain ⟨dW, rfl⟩ : Nw _ _ := hreg)
    go_wp2
    go_ret
    exact ⟨rfl, nwa⟩
set_option maxRecDepth 20000 in
set_option maxHeartbeats 8000000 in
theorem gives_10 (w : World) (p : Pl) (s : Md) (h : MAt w p s) (hl : s.l.length ≤ 500000) (k a b c d e f : Int) :
    Calls Tryz.prog 104 #[.pointer (some ⟨p.gm, 0, none⟩), op7 k a b c d e f, .int .i64 10] w fun q w' => q = .returned (.bool (givesM s ⟨k, a, b, c, d, e, f⟩ 10)) ∧ Nw w w' := by
  obtain ⟨gm, gt, gp, v⟩ := p
  have m1 : w.cell? ⟨gm, 1, none⟩ = some (.pointer (some ⟨gp, 0, none⟩)) := h.m1
  haveI : In gm w := ⟨h.im⟩
  have HG := Lib.hid (fun W (hw : Nw w W) => get_om (h.om.nw hw : OM W gp v s.l) (by omega) a)
  obtain ⟨bb, hbb⟩ : ∃ bb, bb = hasK a s.l := ⟨_, rfl⟩
  obtain ⟨yv, hyv⟩ : ∃ yv, yv = valL a s.l := ⟨_, rfl⟩
  simp only [← hbb, ← hyv] at HG
  have HR := Lib.hid (show givesM s ⟨k, a, b, c, d, e, f⟩ 10 = (k == 1) by simp [givesM]; rfl)
  rw [HR.out]
  clear h hl hbb hyv
  go_enter Tryz.func104, Tryz.ntmps104
  go_upto_region 1 with (fail)
  (refine wp_region_nw (by kernel_rfl) (by kernel_rfl) ?_; (repeat (go_big_quiet_step ((go_at_call 134; exact quiet_of (HG.out _ (nwa)))))); refine wpQuiet_nil ?_; intro _ hreg; obtain ⟨dW, rfl⟩ : Nw _ _ := hreg)
  go_wp2
  go_ret
  exact ⟨rfl, nwa⟩
set_option maxRecDepth 20000 in
set_option maxHeartbeats 8000000 in
theorem gives_no (w : World) (p : Pl) (s : Md) (h : MAt w p s) (hl : s.l.length ≤ 500000) (k a b c d e f er : Int) (h11 : er ≠ 11) (h6 : er ≠ 6) (h10 : er ≠ 10) :
    Calls Tryz.prog 104 #[.pointer (some ⟨p.gm, 0, none⟩), op7 k a b c d e f, .int .i64 er] w fun q w' => q = .returned (.bool (givesM s ⟨k, a, b, c, d, e, f⟩ er)) ∧ Nw w w' := by
  obtain ⟨gm, gt, gp, v⟩ := p
  have m1 : w.cell? ⟨gm, 1, none⟩ = some (.pointer (some ⟨gp, 0, none⟩)) := h.m1
  haveI : In gm w := ⟨h.im⟩
  have HG := Lib.hid (fun W (hw : Nw w W) => get_om (h.om.nw hw : OM W gp v s.l) (by omega) a)
  obtain ⟨bb, hbb⟩ : ∃ bb, bb = hasK a s.l := ⟨_, rfl⟩
  obtain ⟨yv, hyv⟩ : ∃ yv, yv = valL a s.l := ⟨_, rfl⟩
  simp only [← hbb, ← hyv] at HG
  have HR := Lib.hid (show givesM s ⟨k, a, b, c, d, e, f⟩ er = false by simp [givesM, h11, h6, h10])
  rw [HR.out]
  have e1 : (er == 11) = false := by simpa using h11
  have e2 : (er == 6) = false := by simpa using h6
  have e3 : (er == 10) = false := by simpa using h10
  clear h hl hbb hyv
  go_enter Tryz.func104, Tryz.ntmps104
  go_upto_region 1 with (fail)
  (refine wp_region_nw (by kernel_rfl) (by kernel_rfl) ?_; (repeat (go_big_quiet_step ((go_at_call 134; exact quiet_of (HG.out _ (nwa)))))); refine wpQuiet_nil ?_; intro _ hreg; obtain ⟨dW, rfl⟩ : Nw _ _ := hreg)
  go_wp2
  go_ret
  exact ⟨rfl, nwa⟩
set_option maxRecDepth 20000 in
set_option maxHeartbeats 8000000 in
theorem gives_6_4 (w : World) (p : Pl) (s : Md) (h : MAt w p s) (hl : s.l.length ≤ 500000) (a b c d e f : Int) :
    Calls Tryz.prog 104 #[.pointer (some ⟨p.gm, 0, none⟩), op7 4 a b c d e f, .int .i64 6] w fun q w' => q = .returned (.bool (givesM s ⟨4, a, b, c, d, e, f⟩ 6)) ∧ Nw w w' := by
  obtain ⟨gm, gt, gp, v⟩ := p
  have m1 : w.cell? ⟨gm, 1, none⟩ = some (.pointer (some ⟨gp, 0, none⟩)) := h.m1
  haveI : In gm w := ⟨h.im⟩
  have HG := Lib.hid (fun W (hw : Nw w W) => get_om (h.om.nw hw : OM W gp v s.l) (by omega) a)
  obtain ⟨bb, hbb⟩ : ∃ bb, bb = hasK a s.l := ⟨_, rfl⟩
  obtain ⟨yv, hyv⟩ : ∃ yv, yv = valL a s.l := ⟨_, rfl⟩
  simp only [← hbb, ← hyv] at HG
  have HR := Lib.hid (show givesM s ⟨4, a, b, c, d, e, f⟩ 6 = !bb by rw [hbb]; simp [givesM])
  rw [HR.out]
  clear h hl hbb hyv
  cases bb
  all_goals
    go_enter Tryz.func104, Tryz.ntmps104
    go_upto_region 1 with (fail)
    (refine wp_region_nw (by kernel_rfl) (by kernel_rfl) ?_; (repeat (go_big_quiet_step ((go_at_call 134; exact quiet_of (HG.out _ (nwa)))))); refine wpQuiet_nil ?_; intro _ hreg; obtain ⟨dW, rfl⟩ : Nw _ _ := hreg)
    go_wp2
    go_ret
    exact ⟨rfl, nwa⟩
set_option maxRecDepth 20000 in
set_option maxHeartbeats 8000000 in
theorem gives_6_5 (w : World) (p : Pl) (s : Md) (h : MAt w p s) (hl : s.l.length ≤ 500000) (a b c d e f : Int) :
    Calls Tryz.prog 104 #[.pointer (some ⟨p.gm, 0, none⟩), op7 5 a b c d e f, .int .i64 6] w fun q w' => q = .returned (.bool (givesM s ⟨5, a, b, c, d, e, f⟩ 6)) ∧ Nw w w' := by
  obtain ⟨gm, gt, gp, v⟩ := p
  have m1 : w.cell? ⟨gm, 1, none⟩ = some (.pointer (some ⟨gp, 0, none⟩)) := h.m1
  haveI : In gm w := ⟨h.im⟩
  have HG := Lib.hid (fun W (hw : Nw w W) => get_om (h.om.nw hw : OM W gp v s.l) (by omega) a)
  obtain ⟨bb, hbb⟩ : ∃ bb, bb = hasK a s.l := ⟨_, rfl⟩
  obtain ⟨yv, hyv⟩ : ∃ yv, yv = valL a s.l := ⟨_, rfl⟩
  simp only [← hbb, ← hyv] at HG
  have HR := Lib.hid (show givesM s ⟨5, a, b, c, d, e, f⟩ 6 = !bb by rw [hbb]; simp [givesM])
  rw [HR.out]
  clear h hl hbb hyv
  cases bb
  all_goals
    go_enter Tryz.func104, Tryz.ntmps104
    go_upto_region 1 with (fail)
    (refine wp_region_nw (by kernel_rfl) (by kernel_rfl) ?_; (repeat (go_big_quiet_step ((go_at_call 134; exact quiet_of (HG.out _ (nwa)))))); refine wpQuiet_nil ?_; intro _ hreg; obtain ⟨dW, rfl⟩ : Nw _ _ := hreg)
    go_wp2
    go_ret
    exact ⟨rfl, nwa⟩
set_option maxRecDepth 20000 in
set_option maxHeartbeats 8000000 in
theorem gives_6_8 (w : World) (p : Pl) (s : Md) (h : MAt w p s) (hl : s.l.length ≤ 500000) (a b c d e f : Int) (hab : a ≤ b) (ha : 0 ≤ a) (he : 0 ≤ e) (hbe : b + e ≤ 18446744073709551615) :
    Calls Tryz.prog 104 #[.pointer (some ⟨p.gm, 0, none⟩), op7 8 a b c d e f, .int .i64 6] w fun q w' => q = .returned (.bool (givesM s ⟨8, a, b, c, d, e, f⟩ 6)) ∧ Nw w w' := by
  have HBI := Lib.hid (fun W (hw : Nw w W) => births_M W p s (h.nw hw) hl a b c d e f hab ha he hbe)
  obtain ⟨gm, gt, gp, v⟩ := p
  have m1 : w.cell? ⟨gm, 1, none⟩ = some (.pointer (some ⟨gp, 0, none⟩)) := h.m1
  haveI : In gm w := ⟨h.im⟩
  have HG := Lib.hid (fun W (hw : Nw w W) => get_om (h.om.nw hw : OM W gp v s.l) (by omega) a)
  obtain ⟨bb, hbb⟩ : ∃ bb, bb = hasK a s.l := ⟨_, rfl⟩
  obtain ⟨yv, hyv⟩ : ∃ yv, yv = valL a s.l := ⟨_, rfl⟩
  simp only [← hbb, ← hyv] at HG
  have HR := Lib.hid (show givesM s ⟨8, a, b, c, d, e, f⟩ 6 = birthsM s ⟨8, a, b, c, d, e, f⟩ by simp [givesM])
  rw [HR.out]
  obtain ⟨B, hB⟩ : ∃ B, B = birthsM s ⟨8, a, b, c, d, e, f⟩ := ⟨_, rfl⟩
  simp only [← hB] at HBI ⊢
  clear h hl hbb hyv hab ha he hbe hB
  go_enter Tryz.func104, Tryz.ntmps104
  go_upto_region 1 with (fail)
  (refine wp_region_nw (by kernel_rfl) (by kernel_rfl) ?_; (repeat (go_big_quiet_step ((go_at_call 134; exact quiet_of (HG.out _ (nwa)))))); refine wpQuiet_nil ?_; intro _ hreg; obtain ⟨dW, rfl⟩ : Nw _ _ := hreg)
  go_wp2_with (go_at_call 135; refine (HBI.out _ (nwa)).mono ?_; rintro e w' ⟨rfl, dW, rfl⟩)
  go_ret
  exact ⟨rfl, nwa⟩
set_option maxRecDepth 20000 in
set_option maxHeartbeats 8000000 in
theorem gives_6_no (w : World) (p : Pl) (s : Md) (h : MAt w p s) (hl : s.l.length ≤ 500000) (k a b c d e f : Int) (h4 : k ≠ 4) (h5 : k ≠ 5) (h8 : k ≠ 8) :
    Calls Tryz.prog 104 #[.pointer (some ⟨p.gm, 0, none⟩), op7 k a b c d e f, .int .i64 6] w fun q w' => q = .returned (.bool (givesM s ⟨k, a, b, c, d, e, f⟩ 6)) ∧ Nw w w' := by
  obtain ⟨gm, gt, gp, v⟩ := p
  have m1 : w.cell? ⟨gm, 1, none⟩ = some (.pointer (some ⟨gp, 0, none⟩)) := h.m1
  haveI : In gm w := ⟨h.im⟩
  have HG := Lib.hid (fun W (hw : Nw w W) => get_om (h.om.nw hw : OM W gp v s.l) (by omega) a)
  obtain ⟨bb, hbb⟩ : ∃ bb, bb = hasK a s.l := ⟨_, rfl⟩
  obtain ⟨yv, hyv⟩ : ∃ yv, yv = valL a s.l := ⟨_, rfl⟩
  simp only [← hbb, ← hyv] at HG
  have HR := Lib.hid (show givesM s ⟨k, a, b, c, d, e, f⟩ 6 = false by simp [givesM, h4, h5, h8])
  rw [HR.out]
  have e1 : (k == 4) = false := by simpa using h4
  have e2 : (k == 5) = false := by simpa using h5
  have e3 : (k == 8) = false := by simpa using h8
  clear h hl hbb hyv
  go_enter Tryz.func104, Tryz.ntmps104
  go_upto_region 1 with (fail)
  (refine wp_region_nw (by kernel_rfl) (by kernel_rfl) ?_; (repeat (go_big_quiet_step ((go_at_call 134; exact quiet_of (HG.out _ (nwa)))))); refine wpQuiet_nil ?_; intro _ hreg; obtain ⟨dW, rfl⟩ : Nw _ _ := hreg)
  go_wp2
  go_ret
  exact ⟨rfl, nwa⟩
theorem gives_M (w : World) (p : Pl) (s : Md) (h : MAt w p s) (hl : s.l.length ≤ 500000) (o : Ox) (hw : o.Wf) (hc : chkO o = 0) (er : Int) :
    Calls Tryz.prog 104 #[.pointer (some ⟨p.gm, 0, none⟩), opV o, .int .i64 er] w fun q w' => q = .returned (.bool (givesM s o er)) ∧ Nw w w' := by
  obtain ⟨hk, hab, hby⟩ := chk_formed hc
  obtain ⟨k, a, b, c, d, e, f⟩ := o
  have w1 := hw.key
  have w5 := hw.by_
  simp only at hk hab hby w1 w5
  unfold opV
  simp only
  by_cases h11 : er = 11
  · subst h11; exact gives_11 w p s h hl k a b c d e f
  by_cases h10 : er = 10
  · subst h10; exact gives_10 w p s h hl k a b c d e f
  by_cases h6 : er = 6
  · subst h6
    by_cases h4 : k = 4
    · subst h4; exact gives_6_4 w p s h hl a b c d e f
    by_cases h5 : k = 5
    · subst h5; exact gives_6_5 w p s h hl a b c d e f
    by_cases h8 : k = 8
    · subst h8
      have h9 := hby rfl
      exact gives_6_8 w p s h hl a b c d e f (hab rfl) w1.1 w5.1 (by omega)
    exact gives_6_no w p s h hl k a b c d e f h4 h5 h8
  exact gives_no w p s h hl k a b c d e f er h11 h6 h10
end Go.Proofs.YtkikdpdainmlcaaGreat
