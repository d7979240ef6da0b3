import Derived.Test.YtdjcndpnjoahmaaQj
namespace Go.Proofs.Ytdjcndpnjoahmaa
open Go.RowKit Go.Xt
/-! New, of, Session, Iterator, Pairs. -/
def Th0 : Th := ⟨false, false, 0, 0, false⟩
theorem tcells_made (n : Nat) : tcells (List.replicate n Th0) = thr (List.replicate n false) := by
  induction n with
  | zero => rfl
  | succ n ih => rw [List.replicate_succ, List.replicate_succ, tcells, List.flatMap_cons, ← tcells, ih]; rfl
set_option maxRecDepth 20000 in
set_option maxHeartbeats 8000000 in
theorem new_M (n : Nat) (s : Int) (w : World) (hn : 1 ≤ n ∧ n ≤ 8) (hs : 1 ≤ s ∧ s ≤ 64) :
    Calls Try.prog 10 #[cfgV n s] w fun e w' => (∃ p : Pl, e = .returned (.tuple #[.pointer (some ⟨p.gm, 0, none⟩), .int .i64 0]) ∧ MAt w' p ⟨s, [], List.replicate n Th0⟩ ∧ ∀ g ∈ p.foot, w.heap.size ≤ g) ∧ Nw w w' := by
  have hl := Lib.hid (fun W => layout_any n s W (by omega) hs)
  have HNn := Lib.hid hn
  obtain ⟨s1, s2⟩ := hs
  go_enter Try.func10, Try.ntmps10
  go_wp2_with fail
  refine (hl.out _).mono ?_
  rintro e w' ⟨rfl, dW, rfl⟩
  go_wp2_with fail
  refine (omapnew_any _).mono ?_
  rintro e w' ⟨rfl, rfl⟩
  go_upto_region 7 with (fail)
  obtain ⟨gp, hgp⟩ : ∃ g, g = ((w.alloc (.cells #[.int .i64 n, .int .i64 s, .int .u8 1, .int .i64 0, .int .u8 1, .int .i64 0, .slice none 0 0, .int .i64 0, .int .i64 0, .int .i64 0, .int .i64 0, .int .i64 0, .int .i64 0, .int .i64 1, .int .i64 1, .int .i64 0] 50)).ext none dW).heap.size := ⟨_, rfl⟩
  obtain ⟨W2, hW2⟩ : ∃ W2, W2 = ((w.alloc (.cells #[.int .i64 n, .int .i64 s, .int .u8 1, .int .i64 0, .int .u8 1, .int .i64 0, .slice none 0 0, .int .i64 0, .int .i64 0, .int .i64 0, .int .i64 0, .int .i64 0, .int .i64 0, .int .i64 1, .int .i64 1, .int .i64 0] 50)).ext none dW).alloc (.cells #[.slice none 0 0] 74) := ⟨_, rfl⟩
  rw [← hgp, ← hW2]
  have hn2 : Nw w W2 := by rw [hW2]; exact (by repeat (first | exact Xt.Nw.refl _ | refine Xt.Nw.drew ?_ | refine Xt.Nw.drewN ?_ _ | refine Xt.Nw.alloc ?_ _ | refine Xt.Nw.joined ?_ | refine Xt.Nw.drewd ?_ | refine Xt.Nw.drewdN ?_ | refine Xt.Nw.ext ?_ | refine Xt.Nw.ext_some ?_ (by assumption) | refine Xt.Nw.setCell ?_ (by simp [go_sem] <;> omega) _))
  have c0 : W2.cell? ⟨w.heap.size, 0, none⟩ = some (.int .i64 n) := by rw [hW2]; simp [go_sem]
  have c1 : W2.cell? ⟨w.heap.size, 1, none⟩ = some (.int .i64 s) := by rw [hW2]; simp [go_sem]
  have cp : W2.cell? ⟨gp, 0, none⟩ = some (.slice none 0 0) := by rw [hW2, hgp]; simp [go_sem]
  have cz : W2.frozen? ⟨gp, 0, none⟩ = false := by rw [hW2, hgp]; simp [go_sem]
  have hb1 : w.heap.size < gp := by
    have h := le_size (w.alloc (.cells #[.int .i64 n, .int .i64 s, .int .u8 1, .int .i64 0, .int .u8 1, .int .i64 0, .slice none 0 0, .int .i64 0, .int .i64 0, .int .i64 0, .int .i64 0, .int .i64 0, .int .i64 0, .int .i64 1, .int .i64 1, .int .i64 0] 50)) none dW
    rw [← hgp] at h
    simp at h; omega
  have hb2 : W2.heap.size = gp + 1 := by rw [hW2, hgp]; simp
  have HN2 := Lib.hid hn2
  have HCP := Lib.hid cp
  have HCZ := Lib.hid cz
  have HB1 := Lib.hid hb1
  have HB2 := Lib.hid hb2
  obtain ⟨i, hi1, hz0, hz1, hz2⟩ := info_parts thInfo
  obtain ⟨W3, hmk, hown, hgr⟩ := run_make_full W2.drew W2.heap.size 62 59 i (.agg #[.bool false, .bool false, .int .u64 0, .int .u64 0, .bool false]) 5 Try.underlying62 hi1 hz0 hz1 .i64 .i64 n (by rw [hz2]; omega) (by unfold maxLen; omega) (Nat.le_refl _)
  rw [thr_made hn] at hown
  have hd0 : W2.drew.heap.size = W2.heap.size := rfl
  rw [hd0] at hmk hown
  have hn3 : Nw W2 W3 := Nw.trans (Nw.drew (Nw.refl _)) (.of hgr)
  have e0 : W3.cell? ⟨w.heap.size, 0, none⟩ = some (.int .i64 n) := (World.cell?_of_block (hn3.grown.block _ (World.block_lt_of_cell? _ _ c0) (by simp))).trans c0
  have e1 : W3.cell? ⟨w.heap.size, 1, none⟩ = some (.int .i64 s) := (World.cell?_of_block (hn3.grown.block _ (World.block_lt_of_cell? _ _ c1) (by simp))).trans c1
  obtain ⟨gt, hgt⟩ : ∃ g, g = W2.heap.size := ⟨_, rfl⟩
  rw [← hgt] at hmk hown
  have HOW := Lib.hid hown
  have HN3 := Lib.hid hn3
  have HGT := Lib.hid hgt
  clear hW2 hgp hn2 cp cz hb1 hb2 hi1 hz0 hz1 hz2 hgr hown hn3 hgt hd0 hn
  go_region
  go_wp2
  have hs2 := HN2.out.grown.size
  have hs3 := HN3.out.grown.size
  have hgt2 : gt < W3.heap.size := by
    rcases own_forms HOW.out with ⟨_, h0⟩ | ⟨g, cap, hv, _, hin, _, _⟩
    · have := HNn.out; omega
    · injection hv with hv; injection hv with hv; injection hv with hv; rw [hv]; exact hin.lt
  have hA : Nw W3 (W3.alloc (.cells #[.int .i64 s, .pointer (some ⟨gp, 0, none⟩), .slice (some ⟨gt, 0, none⟩) n n] 64)) := (Nw.refl _).alloc _
  have hz : (W3.alloc (.cells #[.int .i64 s, .pointer (some ⟨gp, 0, none⟩), .slice (some ⟨gt, 0, none⟩) n n] 64)).heap.size = W3.heap.size + 1 := by simp
  have hgp2 : gp < W2.heap.size := by have := HB2.out; omega
  have h1 := HB1.out
  have h2 := HB2.out
  have h3 := HGT.out
  refine bodyPost_ret (results_tmp2 rfl _ _ _) rfl ⟨⟨⟨W3.heap.size, gt, gp, .slice none 0 0⟩, rfl, ⟨by simp [go_sem], by simp [go_sem], by simp [go_sem], fun o => by simp [go_sem], ?_, ⟨cell_nw HCP.out (HN3.out.trans hA), World.ownsRow_nil _ _ _ _, by simp [Value.ownBlock], (frozen_nw hgp2 (HN3.out.trans hA)).trans HCZ.out, List.Pairwise.nil⟩, by show W3.heap.size ≠ gt; omega, by show W3.heap.size ≠ gp; omega, by show gt ≠ gp; omega, by simp [Value.ownBlock], by simp [Value.ownBlock]⟩, ?_⟩, (HN2.out.trans HN3.out).trans hA⟩
  · unfold ThR
    rw [tcells_made, List.length_replicate]
    exact own_le (own_nw HOW.out hA) (Nat.zero_le _)
  · intro g hg
    rcases Pl.mem.1 hg with h9 | h9 | h9 | h9
    · have h9 : g = W3.heap.size := h9; omega
    · have h9 : g = gt := h9; omega
    · have h9 : g = gp := h9; omega
    · cases h9
/-- A thread, or one without anything. -/
def ofM (s : Md) (t : Int) : Th := if t < 0 ∨ (s.th.length : Int) ≤ t then Th0 else (s.th[t.toNat]?).getD Th0
abbrev thV (x : Th) : Value := .agg #[.bool x.op, .bool x.mo, .int .u64 x.lo, .int .u64 x.hi, .bool x.se]
theorem ofM_in {s : Md} {t : Nat} {x : Th} (h : s.th[t]? = some x) : ofM s t = x := by
  obtain ⟨p, _⟩ := List.getElem?_eq_some_iff.1 h
  unfold ofM
  rw [if_neg (by omega), Int.toNat_natCast, h]; rfl
set_option maxRecDepth 20000 in
set_option maxHeartbeats 4000000 in
theorem of_M (w : World) (p : Pl) (s : Md) (h : MAt w p s) (t : Int) :
    Calls Try.prog 15 #[.pointer (some ⟨p.gm, 0, none⟩), .int .i64 t] w fun e w' => e = .returned (thV (ofM s t)) ∧ Nw w w' := by
  by_cases h0 : t < 0 ∨ (s.th.length : Int) ≤ t
  · have e1 : ofM s t = Th0 := if_pos h0
    rw [e1]
    obtain ⟨gm, gt, gp, v⟩ := p
    have m2 : w.cell? ⟨gm, 2, none⟩ = some (.slice (some ⟨gt, 0, none⟩) s.th.length s.th.length) := h.m2
    haveI : In gm w := ⟨h.im⟩
    obtain ⟨n, hn⟩ : ∃ n, n = s.th.length := ⟨_, rfl⟩
    rw [← hn] at m2 h0
    simp only [Th0]
    clear h hn e1
    by_cases h1 : t < 0
    · have d0 : decide (t < 0) = true := by simpa using h1
      go_enter Try.func15, Try.ntmps15
      go_wp2
      refine bodyPost_ret (v := .agg #[.bool false, .bool false, .int .u64 0, .int .u64 0, .bool false]) ?_ rfl ⟨rfl, (by repeat (first | exact Xt.Nw.refl _ | refine Xt.Nw.drew ?_ | refine Xt.Nw.drewN ?_ _ | refine Xt.Nw.alloc ?_ _ | refine Xt.Nw.joined ?_ | refine Xt.Nw.drewd ?_ | refine Xt.Nw.drewdN ?_ | refine Xt.Nw.ext ?_ | refine Xt.Nw.ext_some ?_ (by assumption) | refine Xt.Nw.setCell ?_ (by simp [go_sem] <;> omega) _))⟩
      simp [results, Try.results15, go_sem]
    · have d0 : decide (t < 0) = false := by simpa using h1
      have d1 : decide ((n : Int) ≤ t) = true := by simp; omega
      go_enter Try.func15, Try.ntmps15
      go_wp2
      refine bodyPost_ret (v := .agg #[.bool false, .bool false, .int .u64 0, .int .u64 0, .bool false]) ?_ rfl ⟨rfl, (by repeat (first | exact Xt.Nw.refl _ | refine Xt.Nw.drew ?_ | refine Xt.Nw.drewN ?_ _ | refine Xt.Nw.alloc ?_ _ | refine Xt.Nw.joined ?_ | refine Xt.Nw.drewd ?_ | refine Xt.Nw.drewdN ?_ | refine Xt.Nw.ext ?_ | refine Xt.Nw.ext_some ?_ (by assumption) | refine Xt.Nw.setCell ?_ (by simp [go_sem] <;> omega) _))⟩
      simp [results, Try.results15, go_sem]
  · obtain ⟨t, rfl⟩ : ∃ n : Nat, t = n := ⟨t.toNat, by omega⟩
    obtain ⟨x, ht⟩ : ∃ x, s.th[t]? = some x := ⟨_, List.getElem?_eq_getElem (by omega)⟩
    rw [ofM_in ht]
    obtain ⟨p0, _⟩ := List.getElem?_eq_some_iff.1 ht
    obtain ⟨gm, gt, gp, v⟩ := p
    obtain ⟨c0, c1, c2, c3, c4⟩ := ThR.cells (gt := gt) h.th ht
    have m2 : w.cell? ⟨gm, 2, none⟩ = some (.slice (some ⟨gt, 0, none⟩) s.th.length s.th.length) := h.m2
    haveI : In gm w := ⟨h.im⟩
    haveI : In gt w := ⟨h.it⟩
    obtain ⟨n, hn⟩ : ∃ n, n = s.th.length := ⟨_, rfl⟩
    rw [← hn] at m2 p0
    have t0 : (0 : Int) ≤ (t : Int) := by omega
    have t1 : (t : Int) < (n : Int) := by omega
    have d0 : decide ((t : Int) < 0) = false := by rw [decide_eq_false_iff_not]; omega
    have d1 : decide ((n : Int) ≤ (t : Int)) = false := by rw [decide_eq_false_iff_not]; omega
    obtain ⟨xo, xm, xl, xh, xs⟩ := x
    simp only at c0 c1 c2 c3 c4 ⊢
    clear h ht hn h0
    go_enter Try.func15, Try.ntmps15
    go_wp2
    refine bodyPost_ret (v := .agg #[.bool xo, .bool xm, .int .u64 xl, .int .u64 xh, .bool xs]) ?_ rfl ⟨rfl, (by repeat (first | exact Xt.Nw.refl _ | refine Xt.Nw.drew ?_ | refine Xt.Nw.drewN ?_ _ | refine Xt.Nw.alloc ?_ _ | refine Xt.Nw.joined ?_ | refine Xt.Nw.drewd ?_ | refine Xt.Nw.drewdN ?_ | refine Xt.Nw.ext ?_ | refine Xt.Nw.ext_some ?_ (by assumption) | refine Xt.Nw.setCell ?_ (by simp [go_sem] <;> omega) _))⟩
    simp [results, Try.results15, go_sem, *]
set_option maxRecDepth 20000 in
set_option maxHeartbeats 4000000 in
theorem session_M (w : World) (p : Pl) (s : Md) (h : MAt w p s) (t : Int) :
    Calls Try.prog 7 #[.pointer (some ⟨p.gm, 0, none⟩), .int .i64 t] w fun e w' => e = .returned (.bool (ofM s t).se) ∧ Nw w w' := by
  have H := Lib.hid (of_M w p s h t)
  obtain ⟨x, hx⟩ : ∃ x, x = ofM s t := ⟨_, rfl⟩
  simp only [← hx] at H ⊢
  clear hx
  obtain ⟨xo, xm, xl, xh, xs⟩ := x
  simp only at H ⊢
  clear h
  go_enter Try.func7, Try.ntmps7
  go_wp2_with fail
  refine H.out.mono ?_
  rintro e w' ⟨rfl, dW, rfl⟩
  go_wp2
  go_ret
  exact ⟨rfl, (by repeat (first | exact Xt.Nw.refl _ | refine Xt.Nw.drew ?_ | refine Xt.Nw.drewN ?_ _ | refine Xt.Nw.alloc ?_ _ | refine Xt.Nw.joined ?_ | refine Xt.Nw.drewd ?_ | refine Xt.Nw.drewdN ?_ | refine Xt.Nw.ext ?_ | refine Xt.Nw.ext_some ?_ (by assumption) | refine Xt.Nw.setCell ?_ (by simp [go_sem] <;> omega) _))⟩
set_option maxRecDepth 20000 in
set_option maxHeartbeats 4000000 in
theorem iter_M (w : World) (p : Pl) (s : Md) (h : MAt w p s) (t : Int) :
    Calls Try.prog 9 #[.pointer (some ⟨p.gm, 0, none⟩), .int .i64 t] w fun e w' => e = .returned (.tuple #[.agg #[.int .u64 (ofM s t).lo, .int .u64 (ofM s t).hi], .bool (ofM s t).mo, .bool (ofM s t).op]) ∧ Nw w w' := by
  have H := Lib.hid (fun W (hw : Nw w W) => of_M W p s (h.nw hw) t)
  haveI : In p.gm w := ⟨h.im⟩
  obtain ⟨x, hx⟩ : ∃ x, x = ofM s t := ⟨_, rfl⟩
  simp only [← hx] at H ⊢
  clear hx
  obtain ⟨xo, xm, xl, xh, xs⟩ := x
  simp only at H ⊢
  clear h
  go_enter Try.func9, Try.ntmps9
  go_wp2_with fail
  have hA : Nw w (w.alloc (.cells #[.int .u64 0, .int .u64 0] 25)) := (Nw.refl _).alloc _
  refine (H.out _ hA).mono ?_
  rintro e W2 ⟨rfl, hn2⟩
  have a0 : W2.cell? ⟨w.heap.size, 0, none⟩ = some (.int .u64 0) := cell_nw (by simp [go_sem]) hn2
  have a1 : W2.cell? ⟨w.heap.size, 1, none⟩ = some (.int .u64 0) := cell_nw (by simp [go_sem]) hn2
  have z0 : W2.frozen? ⟨w.heap.size, 0, none⟩ = false := (frozen_nw (by simp) hn2).trans (by simp [go_sem])
  have z1 : W2.frozen? ⟨w.heap.size, 1, none⟩ = false := (frozen_nw (by simp) hn2).trans (by simp [go_sem])
  haveI : In w.heap.size W2 := ⟨World.block_lt_of_cell? W2 _ a0⟩
  have HN := Lib.hid (hA.trans hn2)
  clear hA hn2
  go_upto_region 2 with (fail)
  go_region
  go_wp2
  refine bodyPost_ret (v := .tuple #[.agg #[.int .u64 xl, .int .u64 xh], .bool xm, .bool xo]) ?_ rfl ⟨rfl, ?_⟩
  · simp [results, Try.results9, go_sem, a0, a1]
  · repeat (first | refine Xt.Nw.drew ?_ | refine Xt.Nw.alloc ?_ _ | refine Xt.Nw.setCell ?_ (by simp) _)
    exact HN.out
set_option maxRecDepth 20000 in
set_option maxHeartbeats 4000000 in
theorem opairs_M {w : World} {gp : Nat} {v : Value} {l : List (Int × Int)} (h : OM w gp v l) (hn : l.length ≤ 1000000) :
    Calls Try.prog 16 #[.pointer (some ⟨gp, 0, none⟩)] w fun e w' => ∃ v', e = .returned v' ∧ w'.ownsRow w.heap.size 39 2 v' l.length (pcells l) ∧ Nw w w' := by
  have p0 := h.p0
  haveI : In gp w := ⟨h.lt⟩
  rcases h.form with ⟨rfl, rfl⟩ | ⟨g, c, rfl, -, -, hin⟩
  · have HR := Lib.hid (⟨rfl, fun h => by omega⟩ : Rd w 2 none 0 (pcells []))
    clear h
    go_enter Try.func16, Try.ntmps16
    go_wp2_with fail
    refine (clone_any none 0 0 [] w HR.out (by omega) (fun _ => ⟨rfl, rfl⟩)).mono ?_
    rintro e w' ⟨v', rfl, hown, dW, rfl⟩
    go_wp2
    exact bodyPost_ret (results_tmp rfl _ _ _) rfl ⟨v', rfl, hown, (by repeat (first | exact Xt.Nw.refl _ | refine Xt.Nw.drew ?_ | refine Xt.Nw.drewN ?_ _ | refine Xt.Nw.alloc ?_ _ | refine Xt.Nw.joined ?_ | refine Xt.Nw.drewd ?_ | refine Xt.Nw.drewdN ?_ | refine Xt.Nw.ext ?_ | refine Xt.Nw.ext_some ?_ (by assumption) | refine Xt.Nw.setCell ?_ (by simp [go_sem] <;> omega) _))⟩
  · have HR := Lib.hid (⟨pcells_len l, fun hl => ⟨g, 0, rfl, hin.lt, fun j u hu => by
        have := (List.getElem?_eq_some_iff.1 hu).1
        rw [pcells_len] at this
        rw [Nat.zero_add, h.row.cellAt _ this]; exact hu⟩⟩ : Rd w 2 (some ⟨g, 0, none⟩) l.length (pcells l))
    clear h
    go_enter Try.func16, Try.ntmps16
    go_wp2_with fail
    refine (clone_any _ l.length c l w HR.out hn (fun h => by cases h)).mono ?_
    rintro e w' ⟨v', rfl, hown, dW, rfl⟩
    go_wp2
    exact bodyPost_ret (results_tmp rfl _ _ _) rfl ⟨v', rfl, hown, (by repeat (first | exact Xt.Nw.refl _ | refine Xt.Nw.drew ?_ | refine Xt.Nw.drewN ?_ _ | refine Xt.Nw.alloc ?_ _ | refine Xt.Nw.joined ?_ | refine Xt.Nw.drewd ?_ | refine Xt.Nw.drewdN ?_ | refine Xt.Nw.ext ?_ | refine Xt.Nw.ext_some ?_ (by assumption) | refine Xt.Nw.setCell ?_ (by simp [go_sem] <;> omega) _))⟩
set_option maxRecDepth 20000 in
set_option maxHeartbeats 4000000 in
theorem pairs_M (w : World) (p : Pl) (s : Md) (h : MAt w p s) (hl : s.l.length ≤ 1000000) :
    Calls Try.prog 8 #[.pointer (some ⟨p.gm, 0, none⟩)] w fun e w' => ∃ v', e = .returned v' ∧ w'.ownsRow w.heap.size 39 2 v' s.l.length (pcells s.l) ∧ Nw w w' := by
  have HP := Lib.hid (opairs_M h.om hl)
  have m1 := h.m1
  have im := h.im
  obtain ⟨gm, gt, gp, v⟩ := p
  simp only at HP m1 im ⊢
  haveI : In gm w := ⟨im⟩
  clear h im
  go_enter Try.func8, Try.ntmps8
  go_wp2_with fail
  refine HP.out.mono ?_
  rintro e w' ⟨v', rfl, hown, dW, rfl⟩
  go_wp2
  exact bodyPost_ret (results_tmp rfl _ _ _) rfl ⟨v', rfl, hown, (by repeat (first | exact Xt.Nw.refl _ | refine Xt.Nw.drew ?_ | refine Xt.Nw.drewN ?_ _ | refine Xt.Nw.alloc ?_ _ | refine Xt.Nw.joined ?_ | refine Xt.Nw.drewd ?_ | refine Xt.Nw.drewdN ?_ | refine Xt.Nw.ext ?_ | refine Xt.Nw.ext_some ?_ (by assumption) | refine Xt.Nw.setCell ?_ (by simp [go_sem] <;> omega) _))⟩
end Go.Proofs.Ytdjcndpnjoahmaa
