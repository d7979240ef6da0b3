import Derived.Test.YtahagplegmcaaaaGreatGWh
import Derived.Test.YtahagplegmcaaaaGreatGWe
import Derived.Test.YtahagplegmcaaaaGreatGVt
import Derived.Test.YtahagplegmcaaaaGreatGQp
import Derived.Deep.AppendSrc
set_option linter.unusedVariables false
set_option linter.unusedSimpArgs false
namespace Go.Proofs.YtahagplegmcaaaaGreat
open Go.RowKit Go.Xt
/-! The reference's model: tries, full. -/
def triesB (k : Int) : Bool := (decide (3 ≤ k) && decide (k ≤ 10)) || decide (k = 12)
theorem rtries_any (k : Int) (w : World) : Calls Tryz.prog 27 #[.int .u8 k] w fun e w' => e = .returned (.bool (triesB k)) ∧ Nw w w' := by
  unfold triesB
  obtain ⟨p, hp⟩ : ∃ p, decide (3 ≤ k) = p := ⟨_, rfl⟩
  obtain ⟨q, hq⟩ : ∃ q, decide (k ≤ 10) = q := ⟨_, rfl⟩
  have hr2 : (k == 12) = decide (k = 12) := rfl
  obtain ⟨r, hr⟩ : ∃ r, decide (k = 12) = r := ⟨_, rfl⟩
  rw [hr] at hr2
  rw [hp, hq, hr]
  clear hr
  cases p <;> cases q <;> cases r
  all_goals
    go_enter Tryz.func27, Tryz.ntmps27
    go_wp2
    go_ret
    exact ⟨rfl, (by repeat (first | exact Xt.Nw.refl _ | refine Xt.Nw.drew ?_ | refine Xt.Nw.drewN ?_ _ | refine Xt.Nw.alloc ?_ _ | refine Xt.Nw.joined ?_ | refine Xt.Nw.drewd ?_ | refine Xt.Nw.drewdN ?_ | refine Xt.Nw.ext ?_ | refine Xt.Nw.ext_some ?_ (by assumption) | refine Xt.Nw.setCell ?_ (by simp [go_sem] <;> omega) _))⟩
set_option maxRecDepth 20000 in
set_option maxHeartbeats 8000000 in
theorem rfull_4 (w : World) (p : Pl) (cf : Cf) (s : Md) (h : RAt w p cf s) (hl : s.l.length ≤ 400000) (a b c d e f : Int) :
    Calls Tryz.prog 28 #[.pointer (some ⟨p.gm, 0, none⟩), op7 4 a b c d e f] w fun q w' => q = .returned (.bool (!hasK a s.l)) ∧ Nw w w' := by
  obtain ⟨gm, gt, gp, v⟩ := p
  have im : gm < w.heap.size := h.im
  have m1 : w.cell? ⟨gm, 16, none⟩ = some (.pointer (some ⟨gp, 0, none⟩)) := h.m1
  obtain ⟨W2, hW2⟩ : ∃ W2, W2 = w.alloc (.cells #[.int .u8 4, .int .u64 a, .int .u64 b, .int .u64 c, .int .u64 d, .int .u64 e, .int .u64 f] 40) := ⟨_, rfl⟩
  have hn2 : Nw w W2 := by rw [hW2]; exact (by repeat (first | exact Xt.Nw.refl _ | refine Xt.Nw.drew ?_ | refine Xt.Nw.drewN ?_ _ | refine Xt.Nw.alloc ?_ _ | refine Xt.Nw.joined ?_ | refine Xt.Nw.drewd ?_ | refine Xt.Nw.drewdN ?_ | refine Xt.Nw.ext ?_ | refine Xt.Nw.ext_some ?_ (by assumption) | refine Xt.Nw.setCell ?_ (by simp [go_sem] <;> omega) _))
  have q0 : W2.cell? ⟨w.heap.size, 0, none⟩ = some (.int .u8 4) := by rw [hW2]; simp [go_sem]
  have q1 : W2.cell? ⟨w.heap.size, 1, none⟩ = some (.int .u64 a) := by rw [hW2]; simp [go_sem]
  have q2 : W2.cell? ⟨w.heap.size, 2, none⟩ = some (.int .u64 b) := by rw [hW2]; simp [go_sem]
  have q5 : W2.cell? ⟨w.heap.size, 5, none⟩ = some (.int .u64 e) := by rw [hW2]; simp [go_sem]
  replace m1 := cell_nw m1 hn2
  haveI : In gm w := ⟨im⟩
  haveI : In gm W2 := ⟨World.block_lt_of_cell? _ _ m1⟩
  haveI : In w.heap.size W2 := ⟨World.block_lt_of_cell? _ _ q0⟩
  have HG := Lib.hid (fun W (hw : Nw w W) => rget_om ((h.nw hw).om : OM W gp v s.l) (by omega) a)
  obtain ⟨bb, hb⟩ : ∃ y, y = hasK a s.l := ⟨_, rfl⟩
  obtain ⟨y, hy⟩ : ∃ y, y = valL a s.l := ⟨_, rfl⟩
  rw [← hb, ← hy] at HG
  rw [← hb]
  have HN2 := Lib.hid hn2
  have HW2 := Lib.hid hW2
  clear h hl hb hy hW2 hn2 im
  go_enter Tryz.func28, Tryz.ntmps28
  go_upto_region 2 with (fail)
  rw [← HW2.out]
  go_region_held3 (fun w' => w'.cell? ⟨gm, 16, none⟩ = some (.pointer (some ⟨gp, 0, none⟩)) ∧ w'.cell? ⟨w.heap.size, 1, none⟩ = some (.int .u64 a)) (first | exact ⟨m1, q1⟩ | exact ⟨cell_nw m1 (Nw.drew (Nw.refl _)), cell_nw q1 (Nw.drew (Nw.refl _))⟩ | exact ⟨cell_nw m1 hn6, cell_nw q1 hn6⟩)
    ((first | (go_at_call 32; refine (HG.out W2.drew (Nw.drew HN2.out)).mono ?_; rintro r W3 ⟨rfl, hn5⟩; have hn6 : Nw W2 W3 := (Nw.drew (Nw.refl W2)).trans hn5)))
  have HN6 := Lib.hid (HN2.out.trans hn6)
  clear hn6 hn5
  go_wp2
  go_ret
  exact ⟨rfl, HN6.out⟩
set_option maxRecDepth 20000 in
set_option maxHeartbeats 8000000 in
theorem rfull_5 (w : World) (p : Pl) (cf : Cf) (s : Md) (h : RAt w p cf s) (hl : s.l.length ≤ 400000) (a b c d e f : Int) :
    Calls Tryz.prog 28 #[.pointer (some ⟨p.gm, 0, none⟩), op7 5 a b c d e f] w fun q w' => q = .returned (.bool (!hasK a s.l)) ∧ Nw w w' := by
  obtain ⟨gm, gt, gp, v⟩ := p
  have im : gm < w.heap.size := h.im
  have m1 : w.cell? ⟨gm, 16, none⟩ = some (.pointer (some ⟨gp, 0, none⟩)) := h.m1
  obtain ⟨W2, hW2⟩ : ∃ W2, W2 = w.alloc (.cells #[.int .u8 5, .int .u64 a, .int .u64 b, .int .u64 c, .int .u64 d, .int .u64 e, .int .u64 f] 40) := ⟨_, rfl⟩
  have hn2 : Nw w W2 := by rw [hW2]; exact (by repeat (first | exact Xt.Nw.refl _ | refine Xt.Nw.drew ?_ | refine Xt.Nw.drewN ?_ _ | refine Xt.Nw.alloc ?_ _ | refine Xt.Nw.joined ?_ | refine Xt.Nw.drewd ?_ | refine Xt.Nw.drewdN ?_ | refine Xt.Nw.ext ?_ | refine Xt.Nw.ext_some ?_ (by assumption) | refine Xt.Nw.setCell ?_ (by simp [go_sem] <;> omega) _))
  have q0 : W2.cell? ⟨w.heap.size, 0, none⟩ = some (.int .u8 5) := by rw [hW2]; simp [go_sem]
  have q1 : W2.cell? ⟨w.heap.size, 1, none⟩ = some (.int .u64 a) := by rw [hW2]; simp [go_sem]
  have q2 : W2.cell? ⟨w.heap.size, 2, none⟩ = some (.int .u64 b) := by rw [hW2]; simp [go_sem]
  have q5 : W2.cell? ⟨w.heap.size, 5, none⟩ = some (.int .u64 e) := by rw [hW2]; simp [go_sem]
  replace m1 := cell_nw m1 hn2
  haveI : In gm w := ⟨im⟩
  haveI : In gm W2 := ⟨World.block_lt_of_cell? _ _ m1⟩
  haveI : In w.heap.size W2 := ⟨World.block_lt_of_cell? _ _ q0⟩
  have HG := Lib.hid (fun W (hw : Nw w W) => rget_om ((h.nw hw).om : OM W gp v s.l) (by omega) a)
  obtain ⟨bb, hb⟩ : ∃ y, y = hasK a s.l := ⟨_, rfl⟩
  obtain ⟨y, hy⟩ : ∃ y, y = valL a s.l := ⟨_, rfl⟩
  rw [← hb, ← hy] at HG
  rw [← hb]
  have HN2 := Lib.hid hn2
  have HW2 := Lib.hid hW2
  clear h hl hb hy hW2 hn2 im
  go_enter Tryz.func28, Tryz.ntmps28
  go_upto_region 2 with (fail)
  rw [← HW2.out]
  go_region_held3 (fun w' => w'.cell? ⟨gm, 16, none⟩ = some (.pointer (some ⟨gp, 0, none⟩)) ∧ w'.cell? ⟨w.heap.size, 1, none⟩ = some (.int .u64 a)) (first | exact ⟨m1, q1⟩ | exact ⟨cell_nw m1 (Nw.drew (Nw.refl _)), cell_nw q1 (Nw.drew (Nw.refl _))⟩ | exact ⟨cell_nw m1 hn6, cell_nw q1 hn6⟩)
    ((first | (go_at_call 32; refine (HG.out W2.drew (Nw.drew HN2.out)).mono ?_; rintro r W3 ⟨rfl, hn5⟩; have hn6 : Nw W2 W3 := (Nw.drew (Nw.refl W2)).trans hn5)))
  have HN6 := Lib.hid (HN2.out.trans hn6)
  clear hn6 hn5
  go_wp2
  go_ret
  exact ⟨rfl, HN6.out⟩
set_option maxRecDepth 20000 in
set_option maxHeartbeats 8000000 in
theorem rfull_no (w : World) (p : Pl) (cf : Cf) (s : Md) (h : RAt w p cf s) (hl : s.l.length ≤ 400000) (k a b c d e f : Int) (h4 : k ≠ 4) (h5 : k ≠ 5) (h8 : k ≠ 8) :
    Calls Tryz.prog 28 #[.pointer (some ⟨p.gm, 0, none⟩), op7 k a b c d e f] w fun q w' => q = .returned (.bool (false)) ∧ Nw w w' := by
  have d4 : (k == 4) = false := by simpa using h4
  have d5 : (k == 5) = false := by simpa using h5
  have d8 : (k != 8) = true := by simpa using h8
  clear h hl h4 h5 h8
  go_enter Tryz.func28, Tryz.ntmps28
  go_wp2
  go_ret
  exact ⟨rfl, (by repeat (first | exact Xt.Nw.refl _ | refine Xt.Nw.drew ?_ | refine Xt.Nw.drewN ?_ _ | refine Xt.Nw.alloc ?_ _ | refine Xt.Nw.joined ?_ | refine Xt.Nw.drewd ?_ | refine Xt.Nw.drewdN ?_ | refine Xt.Nw.ext ?_ | refine Xt.Nw.ext_some ?_ (by assumption) | refine Xt.Nw.setCell ?_ (by simp [go_sem] <;> omega) _))⟩
set_option maxRecDepth 20000 in
set_option maxHeartbeats 8000000 in
theorem rfull_8 (w : World) (p : Pl) (cf : Cf) (s : Md) (h : RAt w p cf s) (hl : s.l.length ≤ 400000) (a b c d e f : Int) (hab : a ≤ b) (ha : 0 ≤ a) (he : 0 < e) (hbe : e + b ≤ 18446744073709551615) :
    Calls Tryz.prog 28 #[.pointer (some ⟨p.gm, 0, none⟩), op7 8 a b c d e f] w fun q w' => q = .returned (.bool ((inR a b s.l).any fun p => !hasK (p.1 + e) s.l)) ∧ Nw w w' := by
  obtain ⟨gm, gt, gp, v⟩ := p
  have im : gm < w.heap.size := h.im
  have m1 : w.cell? ⟨gm, 16, none⟩ = some (.pointer (some ⟨gp, 0, none⟩)) := h.m1
  obtain ⟨W2, hW2⟩ : ∃ W2, W2 = w.alloc (.cells #[.int .u8 8, .int .u64 a, .int .u64 b, .int .u64 c, .int .u64 d, .int .u64 e, .int .u64 f] 40) := ⟨_, rfl⟩
  have hn2 : Nw w W2 := by rw [hW2]; exact (by repeat (first | exact Xt.Nw.refl _ | refine Xt.Nw.drew ?_ | refine Xt.Nw.drewN ?_ _ | refine Xt.Nw.alloc ?_ _ | refine Xt.Nw.joined ?_ | refine Xt.Nw.drewd ?_ | refine Xt.Nw.drewdN ?_ | refine Xt.Nw.ext ?_ | refine Xt.Nw.ext_some ?_ (by assumption) | refine Xt.Nw.setCell ?_ (by simp [go_sem] <;> omega) _))
  have q0 : W2.cell? ⟨w.heap.size, 0, none⟩ = some (.int .u8 8) := by rw [hW2]; simp [go_sem]
  have q1 : W2.cell? ⟨w.heap.size, 1, none⟩ = some (.int .u64 a) := by rw [hW2]; simp [go_sem]
  have q2 : W2.cell? ⟨w.heap.size, 2, none⟩ = some (.int .u64 b) := by rw [hW2]; simp [go_sem]
  have q5 : W2.cell? ⟨w.heap.size, 5, none⟩ = some (.int .u64 e) := by rw [hW2]; simp [go_sem]
  replace m1 := cell_nw m1 hn2
  haveI : In gm w := ⟨im⟩
  haveI : In gm W2 := ⟨World.block_lt_of_cell? _ _ m1⟩
  haveI : In w.heap.size W2 := ⟨World.block_lt_of_cell? _ _ q0⟩
  obtain ⟨A, ca, hv⟩ := own_slice h.om.row
  have hv2 : v = .slice A s.l.length ca := hv
  have pv : w.cell? ⟨gp, 0, none⟩ = some v := h.om.p0
  have HPL := Lib.hid (fun W (hw : Nw w W) => rplan W v s.l ((h.nw hw).om.row : W.ownsRow 0 104 2 v s.l.length (pcells s.l)) h.om.asc hl a b e hab ha he hbe)
  rw [hv2] at pv HPL
  have HPO := Lib.hid (plan_ok (lo := a) (hi := b) (b := e) h.om.asc)
  have HPN := Lib.hid (plan_len a b e s.l)
  have HBI := Lib.hid (born_iff (lo := a) (hi := b) (b := e) h.om.asc)
  replace pv := cell_nw pv hn2
  haveI : In gp W2 := ⟨World.block_lt_of_cell? _ _ pv⟩
  have HLL := Lib.hid hl
  obtain ⟨nl, hnl⟩ : ∃ y, y = s.l.length := ⟨_, rfl⟩
  rw [← hnl] at pv HPL
  have HN2 := Lib.hid hn2
  have HW2 := Lib.hid hW2
  clear h hl hv hv2 hnl hW2 hn2 im hab ha he hbe
  go_enter Tryz.func28, Tryz.ntmps28
  go_upto_region 6 with (fail)
  rw [← HW2.out]
  unfold spV at HPL
  go_region_held3 (fun w' => w'.cell? ⟨gm, 16, none⟩ = some (.pointer (some ⟨gp, 0, none⟩)) ∧ w'.cell? ⟨gp, 0, none⟩ = some (.slice A nl ca) ∧ w'.cell? ⟨w.heap.size, 1, none⟩ = some (.int .u64 a) ∧ w'.cell? ⟨w.heap.size, 2, none⟩ = some (.int .u64 b) ∧ w'.cell? ⟨w.heap.size, 5, none⟩ = some (.int .u64 e)) (first | exact ⟨m1, pv, q1, q2, q5⟩ | exact ⟨cell_nw m1 (Nw.drew (Nw.refl _)), cell_nw pv (Nw.drew (Nw.refl _)), cell_nw q1 (Nw.drew (Nw.refl _)), cell_nw q2 (Nw.drew (Nw.refl _)), cell_nw q5 (Nw.drew (Nw.refl _))⟩ | exact ⟨cell_nw m1 hn6, cell_nw pv hn6, cell_nw q1 hn6, cell_nw q2 hn6, cell_nw q5 hn6⟩)
    ((first | (go_at_call 72; refine (HPL.out W2.drew (Nw.drew HN2.out)).mono ?_; rintro r W3 ⟨Ap, cp, rfl, hrd, hn5⟩; have hn6 : Nw W2 W3 := (Nw.drew (Nw.refl W2)).trans hn5)))
  have HN6 := Lib.hid (HN2.out.trans hn6)
  have HCT := Lib.hid (rcounts W3 Ap _ cp _ hrd (by have := HPN.out; have := HLL.out; omega) rfl HPO.out)
  clear hn6 hn5 hrd
  go_wp2_with fail
  refine HCT.out.mono ?_
  rintro r W4 ⟨G, S, rfl, dW, rfl⟩
  obtain ⟨B, hB⟩ : ∃ B, B = bornL (planL a b e s.l) := ⟨_, rfl⟩
  rw [← hB]
  have HB := Lib.hid hB
  clear hB
  go_wp2
  go_ret
  refine ⟨ret_bool ?_, HN6.out.trans ⟨_, rfl⟩⟩
  rw [← HBI.out]
  show _ = decide (0 < bornL (planL a b e s.l))
  rw [← HB.out]
theorem rfull_any (w : World) (p : Pl) (cf : Cf) (s : Md) (h : RAt w p cf s) (hl : s.l.length ≤ 400000) (o : Ox) (hw : o.Wf) (hc : chkO o = 0) :
    Calls Tryz.prog 28 #[.pointer (some ⟨p.gm, 0, none⟩), opV o] w fun q w' => q = .returned (.bool (givesM s o 6)) ∧ Nw w w' := by
  obtain ⟨hk, hab, hby⟩ := chk_formed hc
  obtain ⟨k, a, b, c, d, e, f⟩ := o
  have w1 := hw.key
  have w2 := hw.hi
  have w5 := hw.by_
  simp only at hk hab hby w1 w2 w5
  unfold opV
  simp only
  by_cases h4 : k = 4
  · subst h4
    have e1 : givesM s ⟨4, a, b, c, d, e, f⟩ 6 = !hasK a s.l := by simp [givesM]
    rw [e1]; exact rfull_4 w p cf s h hl a b c d e f
  by_cases h5 : k = 5
  · subst h5
    have e1 : givesM s ⟨5, a, b, c, d, e, f⟩ 6 = !hasK a s.l := by simp [givesM]
    rw [e1]; exact rfull_5 w p cf s h hl a b c d e f
  by_cases h8 : k = 8
  · subst h8
    have e1 : givesM s ⟨8, a, b, c, d, e, f⟩ 6 = (inR a b s.l).any fun p => !hasK (p.1 + e) s.l := by simp [givesM, birthsM]
    rw [e1]; exact rfull_8 w p cf s h hl a b c d e f (hab rfl) w1.1 (by have := (hby rfl).1; omega) (by have := (hby rfl).2; omega)
  · have e1 : givesM s ⟨k, a, b, c, d, e, f⟩ 6 = false := by simp [givesM, h4, h5, h8]
    rw [e1]; exact rfull_no w p cf s h hl k a b c d e f h4 h5 h8
end Go.Proofs.YtahagplegmcaaaaGreat
namespace Go.Proofs.YtahagplegmcaaaaGreat
open Go.RowKit Go.Xt
/-! Copy of a model. -/
noncomputable def thCap (W : World) (n : Nat) : Nat := grownCap W (0 + n) 0 73
noncomputable def thArr (W : World) (th : List Th) : Array Value := ([] ++ tcells th).toArray ++ Builtin.zeroCells (Value.agg #[.bool false, .bool false, .int .u64 0, .int .u64 0, .bool false]).cells (thCap W th.length - (0 + th.length))
theorem tcells_one (th : List Th) : ∀ u ∈ tcells th, u.oneCell' = true := by
  intro u hu
  obtain ⟨x, _, hx⟩ := List.mem_flatMap.1 hu
  simp [thc] at hx
  rcases hx with rfl | rfl | rfl | rfl | rfl <;> rfl
theorem run_thcopy (W : World) (gt ct : Nat) (th : List Th) (h : ThR W gt th) (h0 : 0 < th.length) (hn : th.length ≤ 1000) (ty : TypeId) :
    (Builtin.append_ #[54, 54] ty #[.slice none 0 0, .slice (some ⟨gt, 0, none⟩) th.length ct]).run Tryz.prog W = .ok (.slice (some ⟨W.heap.size, 0, none⟩) (0 + th.length) (thCap W th.length)) (W.drew.alloc (.cells (thArr W th) 73)) := by
  obtain ⟨i, hi1, hz0, hz1, hz2⟩ := info_parts thInfo
  obtain ⟨c, h⟩ := h
  have hsrc : Src Tryz.prog i.size 54 (.slice (some ⟨gt, 0, none⟩) th.length ct) th.length (tcells th) W :=
    Src.ofSlice W Tryz.underlying54 ⟨gt, 0, none⟩ th.length ct (tcells th) (by rw [hz1, tcells_len]) (fun j u hu => by
      rw [add_at, Nat.zero_add]
      have := (List.getElem?_eq_some_iff.1 hu).1
      rw [tcells_len] at this
      rw [h.cellAt j this]; exact hu) (tcells_one th)
  exact run_append_grow_src W 54 54 ty 73 i _ Tryz.underlying54 hi1 hz0 none 0 0 [] (run_firstCells_none W.drew i.size 0 0 0) _ th.length (tcells th) hsrc (by omega) (by omega) (growslice_fits (by omega) (by rw [hz2]; omega))
theorem thcopy_row (W : World) (th : List Th) (hn : th.length ≤ 1000) : ThR (W.drew.alloc (.cells (thArr W th) 73)) W.heap.size th := by
  have hge : th.length ≤ thCap W th.length := by have := grownCap_ge W (0 + th.length) 0 73; unfold thCap; omega
  have hle : thCap W th.length ≤ maxLen := grownCap_le_maxLen _ _ _ _ (by unfold maxLen; omega)
  have hz : (Value.agg #[.bool false, .bool false, .int .u64 0, .int .u64 0, .bool false]).cells.size = 5 := rfl
  have hsz : (thArr W th).size = thCap W th.length * 5 := by
    unfold thArr
    rw [Array.size_append, size_zeroCells, hz, List.size_toArray, List.nil_append, tcells_len]
    omega
  have hrow := World.ownsRow_lit (base := 0) (e := 73) (size := 5) W.drew (thArr W th) (thCap W th.length) (Nat.zero_le _) hle hsz
  have h2 := own_take hrow hge
  have h3 : (thArr W th).toList.take (th.length * 5) = tcells th := by
    unfold thArr
    rw [Array.toList_append]
    exact List.take_left' (tcells_len th)
  rw [h3] at h2
  exact ⟨_, h2⟩
/-- A copy's model. -/
theorem copy_fin {w W : World} {gt gq ct : Nat} {v : Value} {s : Md} (hn : Nw w W) (ht : ThR W gt s.th) (hgt : w.heap.size ≤ gt) (ho : OM W gq v s.l) (hgq : w.heap.size ≤ gq) (hv : ∀ b, v.ownBlock = some b → w.heap.size ≤ b) (d1 : gt ≠ gq) (d2 : v.ownBlock ≠ some gt) :
    MAt (W.alloc (.cells #[.int .i64 s.slots, .pointer (some ⟨gq, 0, none⟩), .slice (some ⟨gt, 0, none⟩) s.th.length ct] 56)) ⟨W.heap.size, gt, gq, v⟩ s ∧ (∀ g ∈ (⟨W.heap.size, gt, gq, v⟩ : Pl).foot, w.heap.size ≤ g) ∧ Nw w (W.alloc (.cells #[.int .i64 s.slots, .pointer (some ⟨gq, 0, none⟩), .slice (some ⟨gt, 0, none⟩) s.th.length ct] 56)) := by
  have hA := (Nw.refl W).alloc (.cells #[.int .i64 s.slots, .pointer (some ⟨gq, 0, none⟩), .slice (some ⟨gt, 0, none⟩) s.th.length ct] 56)
  have h1 := ht.inn
  have h2 := ho.lt
  refine ⟨⟨by simp [go_sem], by simp [go_sem], ⟨ct, by simp [go_sem]⟩, fun o => by simp [go_sem], ht.nw hA, ho.nw hA, by show W.heap.size ≠ gt; omega, by show W.heap.size ≠ gq; omega, d1, fun e => ?_, d2⟩, fun g hg => ?_, hn.trans hA⟩
  · have h3 := ho.rlt e
    have h3 : W.heap.size < W.heap.size := h3
    omega
  · rcases Pl.mem.1 hg with h9 | h9 | h9 | h9
    · have h9 : g = W.heap.size := h9
      rw [h9]; exact hn.grown.size
    · have h9 : g = gt := h9; omega
    · have h9 : g = gq := h9; omega
    · exact hv g h9
set_option maxRecDepth 20000 in
set_option maxHeartbeats 4000000 in
theorem copy_M (w : World) (p : Pl) (s : Md) (h : MAt w p s) (hl : s.l.length ≤ 1000000) (ht0 : 0 < s.th.length) (htn : s.th.length ≤ 1000) :
    Calls Tryz.prog 24 #[.pointer (some ⟨p.gm, 0, none⟩)] w fun e w' => ∃ gq, e = .returned (.pointer (some ⟨gq, 0, none⟩)) ∧ ∃ p', p'.gm = gq ∧ MAt w' p' s ∧ (∀ g ∈ p'.foot, w.heap.size ≤ g) ∧ Nw w w' := by
  obtain ⟨gm, gt, gp, v⟩ := p
  have m0 : w.cell? ⟨gm, 0, none⟩ = some (.int .i64 s.slots) := h.m0
  have m1 : w.cell? ⟨gm, 1, none⟩ = some (.pointer (some ⟨gp, 0, none⟩)) := h.m1
  obtain ⟨ct, m2⟩ : ∃ ct, w.cell? ⟨gm, 2, none⟩ = some (.slice (some ⟨gt, 0, none⟩) s.th.length ct) := h.m2
  haveI : In gm w := ⟨h.im⟩
  have HC := Lib.hid (fun W (hw : Nw w W) => ocopy_M (h.om.nw hw : OM W gp v s.l) hl)
  have HAP := Lib.hid (fun W (hw : Nw w W) ty => run_thcopy W gt ct s.th (ThR.nw h.th hw) ht0 htn ty)
  have HRW := Lib.hid (fun W => thcopy_row W s.th htn)
  obtain ⟨n, hn⟩ : ∃ n, n = s.th.length := ⟨_, rfl⟩
  have HN := Lib.hid hn
  rw [← hn] at m2 HAP
  obtain ⟨sl, hsl⟩ : ∃ z, z = s.slots := ⟨_, rfl⟩
  have HSL := Lib.hid hsl
  rw [← hsl] at m0
  simp only
  clear h hl ht0 htn hn hsl
  go_enter Tryz.func24, Tryz.ntmps24
  go_upto_region 3 with (fail)
  go_region_law (first | (refine step_app_eq rfl (.const (.slice none 0 0)) (.tmp 17) 54 54 rfl _ _ (by first | (simp [Act.eval, Act.put]; done) | (simp [Act.eval, Act.put]; rfl)) (by first | (simp [Act.eval, Act.put]; done) | (simp [Act.eval, Act.put]; rfl)) (HAP.out _ (by exact (by repeat (first | exact Xt.Nw.refl _ | refine Xt.Nw.drew ?_ | refine Xt.Nw.drewN ?_ _ | refine Xt.Nw.alloc ?_ _ | refine Xt.Nw.joined ?_ | refine Xt.Nw.drewd ?_ | refine Xt.Nw.drewdN ?_ | refine Xt.Nw.ext ?_ | refine Xt.Nw.ext_some ?_ (by assumption) | refine Xt.Nw.setCell ?_ (by simp [go_sem] <;> omega) _))) _) ?_) | (go_simp; go_at_call 55; refine (HC.out _ (by exact (by repeat (first | exact Xt.Nw.refl _ | refine Xt.Nw.drew ?_ | refine Xt.Nw.drewN ?_ _ | refine Xt.Nw.alloc ?_ _ | refine Xt.Nw.joined ?_ | refine Xt.Nw.drewd ?_ | refine Xt.Nw.drewdN ?_ | refine Xt.Nw.ext ?_ | refine Xt.Nw.ext_some ?_ (by assumption) | refine Xt.Nw.setCell ?_ (by simp [go_sem] <;> omega) _)))).mono ?_; rintro e w' ⟨gq, rfl, hgq, hom, dK, rfl⟩))
  all_goals
    rw [ext_drew] at hom
    obtain ⟨WK, hWK⟩ : ∃ WK, WK = w.ext none (dpre w.drew none dK) := ⟨_, rfl⟩
    have hnk : Nw w WK := by rw [hWK]; exact ⟨_, rfl⟩
    rw [← hWK] at hom
    obtain ⟨v', hom, hv⟩ := hom
    have hgq' : w.heap.size ≤ gq := hgq
    have hth : ThR (WK.alloc (.cells (thArr WK s.th) 73)) WK.heap.size s.th := HRW.out WK
    have hA : Nw WK (WK.alloc (.cells (thArr WK s.th) 73)) := (Nw.refl _).alloc _
    have hfin := copy_fin (ct := thCap WK n) (s := s) (hnk.trans hA) hth hnk.grown.size (hom.nw hA) hgq' (fun b hb => hv b hb) (by have := hom.lt; omega) (fun e => by have := hom.rlt e; omega)
    rw [← HSL.out, ← HN.out] at hfin
    have HF := Lib.hid hfin
    clear hom hv hth hA hfin hnk hgq hgq' HC HAP HRW
    rw [← hWK]
    clear hWK
    go_wp2
    refine bodyPost_ret (v := .pointer (some ⟨WK.heap.size + 1, 0, none⟩)) ?_ rfl ⟨WK.heap.size + 1, rfl, _, ?_, HF.out.1.nw (Nw.drew (Nw.refl _)), HF.out.2.1, HF.out.2.2.drew⟩
    · simp [results, Tryz.results24, Act.put, go_sem]
    · simp
end Go.Proofs.YtahagplegmcaaaaGreat
