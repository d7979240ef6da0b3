import Derived.Test.YtahagplegmcaaaaGreatGWn
set_option linter.unusedVariables false
set_option linter.unusedSimpArgs false
namespace Go.Proofs.YtahagplegmcaaaaGreat
open Go.RowKit Go.Xt
/-! The law's same and recorded. -/
/-- What the law takes for a thread: the seat's fields, or nothing. -/
theorem ofM_out {s : Md} {t : Int} (h : t < 0 ∨ (s.th.length : Int) ≤ t) : ofM s t = Th0 := if_pos h
set_option maxRecDepth 20000 in
set_option maxHeartbeats 16000000 in
theorem same_yes (w : World) (p q : Pl) (cf : Cf) (s : Md) (hm : MAt w p s) (hr : RAt w q cf s) (hl : s.l.length ≤ 1000000) (hn : s.th.length ≤ 1000) :
    Calls Tryz.prog 13 #[.pointer (some ⟨p.gm, 0, none⟩), .pointer (some ⟨q.gm, 0, none⟩)] w fun e w' => e = .returned (.bool true) ∧ Nw w w' := by
  have HP := Lib.hid (fun W (hw : Nw w W) => pairs_M W p s (hm.nw hw) hl)
  have HI := Lib.hid (fun W t (hw : Nw w W) => iter_M W p s (hm.nw hw) t)
  have HS := Lib.hid (fun W t (hw : Nw w W) => session_M W p s (hm.nw hw) t)
  have HM := Lib.hid hm
  have HR := Lib.hid hr
  obtain ⟨gm, gt, gp, v⟩ := q
  obtain ⟨mm, hmm⟩ : ∃ z, z = p.gm := ⟨_, rfl⟩
  simp only
  rw [← hmm] at HP HI HS ⊢
  have im : gm < w.heap.size := hr.im
  have it : gt < w.heap.size := hr.it
  have m1 : w.cell? ⟨gm, 16, none⟩ = some (.pointer (some ⟨gp, 0, none⟩)) := hr.m1
  obtain ⟨ct, m2⟩ : ∃ ct, w.cell? ⟨gm, 17, none⟩ = some (.slice (some ⟨gt, 0, none⟩) s.th.length ct) := hr.m2
  obtain ⟨A, ca, hv, hrd⟩ := own_rd hr.om.row
  have hv : v = .slice A s.l.length ca := hv
  have p0 : w.cell? ⟨gp, 0, none⟩ = some v := hr.om.p0
  rw [hv] at p0
  have HRD := Lib.hid hrd
  have HTH := Lib.hid (hr.th : RThR w gt s.th)
  have HL := Lib.hid hl
  have HNN := Lib.hid hn
  obtain ⟨n, hne⟩ : ∃ z, z = s.th.length := ⟨_, rfl⟩
  rw [← hne] at m2 hn
  obtain ⟨nl, hnl⟩ : ∃ z, z = s.l.length := ⟨_, rfl⟩
  rw [← hnl] at p0
  have HNE := Lib.hid hne
  have HNL := Lib.hid hnl
  haveI : In gm w := ⟨im⟩
  haveI : In gt w := ⟨it⟩
  haveI : In gp w := ⟨World.block_lt_of_cell? _ _ p0⟩
  have HSM := Lib.hid (fun (W : World) (v' : Value) (hw : Nw w W) (ho : W.ownsRow w.heap.size 104 2 v' s.l.length (pcells s.l)) => (own_rd ho))
  clear hm hr hmm hv hrd hl hne hnl
  go_enter Tryz.func13, Tryz.ntmps13
  go_upto_region 1 with (fail)
  go_region_held3 (fun w' => w'.cell? ⟨gm, 16, none⟩ = some (.pointer (some ⟨gp, 0, none⟩)) ∧ w'.cell? ⟨gp, 0, none⟩ = some (.slice A nl ca)) (first | exact ⟨m1, p0⟩ | exact ⟨cell_nw m1 (Nw.drew (Nw.refl _)), cell_nw p0 (Nw.drew (Nw.refl _))⟩ | exact ⟨cell_nw m1 hn6, cell_nw p0 hn6⟩ | exact ⟨cell_nw m1 hn7, cell_nw p0 hn7⟩)
    ((first | (go_at_call 41; refine (rsame_any A6 A s.l.length nl c6 ca s.l s.l W2 rd6 (by rw [HNL.out]; exact HRD.out.nw hn6) HL.out (by rw [HNL.out]; exact HL.out)).mono ?_; rw [decide_eq_true rfl]; rintro e W3 ⟨rfl, hn8⟩; have hn7 := hn6.trans hn8) | (go_at_call 42; refine (HP.out _ (Nw.drew (Nw.refl _))).mono ?_; rintro e W2 ⟨v6, rfl, ho, hn5⟩; have hn6 := (Nw.drew (Nw.refl w)).trans hn5; obtain ⟨A6, c6, rfl, rd6⟩ := own_rd ho)))
  rename_i hHeld
  clear hHeld
  have HN7 := Lib.hid hn7
  replace m2 := cell_nw m2 hn7
  haveI : In gm W3 := ⟨World.block_lt_of_cell? _ _ m2⟩
  haveI : In gt W3 := ⟨Nat.lt_of_lt_of_le it hn7.grown.size⟩
  clear hn7 hn8 hn6 hn5 ho rd6
  go_wp2
  go_loopw [5] (fun a wr => ∃ t : Int, -1 ≤ t ∧ t ≤ (n : Int) + 1 ∧ a = .int .i64 t ∧ Nw W3 wr) (fun a _ => ((n : Int) + 1 - intOf a).toNat)
  case atStart => exact ⟨-1, by omega, by omega, rfl, Nw.refl _⟩
  case round =>
    obtain ⟨t, ht0, ht1, rfl, d, rfl⟩ := hrel
    by_cases htn : t ≤ (n : Int)
    · by_cases hin : 0 ≤ t ∧ t < (n : Int)
      · obtain ⟨k, rfl⟩ : ∃ k : Nat, t = k := ⟨t.toNat, by omega⟩
        obtain ⟨x, hx⟩ : ∃ x, s.th[k]? = some x := ⟨_, List.getElem?_eq_getElem (by have := HNE.out; omega)⟩
        have hof : ofM s k = x := ofM_in hx
        have hi := HI.out
        have hs := HS.out
        have HI2 := Lib.hid (fun W (hw : Nw w W) => HI.out W k hw)
        have HS2 := Lib.hid (fun W (hw : Nw w W) => HS.out W k hw)
        rw [hof] at HI2 HS2
        obtain ⟨c0, c1, c2, c3, c4⟩ := (HTH.out.nw HN7.out).cells hx
        obtain ⟨op, mo, lo, hi', se⟩ := x
        simp only at c0 c1 c2 c3 c4 HI2 HS2
        have k1 : (k : Int) < (n : Int) := hin.2
        have k0 : (0 : Int) ≤ (k : Int) := by omega
        have HT := Lib.hid ht1
        clear hx hof hi hs hin ht0 ht1
        go_upto_region 10 with (go_at_call 43; refine (HI2.out _ (HN7.out.trans (by repeat (first | exact Xt.Nw.refl _ | refine Xt.Nw.drew ?_ | refine Xt.Nw.drewN ?_ _ | refine Xt.Nw.alloc ?_ _ | refine Xt.Nw.joined ?_ | refine Xt.Nw.drewd ?_ | refine Xt.Nw.drewdN ?_ | refine Xt.Nw.ext ?_ | refine Xt.Nw.ext_some ?_ (by assumption) | refine Xt.Nw.setCell ?_ (by simp [go_sem] <;> omega) _)))).mono ?_; rintro e w' ⟨rfl, dW, rfl⟩)
        (refine wp_region_nw (by kernel_rfl) (by kernel_rfl) ?_; (repeat (go_big_quiet_step ((go_at_call 44; refine (HS2.out _ (HN7.out.trans ((by repeat (first | exact Xt.Nw.refl _ | refine Xt.Nw.drew ?_ | refine Xt.Nw.drewN ?_ _ | refine Xt.Nw.alloc ?_ _ | refine Xt.Nw.joined ?_ | refine Xt.Nw.drewd ?_ | refine Xt.Nw.drewdN ?_ | refine Xt.Nw.ext ?_ | refine Xt.Nw.ext_some ?_ (by assumption) | refine Xt.Nw.setCell ?_ (by simp [go_sem] <;> omega) _))))).mono ?_; rintro e w' ⟨rfl, hnx⟩; exact ⟨rfl, (Nw.trans (reg_nw _ _) hnx)⟩)))); refine wpQuiet_nil ?_; intro _ hreg; obtain ⟨dW, rfl⟩ : Nw _ _ := hreg)
        go_wp2
        exact ⟨⟨(k : Int) + 1, by omega, by omega, rfl, (by repeat (first | exact Xt.Nw.refl _ | refine Xt.Nw.drew ?_ | refine Xt.Nw.drewN ?_ _ | refine Xt.Nw.alloc ?_ _ | refine Xt.Nw.joined ?_ | refine Xt.Nw.drewd ?_ | refine Xt.Nw.drewdN ?_ | refine Xt.Nw.ext ?_ | refine Xt.Nw.ext_some ?_ (by assumption) | refine Xt.Nw.setCell ?_ (by simp [go_sem] <;> omega) _))⟩, by simp [intOf]; omega⟩
      · have hof : ofM s t = Th0 := ofM_out (by have := HNE.out; omega)
        have HI2 := Lib.hid (fun W (hw : Nw w W) => HI.out W t hw)
        have HS2 := Lib.hid (fun W (hw : Nw w W) => HS.out W t hw)
        rw [hof] at HI2 HS2
        simp only [Th0] at HI2 HS2
        have HT := Lib.hid (And.intro ht0 (And.intro ht1 (And.intro htn hin)))
        by_cases h0 : 0 ≤ t
        · have k1 : ¬ t < (n : Int) := by omega
          clear hof hin ht0 ht1
          go_upto_region 10 with (go_at_call 43; refine (HI2.out _ (HN7.out.trans (by repeat (first | exact Xt.Nw.refl _ | refine Xt.Nw.drew ?_ | refine Xt.Nw.drewN ?_ _ | refine Xt.Nw.alloc ?_ _ | refine Xt.Nw.joined ?_ | refine Xt.Nw.drewd ?_ | refine Xt.Nw.drewdN ?_ | refine Xt.Nw.ext ?_ | refine Xt.Nw.ext_some ?_ (by assumption) | refine Xt.Nw.setCell ?_ (by simp [go_sem] <;> omega) _)))).mono ?_; rintro e w' ⟨rfl, dW, rfl⟩)
          (refine wp_region_nw (by kernel_rfl) (by kernel_rfl) ?_; (repeat (go_big_quiet_step ((go_at_call 44; refine (HS2.out _ (HN7.out.trans ((by repeat (first | exact Xt.Nw.refl _ | refine Xt.Nw.drew ?_ | refine Xt.Nw.drewN ?_ _ | refine Xt.Nw.alloc ?_ _ | refine Xt.Nw.joined ?_ | refine Xt.Nw.drewd ?_ | refine Xt.Nw.drewdN ?_ | refine Xt.Nw.ext ?_ | refine Xt.Nw.ext_some ?_ (by assumption) | refine Xt.Nw.setCell ?_ (by simp [go_sem] <;> omega) _))))).mono ?_; rintro e w' ⟨rfl, hnx⟩; exact ⟨rfl, (Nw.trans (reg_nw _ _) hnx)⟩)))); refine wpQuiet_nil ?_; intro _ hreg; obtain ⟨dW, rfl⟩ : Nw _ _ := hreg)
          have tb : t < 1001 := by have := HNN.out; have := HNE.out; omega
          go_wp2
          exact ⟨⟨t + 1, by omega, by omega, rfl, (by repeat (first | exact Xt.Nw.refl _ | refine Xt.Nw.drew ?_ | refine Xt.Nw.drewN ?_ _ | refine Xt.Nw.alloc ?_ _ | refine Xt.Nw.joined ?_ | refine Xt.Nw.drewd ?_ | refine Xt.Nw.drewdN ?_ | refine Xt.Nw.ext ?_ | refine Xt.Nw.ext_some ?_ (by assumption) | refine Xt.Nw.setCell ?_ (by simp [go_sem] <;> omega) _))⟩, by simp [intOf]; omega⟩
        · have ht : t = -1 := by omega
          subst ht
          clear hof hin ht0 ht1 htn h0
          go_upto_region 10 with (go_at_call 43; refine (HI2.out _ (HN7.out.trans (by repeat (first | exact Xt.Nw.refl _ | refine Xt.Nw.drew ?_ | refine Xt.Nw.drewN ?_ _ | refine Xt.Nw.alloc ?_ _ | refine Xt.Nw.joined ?_ | refine Xt.Nw.drewd ?_ | refine Xt.Nw.drewdN ?_ | refine Xt.Nw.ext ?_ | refine Xt.Nw.ext_some ?_ (by assumption) | refine Xt.Nw.setCell ?_ (by simp [go_sem] <;> omega) _)))).mono ?_; rintro e w' ⟨rfl, dW, rfl⟩)
          (refine wp_region_nw (by kernel_rfl) (by kernel_rfl) ?_; (repeat (go_big_quiet_step ((go_at_call 44; refine (HS2.out _ (HN7.out.trans ((by repeat (first | exact Xt.Nw.refl _ | refine Xt.Nw.drew ?_ | refine Xt.Nw.drewN ?_ _ | refine Xt.Nw.alloc ?_ _ | refine Xt.Nw.joined ?_ | refine Xt.Nw.drewd ?_ | refine Xt.Nw.drewdN ?_ | refine Xt.Nw.ext ?_ | refine Xt.Nw.ext_some ?_ (by assumption) | refine Xt.Nw.setCell ?_ (by simp [go_sem] <;> omega) _))))).mono ?_; rintro e w' ⟨rfl, hnx⟩; exact ⟨rfl, (Nw.trans (reg_nw _ _) hnx)⟩)))); refine wpQuiet_nil ?_; intro _ hreg; obtain ⟨dW, rfl⟩ : Nw _ _ := hreg)
          go_wp2
          exact ⟨⟨0, by omega, by omega, rfl, (by repeat (first | exact Xt.Nw.refl _ | refine Xt.Nw.drew ?_ | refine Xt.Nw.drewN ?_ _ | refine Xt.Nw.alloc ?_ _ | refine Xt.Nw.joined ?_ | refine Xt.Nw.drewd ?_ | refine Xt.Nw.drewdN ?_ | refine Xt.Nw.ext ?_ | refine Xt.Nw.ext_some ?_ (by assumption) | refine Xt.Nw.setCell ?_ (by simp [go_sem] <;> omega) _))⟩, by simp [intOf]; omega⟩
    · have k1 : ¬ t ≤ (n : Int) := htn
      go_wp2
      go_ret
      exact ⟨rfl, HN7.out.trans (by repeat (first | exact Xt.Nw.refl _ | refine Xt.Nw.drew ?_ | refine Xt.Nw.drewN ?_ _ | refine Xt.Nw.alloc ?_ _ | refine Xt.Nw.joined ?_ | refine Xt.Nw.drewd ?_ | refine Xt.Nw.drewdN ?_ | refine Xt.Nw.ext ?_ | refine Xt.Nw.ext_some ?_ (by assumption) | refine Xt.Nw.setCell ?_ (by simp [go_sem] <;> omega) _))⟩
/-- A deed as a value. -/
abbrev dV (d : Dd) : Value := .agg #[.int .i64 d.t, .int .u8 d.o.k, .int .u64 d.o.key, .int .u64 d.o.hi, .int .u64 d.o.val, .int .u64 d.o.old, .int .u64 d.o.by_, .int .u64 d.o.draw, .bool d.j, .int .u8 d.by_, .int .i64 d.r.err, .bool d.r.fd, .int .u64 d.r.key, .int .u64 d.r.val, .int .i64 d.r.cnt]
/-- The result that a deed judges. -/
def recM (r : Md) (d : Dd) : Rs := if d.by_ % 6 = 3 then d.r else if d.by_ % 6 = 4 then ⟨11, false, 0, 0, 0⟩ else if d.by_ % 6 = 5 then ⟨6, false, 0, 0, 0⟩ else (doM r d.t d.o).1
set_option maxRecDepth 20000 in
set_option maxHeartbeats 16000000 in
theorem recorded_any (w : World) (q : Pl) (cf : Cf) (r : Md) (hr : RAt w q cf r) {N : Nat} (hok : r.Ok N) (hN : N ≤ 400000) (ht0 : 0 < r.th.length) (d : Dd) (hw : d.o.Wf) (hy : 0 ≤ d.by_) :
    Calls Tryz.prog 8 #[.pointer (some ⟨q.gm, 0, none⟩), dV d] w fun e w' => e = .returned (resV (recM r d)) ∧ Nw w w' := by
  have HC := Lib.hid (fun W (hn : Nw w W) => rcopy_M W q cf r (hr.nw hn) (by have := hok.len; omega) ht0 hok.thn)
  obtain ⟨t, ⟨k, a, b, c, d2, e, f⟩, j, y, ⟨er, fd, ke, va, cn⟩⟩ := d
  have HD := Lib.hid (fun (W : World) (q' : Pl) (hq : RAt W q' cf r) => rdo_any W q' cf r hq hok hN t ⟨k, a, b, c, d2, e, f⟩ hw)
  unfold recM
  simp only at hy ⊢
  obtain ⟨D, hD⟩ : ∃ D, D = doM r t ⟨k, a, b, c, d2, e, f⟩ := ⟨_, rfl⟩
  rw [← hD] at HD ⊢
  obtain ⟨⟨e2, f2, k2, v2, c2⟩, s2⟩ := D
  unfold opV resV at HD
  simp only at HD
  obtain ⟨gm, hgm⟩ : ∃ g, g = q.gm := ⟨_, rfl⟩
  have im : q.gm < w.heap.size := hr.im
  rw [← hgm] at HC im ⊢
  haveI : In gm w := ⟨im⟩
  obtain ⟨W1, hW1⟩ : ∃ W1, W1 = (w.alloc (.cells #[.int .i64 t, .int .u8 k, .int .u64 a, .int .u64 b, .int .u64 c, .int .u64 d2, .int .u64 e, .int .u64 f, .bool j, .int .u8 y, .int .i64 er, .bool fd, .int .u64 ke, .int .u64 va, .int .i64 cn] 44)).alloc (.cells #[.int .i64 0, .bool false, .int .u64 0, .int .u64 0, .int .i64 0] 42) := ⟨_, rfl⟩
  have hn1 : Nw w W1 := by rw [hW1]; exact (by repeat (first | exact Xt.Nw.refl _ | refine Xt.Nw.drew ?_ | refine Xt.Nw.drewN ?_ _ | refine Xt.Nw.alloc ?_ _ | refine Xt.Nw.joined ?_ | refine Xt.Nw.drewd ?_ | refine Xt.Nw.drewdN ?_ | refine Xt.Nw.ext ?_ | refine Xt.Nw.ext_some ?_ (by assumption) | refine Xt.Nw.setCell ?_ (by simp [go_sem] <;> omega) _))
  have x0 : W1.cell? ⟨w.heap.size, 0, none⟩ = some (.int .i64 t) := by rw [hW1]; simp [go_sem]
  have x1 : W1.cell? ⟨w.heap.size, 1, none⟩ = some (.int .u8 k) := by rw [hW1]; simp [go_sem]
  have x2 : W1.cell? ⟨w.heap.size, 2, none⟩ = some (.int .u64 a) := by rw [hW1]; simp [go_sem]
  have x3 : W1.cell? ⟨w.heap.size, 3, none⟩ = some (.int .u64 b) := by rw [hW1]; simp [go_sem]
  have x4 : W1.cell? ⟨w.heap.size, 4, none⟩ = some (.int .u64 c) := by rw [hW1]; simp [go_sem]
  have x5 : W1.cell? ⟨w.heap.size, 5, none⟩ = some (.int .u64 d2) := by rw [hW1]; simp [go_sem]
  have x6 : W1.cell? ⟨w.heap.size, 6, none⟩ = some (.int .u64 e) := by rw [hW1]; simp [go_sem]
  have x7 : W1.cell? ⟨w.heap.size, 7, none⟩ = some (.int .u64 f) := by rw [hW1]; simp [go_sem]
  have x8 : W1.cell? ⟨w.heap.size, 8, none⟩ = some (.bool j) := by rw [hW1]; simp [go_sem]
  have x9 : W1.cell? ⟨w.heap.size, 9, none⟩ = some (.int .u8 y) := by rw [hW1]; simp [go_sem]
  have x10 : W1.cell? ⟨w.heap.size, 10, none⟩ = some (.int .i64 er) := by rw [hW1]; simp [go_sem]
  have x11 : W1.cell? ⟨w.heap.size, 11, none⟩ = some (.bool fd) := by rw [hW1]; simp [go_sem]
  have x12 : W1.cell? ⟨w.heap.size, 12, none⟩ = some (.int .u64 ke) := by rw [hW1]; simp [go_sem]
  have x13 : W1.cell? ⟨w.heap.size, 13, none⟩ = some (.int .u64 va) := by rw [hW1]; simp [go_sem]
  have x14 : W1.cell? ⟨w.heap.size, 14, none⟩ = some (.int .i64 cn) := by rw [hW1]; simp [go_sem]
  have y0 : W1.cell? ⟨w.heap.size + 1, 0, none⟩ = some (.int .i64 0) := by rw [hW1]; simp [go_sem]
  have y1 : W1.cell? ⟨w.heap.size + 1, 1, none⟩ = some (.bool false) := by rw [hW1]; simp [go_sem]
  have y2 : W1.cell? ⟨w.heap.size + 1, 2, none⟩ = some (.int .u64 0) := by rw [hW1]; simp [go_sem]
  have y3 : W1.cell? ⟨w.heap.size + 1, 3, none⟩ = some (.int .u64 0) := by rw [hW1]; simp [go_sem]
  have y4 : W1.cell? ⟨w.heap.size + 1, 4, none⟩ = some (.int .i64 0) := by rw [hW1]; simp [go_sem]
  have yz : ∀ j, W1.frozen? ⟨w.heap.size + 1, j, none⟩ = false := fun j => by rw [hW1]; simp [go_sem]
  have HYZ := Lib.hid yz
  have z0 := yz 0
  have z1 := yz 1
  have z2 := yz 2
  have z3 := yz 3
  have z4 := yz 4
  have HY0 := Lib.hid y0
  have hs1 : W1.heap.size = w.heap.size + 2 := by rw [hW1]; simp
  have HS1 := Lib.hid hs1
  have HN1 := Lib.hid hn1
  have HW1 := Lib.hid hW1
  haveI : In w.heap.size W1 := ⟨by omega⟩
  haveI : In (w.heap.size + 1) W1 := ⟨by omega⟩
  have hch : ∀ (W : World) (x : Rs), Nw w W → Nw w (setRes W (w.heap.size + 1) x) := fun W x hn => nw_chg2 hn (setRes_chg W _ x) (fun g hg => by simp at hg; omega)
  have HCH := Lib.hid hch
  clear hr hok hN ht0 hw hD hgm im hW1 hn1 hs1 yz hch
  obtain ⟨m, hm⟩ : ∃ m, m = y % 6 := ⟨_, rfl⟩
  rw [← hm]
  have hm2 : y % 6 = m := hm.symm
  have hmr : 0 ≤ m ∧ m < 6 := by omega
  clear hm
  by_cases h3 : m = 3
  · rw [if_pos h3]
    subst h3
    clear hmr
    go_enter Tryz.func8, Tryz.ntmps8
    go_upto_region 1 with (fail)
    rw [← HW1.out]
    go_wp2
    refine bodyPost_ret (v := res5 er fd ke va cn) ?_ rfl ⟨rfl, HCH.out _ ⟨er, fd, ke, va, cn⟩ HN1.out⟩
    simp [results, Tryz.results8, go_sem, y0, y1, y2, y3, y4]
  by_cases h4 : m = 4
  · rw [if_neg h3, if_pos h4]
    subst h4
    clear hmr h3
    go_enter Tryz.func8, Tryz.ntmps8
    go_upto_region 1 with (fail)
    rw [← HW1.out]
    go_wp2
    refine bodyPost_ret (v := res5 11 false 0 0 0) ?_ rfl ⟨rfl, HCH.out _ ⟨11, false, 0, 0, 0⟩ HN1.out⟩
    simp [results, Tryz.results8, go_sem, y0, y1, y2, y3, y4]
  by_cases h5 : m = 5
  · rw [if_neg h3, if_neg h4, if_pos h5]
    subst h5
    clear hmr h3 h4
    go_enter Tryz.func8, Tryz.ntmps8
    go_upto_region 1 with (fail)
    rw [← HW1.out]
    go_wp2
    refine bodyPost_ret (v := res5 6 false 0 0 0) ?_ rfl ⟨rfl, HCH.out _ ⟨6, false, 0, 0, 0⟩ HN1.out⟩
    simp [results, Tryz.results8, go_sem, y0, y1, y2, y3, y4]
  · rw [if_neg h3, if_neg h4, if_neg h5]
    have b3 : (m == 3) = false := by simpa using h3
    have b4 : (m == 4) = false := by simpa using h4
    have b5 : (m == 5) = false := by simpa using h5
    clear h3 h4 h5 hmr
    go_enter Tryz.func8, Tryz.ntmps8
    go_upto_region 1 with (fail)
    rw [← HW1.out]
    go_wp2_with fail
    refine (HC.out W1 HN1.out).mono ?_
    rintro e3 W3 ⟨pc, rfl, hat, hft, hn3⟩
    replace x0 := cell_nw x0 hn3
    replace x1 := cell_nw x1 hn3
    replace x2 := cell_nw x2 hn3
    replace x3 := cell_nw x3 hn3
    replace x4 := cell_nw x4 hn3
    replace x5 := cell_nw x5 hn3
    replace x6 := cell_nw x6 hn3
    replace x7 := cell_nw x7 hn3
    replace x8 := cell_nw x8 hn3
    replace x9 := cell_nw x9 hn3
    replace x10 := cell_nw x10 hn3
    replace x11 := cell_nw x11 hn3
    replace x12 := cell_nw x12 hn3
    replace x13 := cell_nw x13 hn3
    replace x14 := cell_nw x14 hn3
    replace y0 := cell_nw y0 hn3
    replace y1 := cell_nw y1 hn3
    replace y2 := cell_nw y2 hn3
    replace y3 := cell_nw y3 hn3
    replace y4 := cell_nw y4 hn3
    haveI : In w.heap.size W3 := ⟨World.block_lt_of_cell? _ _ x0⟩
    haveI : In (w.heap.size + 1) W3 := ⟨World.block_lt_of_cell? _ _ y0⟩
    have hb : w.heap.size + 1 ∉ pc.foot := fun e9 => by have h1 := hft _ e9; have h2 := HS1.out; omega
    have HL := Lib.hid (World.block_lt_of_cell? _ _ y0)
    have HAT := Lib.hid hat
    have HFT := Lib.hid (fun g (hg : g ∈ pc.foot) => Nat.le_trans HN1.out.grown.size (hft g hg))
    have HZ := Lib.hid (fun j => (frozen_nw (World.block_lt_of_cell? _ _ HY0.out) hn3).trans (HYZ.out j))
    have HN3 := Lib.hid (HN1.out.trans hn3)
    clear z0 z1 z2 z3 z4 hat hft hn3
    go_wp2_with fail
    refine (HD.out W3 pc HAT.out).mono ?_
    rintro e4 W4 ⟨rfl, p', hu⟩
    replace y0 := hu.chg.cell y0 hb
    replace y1 := hu.chg.cell y1 hb
    replace y2 := hu.chg.cell y2 hb
    replace y3 := hu.chg.cell y3 hb
    replace y4 := hu.chg.cell y4 hb
    have z0 := (hu.chg.frozen (i := 0) HL.out hb).trans (HZ.out 0)
    have z1 := (hu.chg.frozen (i := 1) HL.out hb).trans (HZ.out 1)
    have z2 := (hu.chg.frozen (i := 2) HL.out hb).trans (HZ.out 2)
    have z3 := (hu.chg.frozen (i := 3) HL.out hb).trans (HZ.out 3)
    have z4 := (hu.chg.frozen (i := 4) HL.out hb).trans (HZ.out 4)
    haveI : In (w.heap.size + 1) W4 := ⟨World.block_lt_of_cell? _ _ y0⟩
    have HN4 := Lib.hid (nw_chg2 HN3.out hu.chg HFT.out : Nw w W4)
    clear hu hb
    go_wp2
    refine bodyPost_ret (v := res5 e2 f2 k2 v2 c2) ?_ rfl ⟨rfl, HCH.out _ ⟨e2, f2, k2, v2, c2⟩ HN4.out⟩
    simp [results, Tryz.results8, go_sem, y0, y1, y2, y3, y4]
end Go.Proofs.YtahagplegmcaaaaGreat
namespace Go.Proofs.YtahagplegmcaaaaGreat
open Go.RowKit Go.Xt
/-! What the law ModelDoes needs besides. -/
theorem perf_len (s : Md) (t : Nat) (x : Th) (o : Ox) : (perfM s t x o).2.th.length = s.th.length := by
  unfold perfM
  by_cases h1 : o.k = 1
  · rw [if_pos h1]; (unfold openM; simp only; split <;> simp)
  rw [if_neg h1]
  by_cases h2 : o.k = 2
  · rw [if_pos h2]; exact List.length_set ..
  rw [if_neg h2]
  by_cases h3 : o.k = 3
  · rw [if_pos h3]
  rw [if_neg h3]
  by_cases h4 : o.k = 4
  · rw [if_pos h4]
  rw [if_neg h4]
  by_cases h5 : o.k = 5
  · rw [if_pos h5]
  rw [if_neg h5]
  by_cases h6 : o.k = 6
  · rw [if_pos h6]
  rw [if_neg h6]
  by_cases h7 : o.k = 7
  · rw [if_pos h7]
  rw [if_neg h7]
  by_cases h8 : o.k = 8
  · rw [if_pos h8]
  rw [if_neg h8]
  by_cases h9 : o.k = 9
  · rw [if_pos h9]
  rw [if_neg h9]
  by_cases h10 : o.k = 10
  · rw [if_pos h10]
  rw [if_neg h10]
  by_cases h11 : o.k = 11
  · rw [if_pos h11]; exact List.length_set ..
  rw [if_neg h11]
  by_cases h12 : o.k = 12
  · rw [if_pos h12]; (split <;> exact List.length_set ..)
  rw [if_neg h12]
  by_cases h13 : o.k = 13
  · rw [if_pos h13]; exact List.length_set ..
  rw [if_neg h13]
  by_cases h14 : o.k = 14
  · rw [if_pos h14]; exact List.length_set ..
  rw [if_neg h14]
theorem do_len (s : Md) (t : Int) (o : Ox) : (doM s t o).2.th.length = s.th.length := by
  unfold doM
  split
  · rfl
  · split
    · exact perf_len _ _ _ _
    · rfl
theorem acc_len (s : Md) (t : Int) (o : Ox) (r : Rs) : (acceptM s t o r).2.th.length = s.th.length := by
  unfold acceptM
  by_cases h0 : refM s t o ≠ 0
  · rw [if_pos h0]
  rw [if_neg h0]
  cases hx : s.th[t.toNat]? with
  | none => rfl
  | some x =>
    simp only
    by_cases h1 : (aloneR r && givesM s o r.err) = true
    · rw [if_pos h1]
    rw [if_neg h1]
    by_cases h2 : o.k = 12
    · rw [if_pos h2]
      by_cases h3 : (aloneR r && (r.err == 14)) = true
      · rw [if_pos h3]; exact List.length_set ..
      rw [if_neg h3]
      by_cases h4 : r.err = 0 ∧ r.fd = true ∧ r.cnt = 0 ∧ x.lo ≤ r.key ∧ r.key ≤ x.hi
      · rw [if_pos h4]; exact List.length_set ..
      · rw [if_neg h4]
    rw [if_neg h2]
    by_cases h5 : o.k = 15
    · rw [if_pos h5]
    rw [if_neg h5]
    by_cases h6 : (perfM s t.toNat x o).1 = r
    · rw [if_pos h6]; exact perf_len _ _ _ _
    · rw [if_neg h6]
theorem perf_key {s : Md} {N : Nat} (h : s.Ok N) (t : Nat) (x : Th) (o : Ox) : 0 ≤ (perfM s t x o).1.key ∧ (perfM s t x o).1.key < 18446744073709551616 := by
  unfold perfM
  by_cases h1 : o.k = 1
  · rw [if_pos h1]; exact ⟨by simp, by simp⟩
  rw [if_neg h1]
  by_cases h2 : o.k = 2
  · rw [if_pos h2]; exact ⟨by simp, by simp⟩
  rw [if_neg h2]
  by_cases h3 : o.k = 3
  · rw [if_pos h3]; exact ⟨by simp, by simp⟩
  rw [if_neg h3]
  by_cases h4 : o.k = 4
  · rw [if_pos h4]; exact ⟨by simp, by simp⟩
  rw [if_neg h4]
  by_cases h5 : o.k = 5
  · rw [if_pos h5]; exact ⟨by simp, by simp⟩
  rw [if_neg h5]
  by_cases h6 : o.k = 6
  · rw [if_pos h6]; exact ⟨by simp, by simp⟩
  rw [if_neg h6]
  by_cases h7 : o.k = 7
  · rw [if_pos h7]; exact ⟨by simp, by simp⟩
  rw [if_neg h7]
  by_cases h8 : o.k = 8
  · rw [if_pos h8]; exact ⟨by simp, by simp⟩
  rw [if_neg h8]
  by_cases h9 : o.k = 9
  · rw [if_pos h9]; exact ⟨by simp, by simp⟩
  rw [if_neg h9]
  by_cases h10 : o.k = 10
  · rw [if_pos h10]; exact ⟨by simp, by simp⟩
  rw [if_neg h10]
  by_cases h11 : o.k = 11
  · rw [if_pos h11]; exact ⟨by simp, by simp⟩
  rw [if_neg h11]
  by_cases h12 : o.k = 12
  · rw [if_pos h12]
    cases hq : nextL x.lo x.hi s.l with
    | none => exact ⟨by simp, by simp⟩
    | some q => exact (h.u64 _ (nextL_mem hq).1).1
  rw [if_neg h12]
  by_cases h13 : o.k = 13
  · rw [if_pos h13]; exact ⟨by simp, by simp⟩
  rw [if_neg h13]
  by_cases h14 : o.k = 14
  · rw [if_pos h14]; exact ⟨by simp, by simp⟩
  rw [if_neg h14]
  exact ⟨by simp, by simp⟩
theorem do_key {s : Md} {N : Nat} (h : s.Ok N) (t : Int) (o : Ox) : 0 ≤ (doM s t o).1.key ∧ (doM s t o).1.key < 18446744073709551616 := by
  unfold doM
  by_cases h0 : refM s t o ≠ 0
  · rw [if_pos h0]; exact ⟨by simp, by simp⟩
  rw [if_neg h0]
  cases hx : s.th[t.toNat]? with
  | none => exact ⟨by simp, by simp⟩
  | some x => exact perf_key h _ _ _
theorem rec_key {s : Md} {N : Nat} (h : s.Ok N) (d : Dd) (hk : 0 ≤ d.r.key ∧ d.r.key < 18446744073709551616) : 0 ≤ (recM s d).key ∧ (recM s d).key < 18446744073709551616 := by
  unfold recM
  split
  · exact hk
  · split
    · exact ⟨by simp, by simp⟩
    · split
      · exact ⟨by simp, by simp⟩
      · exact do_key h _ _
set_option maxRecDepth 20000 in
set_option maxHeartbeats 4000000 in
theorem short_any (c : Cf) (A : Option Addr) (n cap : Nat) (w : World) :
    Calls Tryz.prog 4 #[confV c, .slice A n cap] w fun e w' => e = .returned (.bool (decide (n ≤ 80) && decide (c.cn ≤ 70))) ∧ Nw w w' := by
  obtain ⟨thr, sl, eng, bk, dk, dn, B, m, cc, t1, t2, t3, t4, t5, t6, lk, tr, ba⟩ := c
  unfold confV
  simp only
  by_cases h1 : n ≤ 80
  · have d1 : decide ((n : Int) ≤ 80) = true := by simp; omega
    by_cases h2 : m ≤ 70
    · have d2 : decide ((m : Int) ≤ 70) = true := by simp; omega
      rw [decide_eq_true h1, decide_eq_true h2]
      have g1 : (n : Int) ≤ 80 := by omega
      have g2 : (m : Int) ≤ 70 := by omega
      clear h1 h2
      go_enter Tryz.func4, Tryz.ntmps4
      go_wp2
      go_ret
      exact ⟨rfl, (by repeat (first | exact Xt.Nw.refl _ | refine Xt.Nw.drew ?_ | refine Xt.Nw.drewN ?_ _ | refine Xt.Nw.alloc ?_ _ | refine Xt.Nw.joined ?_ | refine Xt.Nw.drewd ?_ | refine Xt.Nw.drewdN ?_ | refine Xt.Nw.ext ?_ | refine Xt.Nw.ext_some ?_ (by assumption) | refine Xt.Nw.setCell ?_ (by simp [go_sem] <;> omega) _))⟩
    · have d2 : decide ((m : Int) ≤ 70) = false := by simp; omega
      rw [decide_eq_true h1, decide_eq_false h2]
      have g1 : (n : Int) ≤ 80 := by omega
      have g2 : ¬ (m : Int) ≤ 70 := by omega
      clear h1 h2
      go_enter Tryz.func4, Tryz.ntmps4
      go_wp2
      go_ret
      exact ⟨rfl, (by repeat (first | exact Xt.Nw.refl _ | refine Xt.Nw.drew ?_ | refine Xt.Nw.drewN ?_ _ | refine Xt.Nw.alloc ?_ _ | refine Xt.Nw.joined ?_ | refine Xt.Nw.drewd ?_ | refine Xt.Nw.drewdN ?_ | refine Xt.Nw.ext ?_ | refine Xt.Nw.ext_some ?_ (by assumption) | refine Xt.Nw.setCell ?_ (by simp [go_sem] <;> omega) _))⟩
  · have d1 : decide ((n : Int) ≤ 80) = false := by simp; omega
    rw [decide_eq_false h1]
    have g1 : ¬ (n : Int) ≤ 80 := by omega
    clear h1
    go_enter Tryz.func4, Tryz.ntmps4
    go_wp2
    go_ret
    exact ⟨rfl, (by repeat (first | exact Xt.Nw.refl _ | refine Xt.Nw.drew ?_ | refine Xt.Nw.drewN ?_ _ | refine Xt.Nw.alloc ?_ _ | refine Xt.Nw.joined ?_ | refine Xt.Nw.drewd ?_ | refine Xt.Nw.drewdN ?_ | refine Xt.Nw.ext ?_ | refine Xt.Nw.ext_some ?_ (by assumption) | refine Xt.Nw.setCell ?_ (by simp [go_sem] <;> omega) _))⟩
theorem same_L2 {w W : World} {gm gr : Nat} {cf : Cf} {s : Md} {N : Nat} {bs : List (Nat × List Value)} (h : L2 w gm gr cf s s N bs W) (hN : N ≤ 300000) :
    Calls Tryz.prog 13 #[.pointer (some ⟨gm, 0, none⟩), .pointer (some ⟨gr, 0, none⟩)] W fun e W' => e = .returned (.bool true) ∧ Nw W W' := by
  obtain ⟨p, q, rfl, rfl, hm, hr, hd, hp, hq, hb⟩ := h.ex
  exact same_yes W p q cf s hm hr (by have := h.ok1.len; omega) h.ok1.thn
theorem recorded_L2 {w W : World} {gm gr : Nat} {cf : Cf} {s r : Md} {N : Nat} {bs : List (Nat × List Value)} (h : L2 w gm gr cf s r N bs W) (hN : N ≤ 300000) (ht0 : 0 < r.th.length) (d : Dd) (hw : d.o.Wf) (hy : 0 ≤ d.by_) :
    Calls Tryz.prog 8 #[.pointer (some ⟨gr, 0, none⟩), dV d] W fun e W' => e = .returned (resV (recM r d)) ∧ Nw W W' := by
  obtain ⟨p, q, rfl, rfl, hm, hr, hd, hp, hq, hb⟩ := h.ex
  exact recorded_any W q cf r hr h.ok2 (by omega) ht0 d hw hy
/-- Both models at first. -/
theorem L2.made {w W W' : World} {p q : Pl} {cf : Cf} {n : Nat} (hn : n ≤ 1000) (hw : Nw w W) (hm : MAt W p ⟨cf.sl, [], List.replicate n Th0⟩) (hp : ∀ g ∈ p.foot, w.heap.size ≤ g) (hr : RAt W' q cf ⟨cf.sl, [], List.replicate n Th0⟩) (hq : ∀ g ∈ q.foot, W.heap.size ≤ g) (hW : Nw W W') : L2 w p.gm q.gm cf ⟨cf.sl, [], List.replicate n Th0⟩ ⟨cf.sl, [], List.replicate n Th0⟩ 0 [] W' := by
  have hok : Md.Ok ⟨cf.sl, [], List.replicate n Th0⟩ 0 := ⟨Nat.le_refl _, List.Pairwise.nil, fun _ h => (by cases h), (by simp; omega), fun x hx => (by rw [List.eq_of_mem_replicate hx]; exact ⟨fun h => (by cases h), fun h => (by cases h), fun h => (by cases h)⟩)⟩
  exact ⟨⟨p, q, rfl, rfl, hm.nw hW, hr, fun g hg hx => by have := hm.lt hg; have := hq g hx; omega, hp, fun g hg => Nat.le_trans hw.grown.size (hq g hg), fun x hx => by cases hx⟩, hok, hok, hw.trans hW⟩
/-- A deed's cells and bounds. -/
def DdOk (d : Dd) : Prop := d.o.Wf ∧ (0 ≤ d.r.key ∧ d.r.key < 18446744073709551616) ∧ 0 ≤ d.by_
end Go.Proofs.YtahagplegmcaaaaGreat
