import Derived.Test.YtahagplegmcaaaaGreatDoorGWk
import Derived.Test.YtahagplegmcaaaaGreatDoorGWh
import Derived.Test.YtahagplegmcaaaaGreatDoorGQp
import Derived.Test.YtahagplegmcaaaaGreatDoorGVt
set_option linter.unusedVariables false
set_option linter.unusedSimpArgs false
set_option linter.unnecessarySimpa false
namespace Go.Proofs.YtahagplegmcaaaaGreatDoor
open Go.RowKit Go.Xt
/-! The program's model beside the reference's, and boxes of the law's own. -/
structure L2 (w : World) (gm gr : Nat) (cf : Cf) (s r : Md) (N : Nat) (bs : List (Nat × List Value)) (W : World) : Prop where
  ex : ∃ p q : Pl, p.gm = gm ∧ q.gm = gr ∧ MAt W p s ∧ RAt W q cf r ∧ (∀ g ∈ p.foot, g ∉ q.foot) ∧ (∀ g ∈ p.foot, w.heap.size ≤ g) ∧ (∀ g ∈ q.foot, w.heap.size ≤ g) ∧ ∀ x ∈ bs, x.1 ∉ p.foot ∧ x.1 ∉ q.foot ∧ x.1 < W.heap.size ∧ ∀ j v, x.2[j]? = some v → W.cell? ⟨x.1, j, none⟩ = some v
  ok1 : s.Ok N
  ok2 : r.Ok N
  nw : Nw w W
section
variable {w W W' : World} {gm gr : Nat} {cf : Cf} {s r : Md} {N : Nat} {bs : List (Nat × List Value)}
theorem L2.grow (h : L2 w gm gr cf s r N bs W) (hn : Nw W W') : L2 w gm gr cf s r N bs W' := by
  obtain ⟨p, q, h1, h2, hm, hr, hd, hp, hq, hb⟩ := h.ex
  exact ⟨⟨p, q, h1, h2, hm.nw hn, hr.nw hn, hd, hp, hq, fun x hx => ⟨(hb x hx).1, (hb x hx).2.1, Nat.lt_of_lt_of_le (hb x hx).2.2.1 hn.grown.size, fun j v hv => cell_nw ((hb x hx).2.2.2 j v hv) hn⟩⟩, h.ok1, h.ok2, h.nw.trans hn⟩
theorem L2.cells (h : L2 w gm gr cf s r N bs W) {b : Nat} {cs : List Value} (hx : (b, cs) ∈ bs) {j : Nat} {v : Value} (hv : cs[j]? = some v) : W.cell? ⟨b, j, none⟩ = some v := by
  obtain ⟨p, q, h1, h2, hm, hr, hd, hp, hq, hb⟩ := h.ex
  exact (hb _ hx).2.2.2 j v hv
theorem L2.im (h : L2 w gm gr cf s r N bs W) : gm < W.heap.size := by
  obtain ⟨p, q, rfl, rfl, hm, hr, hd, hp, hq, hb⟩ := h.ex; exact hm.im
theorem L2.drop (h : L2 w gm gr cf s r N bs W) : L2 w gm gr cf s r N [] W := by
  obtain ⟨p, q, h1, h2, hm, hr, hd, hp, hq, hb⟩ := h.ex
  exact ⟨⟨p, q, h1, h2, hm, hr, hd, hp, hq, fun x hx => by cases hx⟩, h.ok1, h.ok2, h.nw⟩
end
section
variable {w W : World} {gm gr : Nat} {cf : Cf} {s r : Md} {N : Nat} {bs : List (Nat × List Value)}
end
end Go.Proofs.YtahagplegmcaaaaGreatDoor
namespace Go.Proofs.YtahagplegmcaaaaGreatDoor
open Go.RowKit Go.Xt
/-! The law's same and recorded. -/
/-- What the law takes for a thread: the seat's fields, or nothing. -/
theorem ofM_out {s : Md} {t : Int} (h : t < 0 ∨ (s.th.length : Int) ≤ t) : ofM s t = Th0 := if_pos h
set_option maxRecDepth 20000 in
set_option maxHeartbeats 16000000 in
theorem same_yes (w : World) (p q : Pl) (cf : Cf) (s : Md) (hm : MAt w p s) (hr : RAt w q cf s) (hl : s.l.length ≤ 1000000) (hn : s.th.length ≤ 1000) :
    Calls Tryz.prog 13 #[.pointer (some ⟨p.gm, 0, none⟩), .pointer (some ⟨q.gm, 0, none⟩)] w fun e w' => e = .returned (.bool true) ∧ Nw w w' := by
  have HP := Lib.hid (fun W (hw : Nw w W) => pairs_M W p s (hm.nw hw) hl)
  have HI := Lib.hid (fun W t (hw : Nw w W) => iter_M W p s (hm.nw hw) t)
  have HS := Lib.hid (fun W t (hw : Nw w W) => session_M W p s (hm.nw hw) t)
  have HM := Lib.hid hm
  have HR := Lib.hid hr
  obtain ⟨gm, gt, gp, v⟩ := q
  obtain ⟨mm, hmm⟩ : ∃ z, z = p.gm := ⟨_, rfl⟩
  simp only
  rw [← hmm] at HP HI HS ⊢
  have im : gm < w.heap.size := hr.im
  have it : gt < w.heap.size := hr.it
  have m1 : w.cell? ⟨gm, 16, none⟩ = some (.pointer (some ⟨gp, 0, none⟩)) := hr.m1
  obtain ⟨ct, m2⟩ : ∃ ct, w.cell? ⟨gm, 17, none⟩ = some (.slice (some ⟨gt, 0, none⟩) s.th.length ct) := hr.m2
  obtain ⟨A, ca, hv, hrd⟩ := own_rd hr.om.row
  have hv : v = .slice A s.l.length ca := hv
  have p0 : w.cell? ⟨gp, 0, none⟩ = some v := hr.om.p0
  rw [hv] at p0
  have HRD := Lib.hid hrd
  have HTH := Lib.hid (hr.th : RThR w gt s.th)
  have HL := Lib.hid hl
  have HNN := Lib.hid hn
  obtain ⟨n, hne⟩ : ∃ z, z = s.th.length := ⟨_, rfl⟩
  rw [← hne] at m2 hn
  obtain ⟨nl, hnl⟩ : ∃ z, z = s.l.length := ⟨_, rfl⟩
  rw [← hnl] at p0
  have HNE := Lib.hid hne
  have HNL := Lib.hid hnl
  haveI : In gm w := ⟨im⟩
  haveI : In gt w := ⟨it⟩
  haveI : In gp w := ⟨World.block_lt_of_cell? _ _ p0⟩
  have HSM := Lib.hid (fun (W : World) (v' : Value) (hw : Nw w W) (ho : W.ownsRow w.heap.size 106 2 v' s.l.length (pcells s.l)) => (own_rd ho))
  clear hm hr hmm hv hrd hl hne hnl
  go_enter Tryz.func13, Tryz.ntmps13
  go_upto_region 1 with (fail)
  go_region_held3 (fun w' => w'.cell? ⟨gm, 16, none⟩ = some (.pointer (some ⟨gp, 0, none⟩)) ∧ w'.cell? ⟨gp, 0, none⟩ = some (.slice A nl ca)) (first | exact ⟨m1, p0⟩ | exact ⟨cell_nw m1 (Nw.drew (Nw.refl _)), cell_nw p0 (Nw.drew (Nw.refl _))⟩ | exact ⟨cell_nw m1 hn6, cell_nw p0 hn6⟩ | exact ⟨cell_nw m1 hn7, cell_nw p0 hn7⟩)
    ((first | (go_at_call 39; refine (rsame_any A6 A s.l.length nl c6 ca s.l s.l W2 rd6 (by rw [HNL.out]; exact HRD.out.nw hn6) HL.out (by rw [HNL.out]; exact HL.out)).mono ?_; rw [decide_eq_true rfl]; rintro e W3 ⟨rfl, hn8⟩; have hn7 := hn6.trans hn8) | (go_at_call 40; refine (HP.out _ (Nw.drew (Nw.refl _))).mono ?_; rintro e W2 ⟨v6, rfl, ho, hn5⟩; have hn6 := (Nw.drew (Nw.refl w)).trans hn5; obtain ⟨A6, c6, rfl, rd6⟩ := own_rd ho)))
  rename_i hHeld
  clear hHeld
  have HN7 := Lib.hid hn7
  replace m2 := cell_nw m2 hn7
  haveI : In gm W3 := ⟨World.block_lt_of_cell? _ _ m2⟩
  haveI : In gt W3 := ⟨Nat.lt_of_lt_of_le it hn7.grown.size⟩
  clear hn7 hn8 hn6 hn5 ho rd6
  go_wp2
  go_loopw [5] (fun a wr => ∃ t : Int, -1 ≤ t ∧ t ≤ (n : Int) + 1 ∧ a = .int .i64 t ∧ Nw W3 wr) (fun a _ => ((n : Int) + 1 - intOf a).toNat)
  case atStart => exact ⟨-1, by omega, by omega, rfl, Nw.refl _⟩
  case round =>
    obtain ⟨t, ht0, ht1, rfl, d, rfl⟩ := hrel
    by_cases htn : t ≤ (n : Int)
    · by_cases hin : 0 ≤ t ∧ t < (n : Int)
      · obtain ⟨k, rfl⟩ : ∃ k : Nat, t = k := ⟨t.toNat, by omega⟩
        obtain ⟨x, hx⟩ : ∃ x, s.th[k]? = some x := ⟨_, List.getElem?_eq_getElem (by have := HNE.out; omega)⟩
        have hof : ofM s k = x := ofM_in hx
        have hi := HI.out
        have hs := HS.out
        have HI2 := Lib.hid (fun W (hw : Nw w W) => HI.out W k hw)
        have HS2 := Lib.hid (fun W (hw : Nw w W) => HS.out W k hw)
        rw [hof] at HI2 HS2
        obtain ⟨c0, c1, c2, c3, c4⟩ := (HTH.out.nw HN7.out).cells hx
        obtain ⟨op, mo, lo, hi', se⟩ := x
        simp only at c0 c1 c2 c3 c4 HI2 HS2
        have k1 : (k : Int) < (n : Int) := hin.2
        have k0 : (0 : Int) ≤ (k : Int) := by omega
        have HT := Lib.hid ht1
        clear hx hof hi hs hin ht0 ht1
        go_upto_region 10 with (go_at_call 41; refine (HI2.out _ (HN7.out.trans (by repeat (first | exact Xt.Nw.refl _ | refine Xt.Nw.drew ?_ | refine Xt.Nw.drewN ?_ _ | refine Xt.Nw.alloc ?_ _ | refine Xt.Nw.joined ?_ | refine Xt.Nw.drewd ?_ | refine Xt.Nw.drewdN ?_ | refine Xt.Nw.ext ?_ | refine Xt.Nw.ext_some ?_ (by assumption) | refine Xt.Nw.setCell ?_ (by simp [go_sem] <;> omega) _)))).mono ?_; rintro e w' ⟨rfl, dW, rfl⟩)
        (refine wp_region_nw (by kernel_rfl) (by kernel_rfl) ?_; (repeat (go_big_quiet_step ((go_at_call 42; refine (HS2.out _ (HN7.out.trans ((by repeat (first | exact Xt.Nw.refl _ | refine Xt.Nw.drew ?_ | refine Xt.Nw.drewN ?_ _ | refine Xt.Nw.alloc ?_ _ | refine Xt.Nw.joined ?_ | refine Xt.Nw.drewd ?_ | refine Xt.Nw.drewdN ?_ | refine Xt.Nw.ext ?_ | refine Xt.Nw.ext_some ?_ (by assumption) | refine Xt.Nw.setCell ?_ (by simp [go_sem] <;> omega) _))))).mono ?_; rintro e w' ⟨rfl, hnx⟩; exact ⟨rfl, (Nw.trans (reg_nw _ _) hnx)⟩)))); refine wpQuiet_nil ?_; intro _ hreg; obtain ⟨dW, rfl⟩ : Nw _ _ := hreg)
        go_wp2
        exact ⟨⟨(k : Int) + 1, by omega, by omega, rfl, (by repeat (first | exact Xt.Nw.refl _ | refine Xt.Nw.drew ?_ | refine Xt.Nw.drewN ?_ _ | refine Xt.Nw.alloc ?_ _ | refine Xt.Nw.joined ?_ | refine Xt.Nw.drewd ?_ | refine Xt.Nw.drewdN ?_ | refine Xt.Nw.ext ?_ | refine Xt.Nw.ext_some ?_ (by assumption) | refine Xt.Nw.setCell ?_ (by simp [go_sem] <;> omega) _))⟩, by simp [intOf]; omega⟩
      · have hof : ofM s t = Th0 := ofM_out (by have := HNE.out; omega)
        have HI2 := Lib.hid (fun W (hw : Nw w W) => HI.out W t hw)
        have HS2 := Lib.hid (fun W (hw : Nw w W) => HS.out W t hw)
        rw [hof] at HI2 HS2
        simp only [Th0] at HI2 HS2
        have HT := Lib.hid (And.intro ht0 (And.intro ht1 (And.intro htn hin)))
        by_cases h0 : 0 ≤ t
        · have k1 : ¬ t < (n : Int) := by omega
          clear hof hin ht0 ht1
          go_upto_region 10 with (go_at_call 41; refine (HI2.out _ (HN7.out.trans (by repeat (first | exact Xt.Nw.refl _ | refine Xt.Nw.drew ?_ | refine Xt.Nw.drewN ?_ _ | refine Xt.Nw.alloc ?_ _ | refine Xt.Nw.joined ?_ | refine Xt.Nw.drewd ?_ | refine Xt.Nw.drewdN ?_ | refine Xt.Nw.ext ?_ | refine Xt.Nw.ext_some ?_ (by assumption) | refine Xt.Nw.setCell ?_ (by simp [go_sem] <;> omega) _)))).mono ?_; rintro e w' ⟨rfl, dW, rfl⟩)
          (refine wp_region_nw (by kernel_rfl) (by kernel_rfl) ?_; (repeat (go_big_quiet_step ((go_at_call 42; refine (HS2.out _ (HN7.out.trans ((by repeat (first | exact Xt.Nw.refl _ | refine Xt.Nw.drew ?_ | refine Xt.Nw.drewN ?_ _ | refine Xt.Nw.alloc ?_ _ | refine Xt.Nw.joined ?_ | refine Xt.Nw.drewd ?_ | refine Xt.Nw.drewdN ?_ | refine Xt.Nw.ext ?_ | refine Xt.Nw.ext_some ?_ (by assumption) | refine Xt.Nw.setCell ?_ (by simp [go_sem] <;> omega) _))))).mono ?_; rintro e w' ⟨rfl, hnx⟩; exact ⟨rfl, (Nw.trans (reg_nw _ _) hnx)⟩)))); refine wpQuiet_nil ?_; intro _ hreg; obtain ⟨dW, rfl⟩ : Nw _ _ := hreg)
          have tb : t < 1001 := by have := HNN.out; have := HNE.out; omega
          go_wp2
          exact ⟨⟨t + 1, by omega, by omega, rfl, (by repeat (first | exact Xt.Nw.refl _ | refine Xt.Nw.drew ?_ | refine Xt.Nw.drewN ?_ _ | refine Xt.Nw.alloc ?_ _ | refine Xt.Nw.joined ?_ | refine Xt.Nw.drewd ?_ | refine Xt.Nw.drewdN ?_ | refine Xt.Nw.ext ?_ | refine Xt.Nw.ext_some ?_ (by assumption) | refine Xt.Nw.setCell ?_ (by simp [go_sem] <;> omega) _))⟩, by simp [intOf]; omega⟩
        · have ht : t = -1 := by omega
          subst ht
          clear hof hin ht0 ht1 htn h0
          go_upto_region 10 with (go_at_call 41; refine (HI2.out _ (HN7.out.trans (by repeat (first | exact Xt.Nw.refl _ | refine Xt.Nw.drew ?_ | refine Xt.Nw.drewN ?_ _ | refine Xt.Nw.alloc ?_ _ | refine Xt.Nw.joined ?_ | refine Xt.Nw.drewd ?_ | refine Xt.Nw.drewdN ?_ | refine Xt.Nw.ext ?_ | refine Xt.Nw.ext_some ?_ (by assumption) | refine Xt.Nw.setCell ?_ (by simp [go_sem] <;> omega) _)))).mono ?_; rintro e w' ⟨rfl, dW, rfl⟩)
          (refine wp_region_nw (by kernel_rfl) (by kernel_rfl) ?_; (repeat (go_big_quiet_step ((go_at_call 42; refine (HS2.out _ (HN7.out.trans ((by repeat (first | exact Xt.Nw.refl _ | refine Xt.Nw.drew ?_ | refine Xt.Nw.drewN ?_ _ | refine Xt.Nw.alloc ?_ _ | refine Xt.Nw.joined ?_ | refine Xt.Nw.drewd ?_ | refine Xt.Nw.drewdN ?_ | refine Xt.Nw.ext ?_ | refine Xt.Nw.ext_some ?_ (by assumption) | refine Xt.Nw.setCell ?_ (by simp [go_sem] <;> omega) _))))).mono ?_; rintro e w' ⟨rfl, hnx⟩; exact ⟨rfl, (Nw.trans (reg_nw _ _) hnx)⟩)))); refine wpQuiet_nil ?_; intro _ hreg; obtain ⟨dW, rfl⟩ : Nw _ _ := hreg)
          go_wp2
          exact ⟨⟨0, by omega, by omega, rfl, (by repeat (first | exact Xt.Nw.refl _ | refine Xt.Nw.drew ?_ | refine Xt.Nw.drewN ?_ _ | refine Xt.Nw.alloc ?_ _ | refine Xt.Nw.joined ?_ | refine Xt.Nw.drewd ?_ | refine Xt.Nw.drewdN ?_ | refine Xt.Nw.ext ?_ | refine Xt.Nw.ext_some ?_ (by assumption) | refine Xt.Nw.setCell ?_ (by simp [go_sem] <;> omega) _))⟩, by simp [intOf]; omega⟩
    · have k1 : ¬ t ≤ (n : Int) := htn
      go_wp2
      go_ret
      exact ⟨rfl, HN7.out.trans (by repeat (first | exact Xt.Nw.refl _ | refine Xt.Nw.drew ?_ | refine Xt.Nw.drewN ?_ _ | refine Xt.Nw.alloc ?_ _ | refine Xt.Nw.joined ?_ | refine Xt.Nw.drewd ?_ | refine Xt.Nw.drewdN ?_ | refine Xt.Nw.ext ?_ | refine Xt.Nw.ext_some ?_ (by assumption) | refine Xt.Nw.setCell ?_ (by simp [go_sem] <;> omega) _))⟩
/-- A deed as a value. -/
abbrev dV (d : Dd) : Value := .agg #[.int .i64 d.t, .int .u8 d.o.k, .int .u64 d.o.key, .int .u64 d.o.hi, .int .u64 d.o.val, .int .u64 d.o.old, .int .u64 d.o.by_, .int .u64 d.o.draw, .bool d.j, .int .u8 d.by_, .int .i64 d.r.err, .bool d.r.fd, .int .u64 d.r.key, .int .u64 d.r.val, .int .i64 d.r.cnt]
/-- The result that a deed judges. -/
def recM (r : Md) (d : Dd) : Rs := if d.by_ % 6 = 3 then d.r else if d.by_ % 6 = 4 then ⟨11, false, 0, 0, 0⟩ else if d.by_ % 6 = 5 then ⟨6, false, 0, 0, 0⟩ else (doM r d.t d.o).1
end Go.Proofs.YtahagplegmcaaaaGreatDoor
namespace Go.Proofs.YtahagplegmcaaaaGreatDoor
open Go.RowKit Go.Xt
/-! What the law ModelDoes needs besides. -/
set_option maxRecDepth 20000 in
set_option maxHeartbeats 4000000 in
theorem short_any (c : Cf) (A : Option Addr) (n cap : Nat) (w : World) :
    Calls Tryz.prog 4 #[confV c, .slice A n cap] w fun e w' => e = .returned (.bool (decide (n ≤ 80) && decide (c.cn ≤ 70))) ∧ Nw w w' := by
  obtain ⟨thr, sl, eng, bk, dk, dn, B, m, cc, t1, t2, t3, t4, t5, t6, lk, tr, ba⟩ := c
  unfold confV
  simp only
  by_cases h1 : n ≤ 80
  · have d1 : decide ((n : Int) ≤ 80) = true := by simp; omega
    by_cases h2 : m ≤ 70
    · have d2 : decide ((m : Int) ≤ 70) = true := by simp; omega
      rw [decide_eq_true h1, decide_eq_true h2]
      have g1 : (n : Int) ≤ 80 := by omega
      have g2 : (m : Int) ≤ 70 := by omega
      clear h1 h2
      go_enter Tryz.func4, Tryz.ntmps4
      go_wp2
      go_ret
      exact ⟨rfl, (by repeat (first | exact Xt.Nw.refl _ | refine Xt.Nw.drew ?_ | refine Xt.Nw.drewN ?_ _ | refine Xt.Nw.alloc ?_ _ | refine Xt.Nw.joined ?_ | refine Xt.Nw.drewd ?_ | refine Xt.Nw.drewdN ?_ | refine Xt.Nw.ext ?_ | refine Xt.Nw.ext_some ?_ (by assumption) | refine Xt.Nw.setCell ?_ (by simp [go_sem] <;> omega) _))⟩
    · have d2 : decide ((m : Int) ≤ 70) = false := by simp; omega
      rw [decide_eq_true h1, decide_eq_false h2]
      have g1 : (n : Int) ≤ 80 := by omega
      have g2 : ¬ (m : Int) ≤ 70 := by omega
      clear h1 h2
      go_enter Tryz.func4, Tryz.ntmps4
      go_wp2
      go_ret
      exact ⟨rfl, (by repeat (first | exact Xt.Nw.refl _ | refine Xt.Nw.drew ?_ | refine Xt.Nw.drewN ?_ _ | refine Xt.Nw.alloc ?_ _ | refine Xt.Nw.joined ?_ | refine Xt.Nw.drewd ?_ | refine Xt.Nw.drewdN ?_ | refine Xt.Nw.ext ?_ | refine Xt.Nw.ext_some ?_ (by assumption) | refine Xt.Nw.setCell ?_ (by simp [go_sem] <;> omega) _))⟩
  · have d1 : decide ((n : Int) ≤ 80) = false := by simp; omega
    rw [decide_eq_false h1]
    have g1 : ¬ (n : Int) ≤ 80 := by omega
    clear h1
    go_enter Tryz.func4, Tryz.ntmps4
    go_wp2
    go_ret
    exact ⟨rfl, (by repeat (first | exact Xt.Nw.refl _ | refine Xt.Nw.drew ?_ | refine Xt.Nw.drewN ?_ _ | refine Xt.Nw.alloc ?_ _ | refine Xt.Nw.joined ?_ | refine Xt.Nw.drewd ?_ | refine Xt.Nw.drewdN ?_ | refine Xt.Nw.ext ?_ | refine Xt.Nw.ext_some ?_ (by assumption) | refine Xt.Nw.setCell ?_ (by simp [go_sem] <;> omega) _))⟩
/-- Both models at first. -/
theorem L2.made {w W W' : World} {p q : Pl} {cf : Cf} {n : Nat} (hn : n ≤ 1000) (hw : Nw w W) (hm : MAt W p ⟨cf.sl, [], List.replicate n Th0⟩) (hp : ∀ g ∈ p.foot, w.heap.size ≤ g) (hr : RAt W' q cf ⟨cf.sl, [], List.replicate n Th0⟩) (hq : ∀ g ∈ q.foot, W.heap.size ≤ g) (hW : Nw W W') : L2 w p.gm q.gm cf ⟨cf.sl, [], List.replicate n Th0⟩ ⟨cf.sl, [], List.replicate n Th0⟩ 0 [] W' := by
  have hok : Md.Ok ⟨cf.sl, [], List.replicate n Th0⟩ 0 := ⟨Nat.le_refl _, List.Pairwise.nil, fun _ h => (by cases h), (by simp; omega), fun x hx => (by rw [List.eq_of_mem_replicate hx]; exact ⟨fun h => (by cases h), fun h => (by cases h), fun h => (by cases h)⟩)⟩
  exact ⟨⟨p, q, rfl, rfl, hm.nw hW, hr, fun g hg hx => by have := hm.lt hg; have := hq g hx; omega, hp, fun g hg => Nat.le_trans hw.grown.size (hq g hg), fun x hx => by cases hx⟩, hok, hok, hw.trans hW⟩
/-- A deed's cells and bounds. -/
def DdOk (d : Dd) : Prop := d.o.Wf ∧ (0 ≤ d.r.key ∧ d.r.key < 18446744073709551616) ∧ 0 ≤ d.by_
end Go.Proofs.YtahagplegmcaaaaGreatDoor
namespace Go.Proofs.YtahagplegmcaaaaGreatDoor
open Go.RowKit Go.Xt
/-! The law ModelDoes. -/
theorem cf_thr {c : Cf} {cuts : List Nat} (h : chkC c cuts = 0) : 1 ≤ c.thr ∧ c.thr ≤ 64 := by
  have hb : cfgB c cuts = true := by
    cases hb : cfgB c cuts with
    | true => rfl
    | false => unfold chkC at h; rw [if_neg (by simp [hb])] at h; cases h
  exact (cfgB_iff.1 hb).2.1
theorem chk_two (c : Cf) (cuts : List Nat) : chkC c cuts = 0 ∨ chkC c cuts = 2 := by unfold chkC; split <;> simp
end Go.Proofs.YtahagplegmcaaaaGreatDoor
