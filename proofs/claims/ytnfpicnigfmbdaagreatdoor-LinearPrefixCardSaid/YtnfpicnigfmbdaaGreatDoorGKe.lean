import Derived.Test.YtnfpicnigfmbdaaGreatDoorGKc
import Derived.Test.YtnfpicnigfmbdaaGreatDoorGSb
import Derived.Test.YtnfpicnigfmbdaaGreatDoorGSd
import Derived.Test.YtnfpicnigfmbdaaGreatDoorGP
import Derived.Test.YtnfpicnigfmbdaaGreatDoorGWg
import Derived.Maps.OwnSet
import Derived.Maps.OwnOps
import Derived.Maps.Views
import Derived.Maps.Keyed
import Derived.Test.YtnfpicnigfmbdaaGreatDoorGKa
set_option linter.unusedVariables false
set_option linter.unusedSimpArgs false
set_option linter.unnecessarySimpa false
namespace Go.Proofs.YtnfpicnigfmbdaaGreatDoor
open Go.RowKit Go.Xt
/-! A call performed on a copy of a model. -/
/-- All numbers of a call are numbers of their types. -/
structure WfX (c : Cl) : Prop where
  wf : WfC c
  op : Ox.Wf (opC c)
  rk : 0 ≤ c.rk ∧ c.rk < 18446744073709551616
/-- The calls of a slice that came in, with all of their numbers. -/
theorem calls_of2 {W : World} {A : Option Addr} {len : Nat} {L : List (List Value)} (hn : L.length = len) (hall : ∀ cs ∈ L, All2 KC cs)
    (hrd : 0 < len → ∃ b o, A = some ⟨b, o, none⟩ ∧ b < W.heap.size ∧ ∀ i cs, L[i]? = some cs → ∀ j u, cs[j]? = some u → W.cell? ⟨b, o + (i * KC.length + j), none⟩ = some u) : ∃ l, Cs W A len l ∧ ∀ y ∈ l, WfX y := by
  have one : ∀ cs ∈ L, ∃ x : Cl, cs = cl x ∧ WfX x := by
    intro cs hcs
    obtain ⟨_, _, rfl, ⟨th, rfl, w1⟩, h1⟩ := All2.cons (hall cs hcs)
    obtain ⟨_, _, rfl, ⟨ix, rfl, w2⟩, h2⟩ := All2.cons h1
    obtain ⟨_, _, rfl, ⟨kd, rfl, w3⟩, h3⟩ := All2.cons h2
    obtain ⟨_, _, rfl, ⟨ka, rfl, w4⟩, h4⟩ := All2.cons h3
    obtain ⟨_, _, rfl, ⟨kb, rfl, w5⟩, h5⟩ := All2.cons h4
    obtain ⟨_, _, rfl, ⟨kc, rfl, w6⟩, h6⟩ := All2.cons h5
    obtain ⟨_, _, rfl, ⟨kx, rfl, w7⟩, h7⟩ := All2.cons h6
    obtain ⟨_, _, rfl, ⟨ky, rfl, w8⟩, h8⟩ := All2.cons h7
    obtain ⟨_, _, rfl, ⟨kz, rfl, w9⟩, h9⟩ := All2.cons h8
    obtain ⟨_, _, rfl, ⟨inv, rfl, w10⟩, h10⟩ := All2.cons h9
    obtain ⟨_, _, rfl, ⟨took, rfl, w11⟩, h11⟩ := All2.cons h10
    obtain ⟨_, _, rfl, ⟨ans, rfl, w12⟩, h12⟩ := All2.cons h11
    obtain ⟨_, _, rfl, ⟨st, rfl, w13⟩, h13⟩ := All2.cons h12
    obtain ⟨_, _, rfl, ⟨re, rfl, w14⟩, h14⟩ := All2.cons h13
    obtain ⟨_, _, rfl, ⟨rf, rfl⟩, h15⟩ := All2.cons h14
    obtain ⟨_, _, rfl, ⟨rk, rfl, w16⟩, h16⟩ := All2.cons h15
    obtain ⟨_, _, rfl, ⟨rv, rfl, w17⟩, h17⟩ := All2.cons h16
    obtain ⟨_, _, rfl, ⟨rc, rfl, w18⟩, h18⟩ := All2.cons h17
    obtain rfl := All2.nil h18
    exact ⟨⟨th, ix, kd, ka, kb, kc, kx, ky, kz, inv, took, ans, st, re, rf, rk, rv, rc⟩, rfl, ⟨⟨WfI64 w1, WfI64 w2, WfI64 w10, WfI64 w11, WfI64 w12, WfI64 w13⟩, ⟨WfU8 w3, WfU64 w4, WfU64 w5, WfU64 w6, WfU64 w7, WfU64 w8, WfU64 w9⟩, WfU64 w16⟩⟩
  have pick : ∀ cs : List Value, ∃ x : Cl, cs ∈ L → cs = cl x ∧ WfX x := fun cs => by
    by_cases h : cs ∈ L
    · obtain ⟨x, hx⟩ := one cs h; exact ⟨x, fun _ => hx⟩
    · exact ⟨zc, fun h' => absurd h' h⟩
  refine ⟨L.map fun cs => Classical.choose (pick cs), ⟨by simpa using hn, fun hp => ?_⟩, fun s hs => ?_⟩
  · obtain ⟨b, o, rfl, hb, hc⟩ := hrd hp
    refine ⟨b, o, rfl, hb, fun i x hx => ?_⟩
    rw [List.getElem?_map] at hx
    obtain ⟨cs, hcs, rfl⟩ := Option.map_eq_some_iff.1 hx
    have h1 := (Classical.choose_spec (pick cs) (List.mem_of_getElem? hcs)).1
    refine AtC.of_range fun j u hu => ?_
    rw [← h1] at hu
    have := hc i cs hcs j u hu
    rw [show o + i * 18 + j = o + (i * KC.length + j) by show _ = o + (i * 18 + j); omega]
    exact this
  · obtain ⟨cs, hcs, rfl⟩ := List.mem_map.1 hs
    exact (Classical.choose_spec (pick cs) hcs).2
/-- A model in memory, with what holds of its state. -/
structure MS (W : World) (p : Pl) (s : Md) (N : Nat) : Prop where
  at_ : MAt W p s
  ok : s.Ok N
  nums : s.Nums
  pos : 0 < s.th.length
theorem MS.chg {W W' : World} {p : Pl} {s : Md} {N : Nat} {X : List Nat} (h : MS W p s N) (hc : Chg X W W') (hx : ∀ g ∈ p.foot, g ∉ X) : MS W' p s N := ⟨h.at_.chg hc hx, h.ok, h.nums, h.pos⟩
theorem MS.nw {W W' : World} {p : Pl} {s : Md} {N : Nat} (h : MS W p s N) (hn : Nw W W') : MS W' p s N := ⟨h.at_.nw hn, h.ok, h.nums, h.pos⟩
/-- What next returns, and the world behind it. -/
def NextP (w : World) (s : Md) (x : Cl) (N : Nat) (e : Ending) (w' : World) : Prop := match nextM s x with
  | none => e = .returned (.pointer none) ∧ Nw w w'
  | some s' => ∃ p : Pl, e = .returned (.pointer (some ⟨p.gm, 0, none⟩)) ∧ MS w' p s' (N + 1) ∧ (∀ g ∈ p.foot, w.heap.size ≤ g) ∧ Nw w w'
/-- A model that was copied, then worked on. -/
theorem next_fin {W W1 W2 W3 : World} {p' p'' : Pl} {s s' : Md} {x : Cl} {N : Nat} (hnx : nextM s x = some s') (hf : ∀ g ∈ p'.foot, W.heap.size ≤ g) (h1 : Nw W W1) (h2 : Nw W1 W2) (hu : MUp W2 p' s' p'' W3) (hok : s'.Ok (N + 1)) (hnu : s'.Nums) (hpos : 0 < s'.th.length) :
    NextP W s x N (.returned (.pointer (some ⟨p'.gm, 0, none⟩))) W3 := by
  unfold NextP
  rw [hnx]
  refine ⟨p'', by rw [hu.gm], ⟨hu.at', hok, hnu, hpos⟩, fun g hg => ?_, nw_chg2 (h1.trans h2) hu.chg hf⟩
  rcases hu.mv g hg with h | h
  · exact hf g h
  · exact Nat.le_trans (h1.trans h2).grown.size h
set_option maxRecDepth 20000 in
set_option maxHeartbeats 8000000 in
theorem lnx_do (W : World) (p : Pl) (s : Md) (N : Nat) (h : MS W p s N) (hN : N ≤ 400000) (sb : Nat) (A : Option Addr) (n c i : Nat) (l : List Cl) (x : Cl) (h0 : W.cell? ⟨sb, 0, none⟩ = some (.slice A n c)) (hn : n ≤ 1000) (hl : Cs W A n l) (hi : i < n) (hx : l[i]? = some x) (hw : WfX x) (ha : x.ans < 0) :
    Calls Tryz.prog 25 #[.pointer (some ⟨sb, 0, none⟩), .pointer (some ⟨p.gm, 0, none⟩), .int .i64 (i : Int)] W (NextP W s x N) := by
  have HC := Lib.hid (copy_M W p s h.at_ (by have := h.ok.len; omega) h.pos h.ok.thn)
  have HM := Lib.hid h
  have HL := Lib.hid hl
  have HWX := Lib.hid hw
  have HXI := Lib.hid hx
  have HNN := Lib.hid hN
  obtain ⟨gm, hgm⟩ : ∃ g, g = p.gm := ⟨_, rfl⟩
  rw [← hgm] at HC ⊢
  haveI : In sb W := ⟨World.block_lt_of_cell? W _ h0⟩
  haveI : In gm W := ⟨hgm ▸ h.at_.im⟩
  clear hgm h hl hw hx hN
  go_enter Tryz.func25, Tryz.ntmps25
  go_wp2_with fail
  refine HC.out.mono ?_
  rintro e W1 ⟨g1, rfl, p1, hp1, hm1, hf1, hn1⟩
  have h01 := cell_nw h0 hn1
  obtain ⟨b, o, x1, e1, hb, hx1, hc⟩ := (HL.out.nw hn1).get hi
  obtain rfl : x = x1 := by have := HXI.out; rw [hx1] at this; injection this with this; exact this.symm
  subst e1
  haveI : CallAt W1 b (o + i * 18) x := ⟨hc, hb⟩
  haveI : In b W1 := ⟨hb⟩
  haveI : In sb W1 := ⟨World.block_lt_of_cell? W1 _ h01⟩
  haveI : In g1 W1 := ⟨hp1 ▸ hm1.im⟩
  have hi2 : (i : Int) < (n : Int) := by omega
  have HM1 := Lib.hid (And.intro hm1 (And.intro hf1 hn1))
  have HP1 := Lib.hid hp1
  clear hm1 hf1 hn1 hx1 h0 hb hp1 hc
  go_wp2_with fail
  have hD := do_any (W1.alloc (.cells #[.int .i64 x.th, .int .i64 x.ix, .int .u8 x.kd, .int .u64 x.ka, .int .u64 x.kb, .int .u64 x.kc, .int .u64 x.kx, .int .u64 x.ky, .int .u64 x.kz, .int .i64 x.inv, .int .i64 x.took, .int .i64 x.ans, .int .i64 x.st, .int .i64 x.re, .bool x.rf, .int .u64 x.rk, .int .u64 x.rv, .int .i64 x.rc] 49)) p1 s (HM1.out.1.nw (by repeat (first | exact Xt.Nw.refl _ | refine Xt.Nw.drew ?_ | refine Xt.Nw.drewN ?_ _ | refine Xt.Nw.alloc ?_ _ | refine Xt.Nw.joined ?_ | refine Xt.Nw.drewd ?_ | refine Xt.Nw.drewdN ?_ | refine Xt.Nw.ext ?_ | refine Xt.Nw.ext_some ?_ (by assumption) | refine Xt.Nw.setCell ?_ (by simp [go_sem] <;> omega) _))) HM.out.ok (by have := HNN.out; omega) x.th (opC x) HWX.out.op
  unfold opV at hD
  simp only [opC] at hD
  rw [HP1.out] at hD
  refine hD.mono ?_
  rintro e W3 ⟨rfl, p3, hu⟩
  go_wp2
  go_ret
  have hfin := next_fin (s := s) (s' := (doM s x.th (opC x)).2) (x := x) (N := N) (by unfold nextM; rw [if_pos (by omega)]) HM1.out.2.1 HM1.out.2.2 (by repeat (first | exact Xt.Nw.refl _ | refine Xt.Nw.drew ?_ | refine Xt.Nw.drewN ?_ _ | refine Xt.Nw.alloc ?_ _ | refine Xt.Nw.joined ?_ | refine Xt.Nw.drewd ?_ | refine Xt.Nw.drewdN ?_ | refine Xt.Nw.ext ?_ | refine Xt.Nw.ext_some ?_ (by assumption) | refine Xt.Nw.setCell ?_ (by simp [go_sem] <;> omega) _)) hu (doM_ok HM.out.ok x.th HWX.out.op) (doM_nums HM.out.ok HM.out.nums x.th HWX.out.op) (by have := (doM_len s x.th (opC x)).1; have := HM.out.pos; simp only [opC] at *; omega)
  rw [HP1.out] at hfin
  exact hfin
set_option maxRecDepth 20000 in
set_option maxHeartbeats 8000000 in
theorem lnx_yes (W : World) (p : Pl) (s : Md) (N : Nat) (h : MS W p s N) (hN : N ≤ 400000) (sb : Nat) (A : Option Addr) (n c i : Nat) (l : List Cl) (x : Cl) (h0 : W.cell? ⟨sb, 0, none⟩ = some (.slice A n c)) (hn : n ≤ 1000) (hl : Cs W A n l) (hi : i < n) (hx : l[i]? = some x) (hw : WfX x) (ha : ¬ x.ans < 0) (hacc : (acceptM s x.th (opC x) (rsC x)).1 = true) :
    Calls Tryz.prog 25 #[.pointer (some ⟨sb, 0, none⟩), .pointer (some ⟨p.gm, 0, none⟩), .int .i64 (i : Int)] W (NextP W s x N) := by
  have HC := Lib.hid (copy_M W p s h.at_ (by have := h.ok.len; omega) h.pos h.ok.thn)
  have HM := Lib.hid h
  have HL := Lib.hid hl
  have HWX := Lib.hid hw
  have HXI := Lib.hid hx
  have HNN := Lib.hid hN
  obtain ⟨gm, hgm⟩ : ∃ g, g = p.gm := ⟨_, rfl⟩
  rw [← hgm] at HC ⊢
  haveI : In sb W := ⟨World.block_lt_of_cell? W _ h0⟩
  haveI : In gm W := ⟨hgm ▸ h.at_.im⟩
  have HACC := Lib.hid hacc
  clear hgm h hl hw hx hN hacc
  go_enter Tryz.func25, Tryz.ntmps25
  go_wp2_with fail
  refine HC.out.mono ?_
  rintro e W1 ⟨g1, rfl, p1, hp1, hm1, hf1, hn1⟩
  have h01 := cell_nw h0 hn1
  obtain ⟨b, o, x1, e1, hb, hx1, hc⟩ := (HL.out.nw hn1).get hi
  obtain rfl : x = x1 := by have := HXI.out; rw [hx1] at this; injection this with this; exact this.symm
  subst e1
  haveI : CallAt W1 b (o + i * 18) x := ⟨hc, hb⟩
  haveI : In b W1 := ⟨hb⟩
  haveI : In sb W1 := ⟨World.block_lt_of_cell? W1 _ h01⟩
  haveI : In g1 W1 := ⟨hp1 ▸ hm1.im⟩
  have hi2 : (i : Int) < (n : Int) := by omega
  have HM1 := Lib.hid (And.intro hm1 (And.intro hf1 hn1))
  have HP1 := Lib.hid hp1
  clear hm1 hf1 hn1 hx1 h0 hb hp1 hc
  go_wp2_with fail
  have hD := accept_any (W1.alloc (.cells #[.int .i64 x.th, .int .i64 x.ix, .int .u8 x.kd, .int .u64 x.ka, .int .u64 x.kb, .int .u64 x.kc, .int .u64 x.kx, .int .u64 x.ky, .int .u64 x.kz, .int .i64 x.inv, .int .i64 x.took, .int .i64 x.ans, .int .i64 x.st, .int .i64 x.re, .bool x.rf, .int .u64 x.rk, .int .u64 x.rv, .int .i64 x.rc] 49)) p1 s (HM1.out.1.nw (by repeat (first | exact Xt.Nw.refl _ | refine Xt.Nw.drew ?_ | refine Xt.Nw.drewN ?_ _ | refine Xt.Nw.alloc ?_ _ | refine Xt.Nw.joined ?_ | refine Xt.Nw.drewd ?_ | refine Xt.Nw.drewdN ?_ | refine Xt.Nw.ext ?_ | refine Xt.Nw.ext_some ?_ (by assumption) | refine Xt.Nw.setCell ?_ (by simp [go_sem] <;> omega) _))) HM.out.ok (by have := HNN.out; omega) x.th (opC x) HWX.out.op (rsC x) HWX.out.rk
  rw [HACC.out] at hD
  unfold opV resV at hD
  simp only [opC, rsC] at hD
  rw [HP1.out] at hD
  refine hD.mono ?_
  rintro e W3 ⟨rfl, p3, hu⟩
  go_wp2
  go_ret
  have hfin := next_fin (s := s) (s' := (acceptM s x.th (opC x) (rsC x)).2) (x := x) (N := N) (by unfold nextM; rw [if_neg (by omega), if_pos HACC.out]) HM1.out.2.1 HM1.out.2.2 (by repeat (first | exact Xt.Nw.refl _ | refine Xt.Nw.drew ?_ | refine Xt.Nw.drewN ?_ _ | refine Xt.Nw.alloc ?_ _ | refine Xt.Nw.joined ?_ | refine Xt.Nw.drewd ?_ | refine Xt.Nw.drewdN ?_ | refine Xt.Nw.ext ?_ | refine Xt.Nw.ext_some ?_ (by assumption) | refine Xt.Nw.setCell ?_ (by simp [go_sem] <;> omega) _)) hu (acceptM_ok HM.out.ok x.th HWX.out.op HWX.out.rk.1) (acceptM_nums HM.out.ok HM.out.nums x.th HWX.out.op HWX.out.rk) (by rw [acceptM_len]; exact HM.out.pos)
  rw [HP1.out] at hfin
  exact hfin
set_option maxRecDepth 20000 in
set_option maxHeartbeats 8000000 in
theorem lnx_no (W : World) (p : Pl) (s : Md) (N : Nat) (h : MS W p s N) (hN : N ≤ 400000) (sb : Nat) (A : Option Addr) (n c i : Nat) (l : List Cl) (x : Cl) (h0 : W.cell? ⟨sb, 0, none⟩ = some (.slice A n c)) (hn : n ≤ 1000) (hl : Cs W A n l) (hi : i < n) (hx : l[i]? = some x) (hw : WfX x) (ha : ¬ x.ans < 0) (hacc : (acceptM s x.th (opC x) (rsC x)).1 = false) :
    Calls Tryz.prog 25 #[.pointer (some ⟨sb, 0, none⟩), .pointer (some ⟨p.gm, 0, none⟩), .int .i64 (i : Int)] W (NextP W s x N) := by
  have HC := Lib.hid (copy_M W p s h.at_ (by have := h.ok.len; omega) h.pos h.ok.thn)
  have HM := Lib.hid h
  have HL := Lib.hid hl
  have HWX := Lib.hid hw
  have HXI := Lib.hid hx
  have HNN := Lib.hid hN
  obtain ⟨gm, hgm⟩ : ∃ g, g = p.gm := ⟨_, rfl⟩
  rw [← hgm] at HC ⊢
  haveI : In sb W := ⟨World.block_lt_of_cell? W _ h0⟩
  haveI : In gm W := ⟨hgm ▸ h.at_.im⟩
  have HACC := Lib.hid hacc
  clear hgm h hl hw hx hN hacc
  go_enter Tryz.func25, Tryz.ntmps25
  go_wp2_with fail
  refine HC.out.mono ?_
  rintro e W1 ⟨g1, rfl, p1, hp1, hm1, hf1, hn1⟩
  have h01 := cell_nw h0 hn1
  obtain ⟨b, o, x1, e1, hb, hx1, hc⟩ := (HL.out.nw hn1).get hi
  obtain rfl : x = x1 := by have := HXI.out; rw [hx1] at this; injection this with this; exact this.symm
  subst e1
  haveI : CallAt W1 b (o + i * 18) x := ⟨hc, hb⟩
  haveI : In b W1 := ⟨hb⟩
  haveI : In sb W1 := ⟨World.block_lt_of_cell? W1 _ h01⟩
  haveI : In g1 W1 := ⟨hp1 ▸ hm1.im⟩
  have hi2 : (i : Int) < (n : Int) := by omega
  have HM1 := Lib.hid (And.intro hm1 (And.intro hf1 hn1))
  have HP1 := Lib.hid hp1
  clear hm1 hf1 hn1 hx1 h0 hb hp1 hc
  go_wp2_with fail
  have hD := accept_any (W1.alloc (.cells #[.int .i64 x.th, .int .i64 x.ix, .int .u8 x.kd, .int .u64 x.ka, .int .u64 x.kb, .int .u64 x.kc, .int .u64 x.kx, .int .u64 x.ky, .int .u64 x.kz, .int .i64 x.inv, .int .i64 x.took, .int .i64 x.ans, .int .i64 x.st, .int .i64 x.re, .bool x.rf, .int .u64 x.rk, .int .u64 x.rv, .int .i64 x.rc] 49)) p1 s (HM1.out.1.nw (by repeat (first | exact Xt.Nw.refl _ | refine Xt.Nw.drew ?_ | refine Xt.Nw.drewN ?_ _ | refine Xt.Nw.alloc ?_ _ | refine Xt.Nw.joined ?_ | refine Xt.Nw.drewd ?_ | refine Xt.Nw.drewdN ?_ | refine Xt.Nw.ext ?_ | refine Xt.Nw.ext_some ?_ (by assumption) | refine Xt.Nw.setCell ?_ (by simp [go_sem] <;> omega) _))) HM.out.ok (by have := HNN.out; omega) x.th (opC x) HWX.out.op (rsC x) HWX.out.rk
  rw [HACC.out] at hD
  unfold opV resV at hD
  simp only [opC, rsC] at hD
  rw [HP1.out] at hD
  refine hD.mono ?_
  rintro e W3 ⟨rfl, p3, hu⟩
  go_wp2
  go_ret
  unfold NextP nextM
  rw [if_neg (show ¬ x.ans < 0 by omega), HACC.out]
  exact ⟨rfl, nw_chg2 (HM1.out.2.2.trans (by repeat (first | exact Xt.Nw.refl _ | refine Xt.Nw.drew ?_ | refine Xt.Nw.drewN ?_ _ | refine Xt.Nw.alloc ?_ _ | refine Xt.Nw.joined ?_ | refine Xt.Nw.drewd ?_ | refine Xt.Nw.drewdN ?_ | refine Xt.Nw.ext ?_ | refine Xt.Nw.ext_some ?_ (by assumption) | refine Xt.Nw.setCell ?_ (by simp [go_sem] <;> omega) _))) hu.chg HM1.out.2.1⟩
theorem lnx_any (W : World) (p : Pl) (s : Md) (N : Nat) (h : MS W p s N) (hN : N ≤ 400000) (sb : Nat) (A : Option Addr) (n c i : Nat) (l : List Cl) (x : Cl) (h0 : W.cell? ⟨sb, 0, none⟩ = some (.slice A n c)) (hn : n ≤ 1000) (hl : Cs W A n l) (hi : i < n) (hx : l[i]? = some x) (hw : WfX x) :
    Calls Tryz.prog 25 #[.pointer (some ⟨sb, 0, none⟩), .pointer (some ⟨p.gm, 0, none⟩), .int .i64 (i : Int)] W (NextP W s x N) := by
  by_cases ha : x.ans < 0
  · exact lnx_do W p s N h hN sb A n c i l x h0 hn hl hi hx hw ha
  · cases hacc : (acceptM s x.th (opC x) (rsC x)).1 with
    | true => exact lnx_yes W p s N h hN sb A n c i l x h0 hn hl hi hx hw ha hacc
    | false => exact lnx_no W p s N h hN sb A n c i l x h0 hn hl hi hx hw ha hacc
end Go.Proofs.YtnfpicnigfmbdaaGreatDoor
namespace Go.Proofs.YtnfpicnigfmbdaaGreatDoor
open Go.RowKit Go.Xt
/-! The map of the places from which there is no linearization. -/
/-- Places from which there is no linearization. -/
def Vn (l : List Cl) (D : Nat) (z : ByteArray) : Prop := ∃ (o : List Nat) (s : Md), Msk D o ∧ Ord l.length o ∧ s.Nums ∧ U64s s.l ∧ z = ⟨(keyB s).toArray⟩ ∧ exts l (l.length + 1 - o.length) o s = []
theorem sub_len : ∀ (a b : List Nat), a.Nodup → (∀ i ∈ a, i ∈ b) → a.length ≤ b.length
  | [], _, _, _ => Nat.zero_le _
  | x :: a, b, hn, h => by
    have hx := h x (by simp)
    have := sub_len a (b.erase x) (List.nodup_cons.1 hn).2 fun i hi => by
      refine (List.mem_erase_of_ne ?_).2 (h i (List.mem_cons_of_mem _ hi))
      rintro rfl
      exact (List.nodup_cons.1 hn).1 hi
    rw [List.length_erase_of_mem hx] at this
    have hp := List.length_pos_of_mem hx
    simp; omega
theorem nodup_same {a b : List Nat} (ha : a.Nodup) (hb : b.Nodup) (h : ∀ i, i ∈ a ↔ i ∈ b) : a.length = b.length :=
  Nat.le_antisymm (sub_len a b ha fun i hi => (h i).1 hi) (sub_len b a hb fun i hi => (h i).2 hi)
theorem md_ext {s t : Md} (h1 : s.slots = t.slots) (h2 : s.th = t.th) (h3 : s.l = t.l) : s = t := by
  obtain ⟨a, b, c⟩ := s; obtain ⟨d, e, f⟩ := t; simp only at h1 h2 h3; subst h1 h2 h3; rfl
theorem Vn.none {l : List Cl} {D : Nat} {o : List Nat} {s : Md} (hD : Msk D o) (ho : Ord l.length o) (hn : s.Nums) (hu : U64s s.l) (h : Vn l D ⟨(keyB s).toArray⟩) : exts l (l.length + 1 - o.length) o s = [] := by
  obtain ⟨o', s', hD', ho', hn', hu', hk, he⟩ := h
  have hk : keyB s = keyB s' := by
    have := congrArg (fun z : ByteArray => z.data.toList) hk
    simpa using this
  obtain ⟨e1, e2, e3⟩ := keyB_inj hn hn' hu hu' hk
  obtain rfl := md_ext e1 e2 e3
  have hlen := nodup_same ho.1 ho'.1 (hD.same hD')
  rw [hlen]
  exact (exts_same l _ _ _ s (hD.same hD')).2 he
abbrev plV (D : Nat) (z : ByteArray) : Value := .agg #[.int .i64 (D : Int), .string z]
theorem placeKeyed : Maps.Keyed Tryz.prog 82 := Maps.Keyed.of_law (deep_law_laid (by kernel_rfl) (m := 3) (by decide) (of_decide_eq_true (by kernel_rfl)) (by kernel_rfl) (by kernel_rfl))
/-- Block vb is a map of at most n entries, all of which are such places. -/
def VainAt (l : List Cl) (W : World) (vb n : Nat) : Prop :=
  ∃ D : DataW Unit, W.ownsMap Tryz.prog 82 (plainElem Tryz.prog 4) vb n D ∧ ∀ d z kl, keyOf Tryz.prog 82 (plV d z) = some kl → D.atKey kl (.lit (.bool false)) = .lit (.bool true) → Vn l d z
theorem VainAt.kept {l : List Cl} {W W' : World} {vb n : Nat} {row : Option Nat} (h : VainAt l W vb n) (hg : W.grownBy W' row) (hne : some vb ≠ row) : VainAt l W' vb n := by
  obtain ⟨D, h1, h2⟩ := h; exact ⟨D, h1.kept hg hne, h2⟩
theorem VainAt.chg {l : List Cl} {W W' : World} {vb n : Nat} {X : List Nat} (h : VainAt l W vb n) (hc : Chg X W W') (hx : vb ∉ X) : VainAt l W' vb n := by
  obtain ⟨D, ⟨es, clock, hb, hr⟩, h2⟩ := h
  exact ⟨D, ⟨es, clock, (hc.block vb (Array.getElem?_eq_some_iff.1 hb).1 hx).trans hb, hr⟩, h2⟩
theorem VainAt.mono {l : List Cl} {W : World} {vb n n' : Nat} (h : VainAt l W vb n) (hn : n ≤ n') : VainAt l W vb n' := by
  obtain ⟨D, h1, h2⟩ := h; exact ⟨D, h1.mono hn, h2⟩
theorem VainAt.lt {l : List Cl} {W : World} {vb n : Nat} (h : VainAt l W vb n) : vb < W.heap.size := by
  obtain ⟨D, h1, _⟩ := h; exact h1.lt
theorem VainAt.ne {l : List Cl} {W : World} {vb n : Nat} (h : VainAt l W vb n) {b i : Nat} {v : Value} (hc : W.cell? ⟨b, i, none⟩ = some v) : b ≠ vb := by
  obtain ⟨D, ⟨es, clock, hb, -⟩, -⟩ := h
  rintro rfl
  unfold World.cell? at hc
  rw [hb] at hc
  simp at hc
theorem vain_new (l : List Cl) (w : World) : VainAt l (w.alloc (.map #[] 0)) w.heap.size 0 := ⟨_, World.ownsMap_made w _ _ _, fun d z kl _ h => by
  have : (DataW.map [] : DataW Unit).atKey kl (.lit (.bool false)) = .lit (.bool false) := rfl
  rw [this] at h; cases h⟩
theorem cPlace : Tryz.prog.cellsOf 82 = 2 := by kernel_rfl
theorem cIntK : Tryz.prog.cellsOf 3 = 1 := by kernel_rfl
theorem cStrK : Tryz.prog.cellsOf 9 = 1 := by kernel_rfl
theorem place_key {d : Nat} {z : ByteArray} (hd : d < 1048576) (hz : z.size ≤ maxLen) : ∃ kl, keyOf Tryz.prog 82 (plV d z) = some kl := by
  have hw : (Lit.int .i64 (d : Int)).wf = true := by simp [Lit.wf, IntKind.min, IntKind.max, IntKind.bits, IntKind.signed]; omega
  have h1 : Tryz.prog.keyType 82 = true := by kernel_rfl
  obtain ⟨m, hm⟩ : ∃ m, Tryz.prog.types.size = m + 1 := ⟨Tryz.prog.types.size - 1, by have : 0 < Tryz.prog.types.size := of_decide_eq_true (by kernel_rfl); omega⟩
  have ei : Tryz.prog.keyLits (m + 1) 3 [.int .i64 (d : Int)] = some [.int .i64 (d : Int)] := by
    unfold Program.keyLits; simp only [Tryz.underlying3]; simp [hw]
  have es : Tryz.prog.keyLits (m + 1) 9 [.string z] = some [.string z.data.toList] := by
    unfold Program.keyLits; simp only [Tryz.underlying9]; simp [hz]
  have e : Tryz.prog.keyLits (m + 1 + 1) 82 [.int .i64 (d : Int), .string z] = some [.int .i64 (d : Int), .string z.data.toList] := by
    unfold Program.keyLits
    simp only [Tryz.underlying82]
    simp [cPlace, cIntK, cStrK, ei, es]
  unfold keyOf
  simp only [Tryz.underlying82, h1, hm, Value.formed, cPlace, Bool.true_and, Value.cells]
  rw [e]
  exact ⟨_, rfl⟩
end Go.Proofs.YtnfpicnigfmbdaaGreatDoor
