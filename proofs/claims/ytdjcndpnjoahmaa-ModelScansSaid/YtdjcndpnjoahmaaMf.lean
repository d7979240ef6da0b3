import Derived.Test.YtdjcndpnjoahmaaMe
namespace Go.Proofs.Ytdjcndpnjoahmaa
open Go.RowKit Go.Xt
/-! Opening and shutting. -/
/-- The row of the threads. -/
def ThRow (base : Nat) (W : World) (gt : Nat) (b : List Bool) : Prop := W.ownsRow base 59 5 (.slice (some ⟨gt, 0, none⟩) b.length b.length) b.length (thr b)
theorem th_set {base : Nat} {W : World} {gt : Nat} {b : List Bool} (h : ThRow base W gt b) {k : Nat} (hk : k < b.length) (v : Bool) : ThRow base (W.setCell ⟨gt, k * 5 + 4, none⟩ (.bool v)) gt (b.set k v) := by
  have h2 := (h.stored (k * 5 + 4) (.bool v)).1
  rw [← thr_set b k v hk] at h2
  unfold ThRow
  rw [List.length_set]; exact h2
set_option maxRecDepth 20000 in
set_option maxHeartbeats 4000000 in
theorem shut_any (base : Nat) (w : World) (gm gt gp : Nat) (slots : Int) (b : List Bool) (L : Value) (h : Mdl base w gm gt gp slots b L) (t : Nat) (sf : Bool) (ht : b[t]? = some sf) :
    Calls Try.prog 21 #[.pointer (some ⟨gm, 0, none⟩), .int .i64 t, op7 2 0 0 0 0 0 0] w fun e w' => e = .returned (res5 0 false 0 0 0) ∧ w.grownBy w' (some gt) ∧ ThRow base w' gt (b.set t false) := by
  obtain ⟨p, _⟩ := List.getElem?_eq_some_iff.1 ht
  obtain ⟨c0, c1, c2, c3, c4⟩ := h.cells ht
  have m2 := h.m2
  have hz : w.frozen? ⟨gt, t * 5 + 4, none⟩ = false := h.th.frozenAt _
  haveI : In gm w := ⟨h.im⟩
  haveI : In gt w := ⟨h.it⟩
  have HTH := Lib.hid (show ThRow base w gt b from h.th)
  have HP := Lib.hid p
  obtain ⟨n, hn⟩ : ∃ n, n = b.length := ⟨_, rfl⟩
  rw [← hn] at m2 p
  have t0 : (0 : Int) ≤ (t : Int) := by omega
  have t1 : (t : Int) < (n : Int) := by omega
  clear h ht hn
  go_enter Try.func21, Try.ntmps21
  go_wp2
  have hg := grownBy_trans (grownBy_trans (HTH.out.stored (t * 5 + 4) (.bool false)).2 (World.grownBy_alloc _ (.cells #[.int .u8 2, .int .u64 0, .int .u64 0, .int .u64 0, .int .u64 0, .int .u64 0, .int .u64 0] 34) _)) (World.grownBy_alloc _ (.cells #[.int .i64 0, .bool false, .int .u64 0, .int .u64 0, .int .i64 0] 31) _)
  refine bodyPost_ret (v := res5 0 false 0 0 0) ?_ rfl ⟨rfl, hg, own_nw (th_set HTH.out HP.out false) (Nw.alloc (Nw.alloc (Nw.refl _) _) _)⟩
  simp [results, Try.results21, go_sem, *]
theorem grown_weak {w w' : World} (h : w.grownBy w' none) (r : Option Nat) : w.grownBy w' r := ⟨h.os, h.tape, h.output, h.size, fun k hk _ => h.block k hk (by simp)⟩
theorem Mdl.nw {base : Nat} {W W' : World} {gm gt gp : Nat} {slots : Int} {b : List Bool} {L : Value} (h : Mdl base W gm gt gp slots b L) (hn : Nw W W') : Mdl base W' gm gt gp slots b L :=
  { h with im := Nat.lt_of_lt_of_le h.im hn.grown.size, it := Nat.lt_of_lt_of_le h.it hn.grown.size, ip := Nat.lt_of_lt_of_le h.ip hn.grown.size, m0 := cell_nw h.m0 hn, m1 := cell_nw h.m1 hn, m2 := cell_nw h.m2 hn, p0 := cell_nw h.p0 hn, pz := (frozen_nw h.ip hn).trans h.pz, th := own_nw h.th hn }
/-- What OpOpen returns of a thread that has no session, and the threads then. -/
def opE (slots : Int) (b : List Bool) : Int := if slots ≤ (cnt b : Nat) then 10 else 0
def opB (slots : Int) (b : List Bool) (t : Nat) : List Bool := if slots ≤ (cnt b : Nat) then b else b.set t true
set_option maxRecDepth 20000 in
set_option maxHeartbeats 4000000 in
theorem open_any (base : Nat) (w : World) (gm gt gp : Nat) (slots : Int) (b : List Bool) (L : Value) (h : Mdl base w gm gt gp slots b L) (hb : b.length ≤ 1000) (t : Nat) (sf : Bool) (ht : b[t]? = some sf) :
    Calls Try.prog 20 #[.pointer (some ⟨gm, 0, none⟩), .int .i64 t, op7 1 0 0 0 0 0 0] w fun e w' => e = .returned (res5 (opE slots b) false 0 0 0) ∧ w.grownBy w' (some gt) ∧ ThRow base w' gt (opB slots b t) := by
  obtain ⟨p, _⟩ := List.getElem?_eq_some_iff.1 ht
  obtain ⟨c0, c1, c2, c3, c4⟩ := h.cells ht
  have m2 := h.m2
  have m0 := h.m0
  have hz : w.frozen? ⟨gt, t * 5 + 4, none⟩ = false := h.th.frozenAt _
  haveI : In gm w := ⟨h.im⟩
  haveI : In gt w := ⟨h.it⟩
  have HTH := Lib.hid (show ThRow base w gt b from h.th)
  have HP := Lib.hid p
  have HS := Lib.hid (fun W (hw : Nw w W) => sessions_any base W gm gt gp slots b L (h.nw hw) hb)
  obtain ⟨c, hc⟩ : ∃ c : Int, c = ((cnt b : Nat) : Int) := ⟨_, rfl⟩
  rw [← hc] at HS
  have HC := Lib.hid hc
  obtain ⟨n, hn⟩ : ∃ n, n = b.length := ⟨_, rfl⟩
  rw [← hn] at m2 p
  have t0 : (0 : Int) ≤ (t : Int) := by omega
  have t1 : (t : Int) < (n : Int) := by omega
  clear h ht hn hb hc
  by_cases hs : slots ≤ c
  · have d1 : decide (slots ≤ c) = true := by simpa using hs
    have HE := Lib.hid (show opE slots b = 10 ∧ opB slots b t = b by rw [opE, opB, ← HC.out, if_pos hs, if_pos hs]; exact ⟨rfl, rfl⟩)
    go_enter Try.func20, Try.ntmps20
    go_upto_region 1 with (fail)
    (refine wp_region_nw (by kernel_rfl) (by kernel_rfl) ?_; (repeat (go_big_quiet_step ((go_at_call 41; exact quiet_of (HS.out _ ((by repeat (first | exact Xt.Nw.refl _ | refine Xt.Nw.drew ?_ | refine Xt.Nw.drewN ?_ _ | refine Xt.Nw.alloc ?_ _ | refine Xt.Nw.joined ?_ | refine Xt.Nw.drewd ?_ | refine Xt.Nw.drewdN ?_ | refine Xt.Nw.ext ?_ | refine Xt.Nw.ext_some ?_ (by assumption) | refine Xt.Nw.setCell ?_ (by simp [go_sem] <;> omega) _)))))))); refine wpQuiet_nil ?_; intro _ hreg; obtain ⟨dW, rfl⟩ : Nw _ _ := hreg)
    go_wp2
    refine bodyPost_ret (v := res5 10 false 0 0 0) ?_ rfl ⟨by rw [HE.out.1], grown_weak (Nw.grown (by repeat (first | exact Xt.Nw.refl _ | refine Xt.Nw.drew ?_ | refine Xt.Nw.drewN ?_ _ | refine Xt.Nw.alloc ?_ _ | refine Xt.Nw.joined ?_ | refine Xt.Nw.drewd ?_ | refine Xt.Nw.drewdN ?_ | refine Xt.Nw.ext ?_ | refine Xt.Nw.ext_some ?_ (by assumption) | refine Xt.Nw.setCell ?_ (by simp [go_sem] <;> omega) _))) _, by rw [HE.out.2]; exact own_nw HTH.out (by repeat (first | exact Xt.Nw.refl _ | refine Xt.Nw.drew ?_ | refine Xt.Nw.drewN ?_ _ | refine Xt.Nw.alloc ?_ _ | refine Xt.Nw.joined ?_ | refine Xt.Nw.drewd ?_ | refine Xt.Nw.drewdN ?_ | refine Xt.Nw.ext ?_ | refine Xt.Nw.ext_some ?_ (by assumption) | refine Xt.Nw.setCell ?_ (by simp [go_sem] <;> omega) _))⟩
    simp [results, Try.results20, go_sem, *]
  · have d1 : decide (slots ≤ c) = false := by simpa using hs
    have HE := Lib.hid (show opE slots b = 0 ∧ opB slots b t = b.set t true by rw [opE, opB, ← HC.out, if_neg hs, if_neg hs]; exact ⟨rfl, rfl⟩)
    go_enter Try.func20, Try.ntmps20
    go_upto_region 1 with (fail)
    (refine wp_region_nw (by kernel_rfl) (by kernel_rfl) ?_; (repeat (go_big_quiet_step ((go_at_call 41; exact quiet_of (HS.out _ ((by repeat (first | exact Xt.Nw.refl _ | refine Xt.Nw.drew ?_ | refine Xt.Nw.drewN ?_ _ | refine Xt.Nw.alloc ?_ _ | refine Xt.Nw.joined ?_ | refine Xt.Nw.drewd ?_ | refine Xt.Nw.drewdN ?_ | refine Xt.Nw.ext ?_ | refine Xt.Nw.ext_some ?_ (by assumption) | refine Xt.Nw.setCell ?_ (by simp [go_sem] <;> omega) _)))))))); refine wpQuiet_nil ?_; intro _ hreg; obtain ⟨dW, rfl⟩ : Nw _ _ := hreg)
    go_wp2
    have hst := HTH.out.stored (t * 5 + 4) (.bool true)
    refine bodyPost_ret (v := res5 0 false 0 0 0) ?_ rfl ⟨by rw [HE.out.1], grownBy_trans hst.2 (grown_weak (Nw.grown (by repeat (first | exact Xt.Nw.refl _ | refine Xt.Nw.drew ?_ | refine Xt.Nw.drewN ?_ _ | refine Xt.Nw.alloc ?_ _ | refine Xt.Nw.joined ?_ | refine Xt.Nw.drewd ?_ | refine Xt.Nw.drewdN ?_ | refine Xt.Nw.ext ?_ | refine Xt.Nw.ext_some ?_ (by assumption) | refine Xt.Nw.setCell ?_ (by simp [go_sem] <;> omega) _))) _), by rw [HE.out.2]; exact own_nw (th_set HTH.out HP.out true) (by repeat (first | exact Xt.Nw.refl _ | refine Xt.Nw.drew ?_ | refine Xt.Nw.drewN ?_ _ | refine Xt.Nw.alloc ?_ _ | refine Xt.Nw.joined ?_ | refine Xt.Nw.drewd ?_ | refine Xt.Nw.drewdN ?_ | refine Xt.Nw.ext ?_ | refine Xt.Nw.ext_some ?_ (by assumption) | refine Xt.Nw.setCell ?_ (by simp [go_sem] <;> omega) _))⟩
    simp [results, Try.results20, go_sem, *]
end Go.Proofs.Ytdjcndpnjoahmaa
