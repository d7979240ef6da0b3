import Derived.Test.YtkikdpdainmlcaaGreatGKa
import Derived.Test.YtkikdpdainmlcaaGreatGOp
import Derived.Test.YtkikdpdainmlcaaGreatGWf
set_option linter.unusedVariables false
set_option linter.unusedSimpArgs false
set_option linter.unnecessarySimpa false
namespace Go.Proofs.YtkikdpdainmlcaaGreat
open Go.RowKit Go.Xt
/-! All numbers of a call. -/
structure WfX (c : Cl) : Prop where
  wf : WfC c
  op : Ox.Wf (opC c)
  rk : 0 ≤ c.rk ∧ c.rk < 18446744073709551616
theorem calls_of2 {W : World} {A : Option Addr} {len : Nat} {L : List (List Value)} (hn : L.length = len) (hall : ∀ cs ∈ L, All2 KC cs)
    (hrd : 0 < len → ∃ b o, A = some ⟨b, o, none⟩ ∧ b < W.heap.size ∧ ∀ i cs, L[i]? = some cs → ∀ j u, cs[j]? = some u → W.cell? ⟨b, o + (i * KC.length + j), none⟩ = some u) : ∃ l, Cs W A len l ∧ ∀ y ∈ l, WfX y := by
  have one : ∀ cs ∈ L, ∃ x : Cl, cs = cl x ∧ WfX x := by
    intro cs hcs
    obtain ⟨_, _, rfl, ⟨th, rfl, w1⟩, h1⟩ := All2.cons (hall cs hcs)
    obtain ⟨_, _, rfl, ⟨ix, rfl, w2⟩, h2⟩ := All2.cons h1
    obtain ⟨_, _, rfl, ⟨kd, rfl, w3⟩, h3⟩ := All2.cons h2
    obtain ⟨_, _, rfl, ⟨ka, rfl, w4⟩, h4⟩ := All2.cons h3
    obtain ⟨_, _, rfl, ⟨kb, rfl, w5⟩, h5⟩ := All2.cons h4
    obtain ⟨_, _, rfl, ⟨kc, rfl, w6⟩, h6⟩ := All2.cons h5
    obtain ⟨_, _, rfl, ⟨kx, rfl, w7⟩, h7⟩ := All2.cons h6
    obtain ⟨_, _, rfl, ⟨ky, rfl, w8⟩, h8⟩ := All2.cons h7
    obtain ⟨_, _, rfl, ⟨kz, rfl, w9⟩, h9⟩ := All2.cons h8
    obtain ⟨_, _, rfl, ⟨inv, rfl, w10⟩, h10⟩ := All2.cons h9
    obtain ⟨_, _, rfl, ⟨took, rfl, w11⟩, h11⟩ := All2.cons h10
    obtain ⟨_, _, rfl, ⟨ans, rfl, w12⟩, h12⟩ := All2.cons h11
    obtain ⟨_, _, rfl, ⟨st, rfl, w13⟩, h13⟩ := All2.cons h12
    obtain ⟨_, _, rfl, ⟨re, rfl, w14⟩, h14⟩ := All2.cons h13
    obtain ⟨_, _, rfl, ⟨rf, rfl⟩, h15⟩ := All2.cons h14
    obtain ⟨_, _, rfl, ⟨rk, rfl, w16⟩, h16⟩ := All2.cons h15
    obtain ⟨_, _, rfl, ⟨rv, rfl, w17⟩, h17⟩ := All2.cons h16
    obtain ⟨_, _, rfl, ⟨rc, rfl, w18⟩, h18⟩ := All2.cons h17
    obtain rfl := All2.nil h18
    exact ⟨⟨th, ix, kd, ka, kb, kc, kx, ky, kz, inv, took, ans, st, re, rf, rk, rv, rc⟩, rfl, ⟨⟨WfI64 w1, WfI64 w2, WfI64 w10, WfI64 w11, WfI64 w12, WfI64 w13⟩, ⟨WfU8 w3, WfU64 w4, WfU64 w5, WfU64 w6, WfU64 w7, WfU64 w8, WfU64 w9⟩, WfU64 w16⟩⟩
  have pick : ∀ cs : List Value, ∃ x : Cl, cs ∈ L → cs = cl x ∧ WfX x := fun cs => by
    by_cases h : cs ∈ L
    · obtain ⟨x, hx⟩ := one cs h; exact ⟨x, fun _ => hx⟩
    · exact ⟨zc, fun h' => absurd h' h⟩
  refine ⟨L.map fun cs => Classical.choose (pick cs), ⟨by simpa using hn, fun hp => ?_⟩, fun s hs => ?_⟩
  · obtain ⟨b, o, rfl, hb, hc⟩ := hrd hp
    refine ⟨b, o, rfl, hb, fun i x hx => ?_⟩
    rw [List.getElem?_map] at hx
    obtain ⟨cs, hcs, rfl⟩ := Option.map_eq_some_iff.1 hx
    have h1 := (Classical.choose_spec (pick cs) (List.mem_of_getElem? hcs)).1
    refine AtC.of_range fun j u hu => ?_
    rw [← h1] at hu
    have := hc i cs hcs j u hu
    rw [show o + i * 18 + j = o + (i * KC.length + j) by show _ = o + (i * 18 + j); omega]
    exact this
  · obtain ⟨cs, hcs, rfl⟩ := List.mem_map.1 hs
    exact (Classical.choose_spec (pick cs) hcs).2
end Go.Proofs.YtkikdpdainmlcaaGreat
namespace Go.Proofs.YtkikdpdainmlcaaGreat
open Go.RowKit Go.Xt
/-! read, writes, fits. -/
set_option maxHeartbeats 1000000 in
theorem read_any (c : Cl) (w : World) :
    Calls Tryz.prog 45 #[cv c] w fun e w' => e = .returned (.bool (readB c)) ∧ Nw w w' := by
  go_enter Tryz.func45, Tryz.ntmps45
  go_wp2
  all_goals (go_ret; refine ⟨ret_bool ?_, nwa⟩)
  all_goals (simp_all [readB])
  all_goals first | rfl | (intro h; omega) | omega
set_option maxHeartbeats 1000000 in
theorem writes_any (k : Int) (w : World) :
    Calls Tryz.prog 85 #[.int .u8 k] w fun e w' => e = .returned (.bool (writesB k)) ∧ Nw w w' := by
  go_enter Tryz.func85, Tryz.ntmps85
  go_wp2
  all_goals (go_ret; refine ⟨ret_bool ?_, nwa⟩)
  all_goals (simp_all [writesB])
  all_goals omega
set_option maxRecDepth 20000 in
@[go_sem high] theorem fld_err (e : Int) (f : Bool) (k v c : Int) (w : World) : Sem.run Tryz.prog (Instr.field 43 (.agg #[.int .i64 e, .bool f, .int .u64 k, .int .u64 v, .int .i64 c]) 0) w = .ok (.int .i64 e) w := by rfl
theorem some_if {P : Prop} [Decidable P] {a : Md} : (if P then some a else none).isSome = decide P := by split <;> simp_all
theorem some_ifb {b : Bool} {a : Md} : (if b = true then some a else none).isSome = b := by cases b <;> rfl
theorem some_eq {P : Prop} [Decidable P] {a s2 : Md} (h : (if P then some a else none) = some s2) : s2 = a := by
  split at h
  · injection h with h; exact h.symm
  · cases h
structure MW (W : World) (p : Pl) (s : Md) (N : Nat) : Prop where
  at_ : MAt W p s
  ok : s.Ok N
  pos : 0 < s.th.length
theorem MW.nw {W W' : World} {p : Pl} {s : Md} {N : Nat} (h : MW W p s N) (hn : Nw W W') : MW W' p s N := ⟨h.at_.nw hn, h.ok, h.pos⟩
def FitP (W : World) (p : Pl) (s : Md) (x : Cl) (N : Nat) (e : Ending) (W' : World) : Prop :=
  e = .returned (.bool (fitsM s x).isSome) ∧ ∃ (s' : Md) (p' : Pl), MUp W p s' p' W' ∧ MW W' p' s' (N + 1) ∧ ∀ s2, fitsM s x = some s2 → s2 = s'
theorem fit_same {W W' : World} {p : Pl} {s : Md} {x : Cl} {N : Nat} (h : MW W p s N) (hn : Nw W W') (hf : fitsM s x = none) : FitP W p s x N (.returned (.bool false)) W' :=
  ⟨by rw [hf]; rfl, s, p, MUp.same h.at_ hn, ⟨h.at_.nw hn, h.ok.mono (by omega), h.pos⟩, fun s2 e => by rw [hf] at e; cases e⟩
theorem fit_up {W W1 W' : World} {p p' : Pl} {s s' : Md} {x : Cl} {N : Nat} {b : Bool} (h : MW W p s N) (hn : Nw W W1) (hu : MUp W1 p s' p' W') (hok : s'.Ok (N + 1)) (hpos : 0 < s'.th.length) (hb : (fitsM s x).isSome = b) (hf : ∀ s2, fitsM s x = some s2 → s2 = s') : FitP W p s x N (.returned (.bool b)) W' :=
  ⟨by rw [hb], s', p', hu.after hn, ⟨hu.at', hok, hpos⟩, hf⟩
set_option maxRecDepth 20000 in
set_option maxHeartbeats 8000000 in
theorem fits_1 (W : World) (p : Pl) (s : Md) (N : Nat) (h : MW W p s N) (hN : N ≤ 400000) (x : Cl) (hw : WfX x) (ha : x.ans < 0) (hb : writesB x.kd = false) :
    Calls Tryz.prog 74 #[.pointer (some ⟨p.gm, 0, none⟩), cv x] W (FitP W p s x N) := by
  have HM := Lib.hid h
  have HWX := Lib.hid hw
  have HNN := Lib.hid hN
  have HD := Lib.hid (fun W' (hq : Nw W W') => do_any W' p s (h.at_.nw hq) h.ok (by omega) x.th (opC x) hw.op)
  have HA := Lib.hid (fun W' (hq : Nw W W') => accept_any W' p s (h.at_.nw hq) h.ok (by omega) x.th (opC x) hw.op (rsC x) hw.rk)
  have HRD := Lib.hid (fun W' => read_any x W')
  have HWR := Lib.hid (fun W' => writes_any x.kd W')
  unfold opV resV res5 at HD
  unfold opV resV at HA
  simp only [opC] at HD
  simp only [opC, rsC] at HA
  obtain ⟨gm, hgm⟩ : ∃ g, g = p.gm := ⟨_, rfl⟩
  rw [← hgm] at HD HA ⊢
  haveI : In gm W := ⟨hgm ▸ h.at_.im⟩
  have HF := Lib.hid (show fitsM s x = none by unfold fitsM lateB; rw [if_pos (by simp [ha, hb])])
  have HWB := Lib.hid hb
  have d1 : decide (x.ans < 0) = true := by simpa using ha
  clear hb ha
  clear hgm h hw hN
  go_enter Tryz.func74, Tryz.ntmps74
  go_wp2_with fail
  refine (HWR.out _).mono ?_
  rintro e w' ⟨rfl, dW, rfl⟩
  rw [HWB.out]
  go_wp2
  go_ret
  exact fit_same HM.out nwa HF.out
set_option maxRecDepth 20000 in
set_option maxHeartbeats 8000000 in
theorem fits_3 (W : World) (p : Pl) (s : Md) (N : Nat) (h : MW W p s N) (hN : N ≤ 400000) (x : Cl) (hw : WfX x) (ha : ¬ x.ans < 0) (ht : x.took < x.ans) (hb : writesB x.kd = false) :
    Calls Tryz.prog 74 #[.pointer (some ⟨p.gm, 0, none⟩), cv x] W (FitP W p s x N) := by
  have HM := Lib.hid h
  have HWX := Lib.hid hw
  have HNN := Lib.hid hN
  have HD := Lib.hid (fun W' (hq : Nw W W') => do_any W' p s (h.at_.nw hq) h.ok (by omega) x.th (opC x) hw.op)
  have HA := Lib.hid (fun W' (hq : Nw W W') => accept_any W' p s (h.at_.nw hq) h.ok (by omega) x.th (opC x) hw.op (rsC x) hw.rk)
  have HRD := Lib.hid (fun W' => read_any x W')
  have HWR := Lib.hid (fun W' => writes_any x.kd W')
  unfold opV resV res5 at HD
  unfold opV resV at HA
  simp only [opC] at HD
  simp only [opC, rsC] at HA
  obtain ⟨gm, hgm⟩ : ∃ g, g = p.gm := ⟨_, rfl⟩
  rw [← hgm] at HD HA ⊢
  haveI : In gm W := ⟨hgm ▸ h.at_.im⟩
  have HF := Lib.hid (show fitsM s x = none by unfold fitsM lateB; rw [if_pos (by simp [ht, hb])])
  have HWB := Lib.hid hb
  have d1 : decide (x.ans < 0) = false := by simpa using ha
  have d2 : decide (x.took < x.ans) = true := by simpa using ht
  clear hb ha ht
  clear hgm h hw hN
  go_enter Tryz.func74, Tryz.ntmps74
  go_wp2_with fail
  refine (HWR.out _).mono ?_
  rintro e w' ⟨rfl, dW, rfl⟩
  rw [HWB.out]
  go_wp2
  go_ret
  exact fit_same HM.out nwa HF.out
set_option maxRecDepth 20000 in
set_option maxHeartbeats 8000000 in
theorem fits_4 (W : World) (p : Pl) (s : Md) (N : Nat) (h : MW W p s N) (hN : N ≤ 400000) (x : Cl) (hw : WfX x) (ha : ¬ x.ans < 0) (ht : x.took < x.ans) (hb : writesB x.kd = true) (hr : x.re ≠ 0) :
    Calls Tryz.prog 74 #[.pointer (some ⟨p.gm, 0, none⟩), cv x] W (FitP W p s x N) := by
  have HM := Lib.hid h
  have HWX := Lib.hid hw
  have HNN := Lib.hid hN
  have HD := Lib.hid (fun W' (hq : Nw W W') => do_any W' p s (h.at_.nw hq) h.ok (by omega) x.th (opC x) hw.op)
  have HA := Lib.hid (fun W' (hq : Nw W W') => accept_any W' p s (h.at_.nw hq) h.ok (by omega) x.th (opC x) hw.op (rsC x) hw.rk)
  have HRD := Lib.hid (fun W' => read_any x W')
  have HWR := Lib.hid (fun W' => writes_any x.kd W')
  unfold opV resV res5 at HD
  unfold opV resV at HA
  simp only [opC] at HD
  simp only [opC, rsC] at HA
  obtain ⟨gm, hgm⟩ : ∃ g, g = p.gm := ⟨_, rfl⟩
  rw [← hgm] at HD HA ⊢
  haveI : In gm W := ⟨hgm ▸ h.at_.im⟩
  have HF := Lib.hid (show fitsM s x = none by unfold fitsM lateB; rw [if_pos (by simp [ht, hr]; omega)])
  have HWB := Lib.hid hb
  have d1 : decide (x.ans < 0) = false := by simpa using ha
  have d2 : decide (x.took < x.ans) = true := by simpa using ht
  have d3 : decide (0 ≤ x.ans) = true := by simp; omega
  have d4 : (x.re != 0) = true := by simpa using hr
  clear hb ha ht hr
  clear hgm h hw hN
  go_enter Tryz.func74, Tryz.ntmps74
  go_wp2_with fail
  refine (HWR.out _).mono ?_
  rintro e w' ⟨rfl, dW, rfl⟩
  rw [HWB.out]
  go_wp2
  go_ret
  exact fit_same HM.out nwa HF.out
set_option maxRecDepth 20000 in
set_option maxHeartbeats 8000000 in
theorem fits_2 (W : World) (p : Pl) (s : Md) (N : Nat) (h : MW W p s N) (hN : N ≤ 400000) (x : Cl) (hw : WfX x) (ha : x.ans < 0) (hb : writesB x.kd = true) :
    Calls Tryz.prog 74 #[.pointer (some ⟨p.gm, 0, none⟩), cv x] W (FitP W p s x N) := by
  have HM := Lib.hid h
  have HWX := Lib.hid hw
  have HNN := Lib.hid hN
  have HD := Lib.hid (fun W' (hq : Nw W W') => do_any W' p s (h.at_.nw hq) h.ok (by omega) x.th (opC x) hw.op)
  have HA := Lib.hid (fun W' (hq : Nw W W') => accept_any W' p s (h.at_.nw hq) h.ok (by omega) x.th (opC x) hw.op (rsC x) hw.rk)
  have HRD := Lib.hid (fun W' => read_any x W')
  have HWR := Lib.hid (fun W' => writes_any x.kd W')
  unfold opV resV res5 at HD
  unfold opV resV at HA
  simp only [opC] at HD
  simp only [opC, rsC] at HA
  obtain ⟨gm, hgm⟩ : ∃ g, g = p.gm := ⟨_, rfl⟩
  rw [← hgm] at HD HA ⊢
  haveI : In gm W := ⟨hgm ▸ h.at_.im⟩
  have HF := Lib.hid (show fitsM s x = some (doM s x.th (opC x)).2 by
    have h0 : ¬ 0 ≤ x.ans := by omega
    unfold fitsM lateB readB
    rw [if_neg (by simp [hb]; omega), if_neg (by simp; omega)]
    unfold nextM; rw [if_pos ha])
  have HWB := Lib.hid hb
  have d1 : decide (x.ans < 0) = true := by simpa using ha
  have d3 : decide (0 ≤ x.ans) = false := by simp; omega
  clear hb ha
  clear hgm h hw hN
  go_enter Tryz.func74, Tryz.ntmps74
  go_wp2_with fail
  refine (HWR.out _).mono ?_
  rintro e w' ⟨rfl, dW, rfl⟩
  rw [HWB.out]
  go_wp2_with fail
  refine (HD.out _ (by exact nwa)).mono ?_
  rintro e W3 ⟨rfl, p3, hu⟩
  go_wp2
  go_ret
  refine fit_up HM.out (by exact nwa) hu (doM_ok HM.out.ok x.th HWX.out.op) ?_ (by rw [HF.out]; rfl) (fun s2 e => ?_)
  · have := (doM_len s x.th (opC x)).1; have := HM.out.pos; simp only [opC] at *; omega
  · rw [HF.out] at e; injection e with e; exact e.symm
set_option maxRecDepth 20000 in
set_option maxHeartbeats 8000000 in
theorem fits_5 (W : World) (p : Pl) (s : Md) (N : Nat) (h : MW W p s N) (hN : N ≤ 400000) (x : Cl) (hw : WfX x) (ha : ¬ x.ans < 0) (ht : x.took < x.ans) (hb : writesB x.kd = true) (hr : x.re = 0) :
    Calls Tryz.prog 74 #[.pointer (some ⟨p.gm, 0, none⟩), cv x] W (FitP W p s x N) := by
  have HM := Lib.hid h
  have HWX := Lib.hid hw
  have HNN := Lib.hid hN
  have HD := Lib.hid (fun W' (hq : Nw W W') => do_any W' p s (h.at_.nw hq) h.ok (by omega) x.th (opC x) hw.op)
  have HA := Lib.hid (fun W' (hq : Nw W W') => accept_any W' p s (h.at_.nw hq) h.ok (by omega) x.th (opC x) hw.op (rsC x) hw.rk)
  have HRD := Lib.hid (fun W' => read_any x W')
  have HWR := Lib.hid (fun W' => writes_any x.kd W')
  unfold opV resV res5 at HD
  unfold opV resV at HA
  simp only [opC] at HD
  simp only [opC, rsC] at HA
  obtain ⟨gm, hgm⟩ : ∃ g, g = p.gm := ⟨_, rfl⟩
  rw [← hgm] at HD HA ⊢
  haveI : In gm W := ⟨hgm ▸ h.at_.im⟩
  have hrb : readB x = false := by
    unfold readB; unfold writesB at hb
    simp at hb ⊢
    omega
  have HF := Lib.hid (show fitsM s x = if (acceptM s x.th (opC x) (rsC x)).1 = true then some (acceptM s x.th (opC x) (rsC x)).2 else none by
    unfold fitsM lateB
    rw [if_neg (by simp [hb, hr]), if_neg (by simp [hrb])]
    unfold nextM; rw [if_neg ha])
  have HWB := Lib.hid hb
  have HRB := Lib.hid hrb
  have d1 : decide (x.ans < 0) = false := by simpa using ha
  have d2 : decide (x.took < x.ans) = true := by simpa using ht
  have d3 : decide (0 ≤ x.ans) = true := by simp; omega
  have d4 : (x.re != 0) = false := by simpa using hr
  clear hb ha ht hr hrb
  clear hgm h hw hN
  go_enter Tryz.func74, Tryz.ntmps74
  go_wp2_with fail
  refine (HWR.out _).mono ?_
  rintro e w' ⟨rfl, dW, rfl⟩
  rw [HWB.out]
  go_wp2_with fail
  refine (HRD.out _).mono ?_
  rintro e w' ⟨rfl, dW2, rfl⟩
  rw [HRB.out]
  go_wp2_with fail
  refine (HA.out _ (by exact nwa)).mono ?_
  rintro e W3 ⟨rfl, p3, hu⟩
  go_wp2
  go_ret
  refine fit_up HM.out (by exact nwa) hu (acceptM_ok HM.out.ok x.th HWX.out.op HWX.out.rk.1) (by rw [wacceptM_len]; exact HM.out.pos) ?_ (fun s2 e => ?_)
  · rw [HF.out]; exact some_ifb
  · rw [HF.out] at e; exact some_eq e
set_option maxRecDepth 20000 in
set_option maxHeartbeats 8000000 in
theorem fits_6 (W : World) (p : Pl) (s : Md) (N : Nat) (h : MW W p s N) (hN : N ≤ 400000) (x : Cl) (hw : WfX x) (ha : ¬ x.ans < 0) (ht : ¬ x.took < x.ans) (hrb : readB x = false) :
    Calls Tryz.prog 74 #[.pointer (some ⟨p.gm, 0, none⟩), cv x] W (FitP W p s x N) := by
  have HM := Lib.hid h
  have HWX := Lib.hid hw
  have HNN := Lib.hid hN
  have HD := Lib.hid (fun W' (hq : Nw W W') => do_any W' p s (h.at_.nw hq) h.ok (by omega) x.th (opC x) hw.op)
  have HA := Lib.hid (fun W' (hq : Nw W W') => accept_any W' p s (h.at_.nw hq) h.ok (by omega) x.th (opC x) hw.op (rsC x) hw.rk)
  have HRD := Lib.hid (fun W' => read_any x W')
  have HWR := Lib.hid (fun W' => writes_any x.kd W')
  unfold opV resV res5 at HD
  unfold opV resV at HA
  simp only [opC] at HD
  simp only [opC, rsC] at HA
  obtain ⟨gm, hgm⟩ : ∃ g, g = p.gm := ⟨_, rfl⟩
  rw [← hgm] at HD HA ⊢
  haveI : In gm W := ⟨hgm ▸ h.at_.im⟩
  have HF := Lib.hid (show fitsM s x = if (acceptM s x.th (opC x) (rsC x)).1 = true then some (acceptM s x.th (opC x) (rsC x)).2 else none by
    unfold fitsM lateB
    rw [if_neg (by simp [ha, ht]), if_neg (by simp [hrb])]
    unfold nextM; rw [if_neg ha])
  have HRB := Lib.hid hrb
  have d1 : decide (x.ans < 0) = false := by simpa using ha
  have d2 : decide (x.took < x.ans) = false := by simpa using ht
  clear ha ht hrb
  clear hgm h hw hN
  go_enter Tryz.func74, Tryz.ntmps74
  go_wp2_with fail
  refine (HRD.out _).mono ?_
  rintro e w' ⟨rfl, dW2, rfl⟩
  rw [HRB.out]
  go_wp2_with fail
  refine (HA.out _ (by exact nwa)).mono ?_
  rintro e W3 ⟨rfl, p3, hu⟩
  go_wp2
  go_ret
  refine fit_up HM.out (by exact nwa) hu (acceptM_ok HM.out.ok x.th HWX.out.op HWX.out.rk.1) (by rw [wacceptM_len]; exact HM.out.pos) ?_ (fun s2 e => ?_)
  · rw [HF.out]; exact some_ifb
  · rw [HF.out] at e; exact some_eq e
set_option maxRecDepth 20000 in
set_option maxHeartbeats 8000000 in
theorem fits_7 (W : World) (p : Pl) (s : Md) (N : Nat) (h : MW W p s N) (hN : N ≤ 400000) (x : Cl) (hw : WfX x) (ha : ¬ x.ans < 0) (ht : ¬ x.took < x.ans) (hrb : readB x = true) :
    Calls Tryz.prog 74 #[.pointer (some ⟨p.gm, 0, none⟩), cv x] W (FitP W p s x N) := by
  have HM := Lib.hid h
  have HWX := Lib.hid hw
  have HNN := Lib.hid hN
  have HD := Lib.hid (fun W' (hq : Nw W W') => do_any W' p s (h.at_.nw hq) h.ok (by omega) x.th (opC x) hw.op)
  have HA := Lib.hid (fun W' (hq : Nw W W') => accept_any W' p s (h.at_.nw hq) h.ok (by omega) x.th (opC x) hw.op (rsC x) hw.rk)
  have HRD := Lib.hid (fun W' => read_any x W')
  have HWR := Lib.hid (fun W' => writes_any x.kd W')
  unfold opV resV res5 at HD
  unfold opV resV at HA
  simp only [opC] at HD
  simp only [opC, rsC] at HA
  obtain ⟨gm, hgm⟩ : ∃ g, g = p.gm := ⟨_, rfl⟩
  rw [← hgm] at HD HA ⊢
  haveI : In gm W := ⟨hgm ▸ h.at_.im⟩
  have HF := Lib.hid (show fitsM s x = if (doM s x.th (opC x)).1.err = 0 then some (doM s x.th (opC x)).2 else none by
    unfold fitsM lateB
    rw [if_neg (by simp [ha, ht]), if_pos hrb])
  have HRB := Lib.hid hrb
  have d1 : decide (x.ans < 0) = false := by simpa using ha
  have d2 : decide (x.took < x.ans) = false := by simpa using ht
  clear ha ht hrb
  clear hgm h hw hN
  go_enter Tryz.func74, Tryz.ntmps74
  go_wp2_with fail
  refine (HRD.out _).mono ?_
  rintro e w' ⟨rfl, dW2, rfl⟩
  rw [HRB.out]
  go_wp2_with fail
  refine (HD.out _ (by exact nwa)).mono ?_
  rintro e W3 ⟨rfl, p3, hu⟩
  go_wp2
  go_ret
  refine fit_up HM.out (by exact nwa) hu (doM_ok HM.out.ok x.th HWX.out.op) ?_ ?_ (fun s2 e => ?_)
  · have := (doM_len s x.th (opC x)).1; have := HM.out.pos; simp only [opC] at *; omega
  · rw [HF.out]; exact some_if
  · rw [HF.out] at e; exact some_eq e
theorem fits_any (W : World) (p : Pl) (s : Md) (N : Nat) (h : MW W p s N) (hN : N ≤ 400000) (x : Cl) (hw : WfX x) :
    Calls Tryz.prog 74 #[.pointer (some ⟨p.gm, 0, none⟩), cv x] W (FitP W p s x N) := by
  by_cases ha : x.ans < 0
  · cases hb : writesB x.kd with
    | false => exact fits_1 W p s N h hN x hw ha hb
    | true => exact fits_2 W p s N h hN x hw ha hb
  · by_cases ht : x.took < x.ans
    · cases hb : writesB x.kd with
      | false => exact fits_3 W p s N h hN x hw ha ht hb
      | true =>
        by_cases hr : x.re = 0
        · exact fits_5 W p s N h hN x hw ha ht hb hr
        · exact fits_4 W p s N h hN x hw ha ht hb hr
    · cases hrb : readB x with
      | false => exact fits_6 W p s N h hN x hw ha ht hrb
      | true => exact fits_7 W p s N h hN x hw ha ht hrb
end Go.Proofs.YtkikdpdainmlcaaGreat
