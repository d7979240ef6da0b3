import Derived.Test.YtnldlkkmjabenaaDoorN
import Derived.Test.YtnldlkkmjabenaaDoorQ
namespace Go.Proofs.YtnldlkkmjabenaaDoor
open Go.RowKit Go.Xt
def Bad (e c : Int) : Prop := e < 0 ∨ 23 < e ∨ c < 0
set_option maxRecDepth 20000 in
set_option maxHeartbeats 1000000 in
theorem result_bad (e : Int) (f : Bool) (k v c : Int) (w : World) (hb : Bad e c) :
    Calls Tryd.prog 11 #[vRes e f k v c] w fun en w' => en = .returned (.tuple #[.string ⟨#[]⟩, .int .i64 2]) ∧ Nw w w' := by
  rcases hb with h | h | h
  all_goals
    go_enter Tryd.func11, Tryd.ntmps11
    go_wp2_with fail
    all_goals first
      | (exfalso; simp_all <;> omega)
      | (refine bodyPost_ret (results_tmp2 rfl _ _ _) rfl ⟨rfl, (by repeat (first | exact Xt.Nw.refl _ | refine Xt.Nw.drew ?_ | refine Xt.Nw.drewN ?_ _ | refine Xt.Nw.alloc ?_ _ | refine Xt.Nw.joined ?_ | refine Xt.Nw.drewd ?_ | refine Xt.Nw.drewdN ?_ | refine Xt.Nw.ext ?_ | refine Xt.Nw.ext_some ?_ (by assumption) | refine Xt.Nw.setCell ?_ (by simp [go_sem] <;> omega) _))⟩)
abbrev vR (x : Rs) : Value := vRes x.e x.f x.k x.v x.c
theorem rs_eq (a b : Rs) : (a = b) ↔ (a.e = b.e ∧ a.f = b.f ∧ a.k = b.k ∧ a.v = b.v ∧ a.c = b.c) := by
  cases a; cases b; simp
@[go_sem high] theorem eqRs (a b : Rs) (w : World) : (Op.equalIn 10000 35 (vR a) (vR b)).run Tryd.prog w = .ok (decide (a = b)) w := by
  have hS : Tryd.prog.underlying 35 = some (.struct (Tryd.prog.fieldsOf 35)) := by kernel_rfl
  have hp : Tryd.prog.stoodInHeld 35 = false := by kernel_rfl
  rw [show (10000 : Nat) = 9999 + 1 from rfl, run_equalIn_agg w 9999 35 _ _ hS hp]
  simp only [Program.fieldsOf, Tryd.underlying35]
  go_simp
  have hd : decide (a = b) = decide (a.e = b.e ∧ a.f = b.f ∧ a.k = b.k ∧ a.v = b.v ∧ a.c = b.c) := by simp only [rs_eq]
  rw [hd]
  simp only [ite_ok0, ite_ok]
def resE (x : Rs) : Int := if x.e < 0 ∨ 23 < x.e ∨ x.c < 0 then 2 else 0
def resS (x : Rs) : ByteArray := if x.e < 0 ∨ 23 < x.e ∨ x.c < 0 then ⟨#[]⟩ else lineR x
structure BdR (x : Rs) : Prop where
  k : 0 ≤ x.k ∧ x.k < 18446744073709551616
  v : 0 ≤ x.v ∧ x.v < 18446744073709551616
  c : x.c ≤ 9223372036854775807
theorem res_c (x : Rs) (w : World) (H : FmtAt w) (hx : BdR x) : Calls Tryd.prog 11 #[vR x] w fun en w' => en = .returned (.tuple #[.string (resS x), .int .i64 (resE x)]) ∧ Nw w w' := by
  by_cases h : x.e < 0 ∨ 23 < x.e ∨ x.c < 0
  · rw [resS, resE, if_pos h, if_pos h]; exact result_bad _ _ _ _ _ w h
  · rw [resS, resE, if_neg h, if_neg h]
    exact result_any _ _ _ _ _ w H (by omega) hx.k hx.v ⟨by omega, hx.c⟩
theorem line_size (x : Rs) : (2 : Int) ≤ ((lineR x).size : Int) := by
  have h : (lineR x).size = (lineR x).data.toList.length := by rw [Array.length_toList]; rfl
  rw [h, lineR, res_L]
  by_cases he : x.e = 0 <;> simp [he] <;> omega
theorem line_ok (x : Rs) : ((((lineR x).extract 0 2).toList == [111, 107]) == (x.e == 0)) = true := by
  have h : ((lineR x).extract 0 2).toList = (lineR x).data.toList.take 2 := by
    rw [ByteArray.toList_eq, ByteArray.data_extract]; simp
  rw [h, lineR, res_L]
  by_cases he : x.e = 0
  · rw [if_pos he]; simp [he]
  · rw [if_neg he]
    have : (x.e == 0) = false := by simpa using he
    rw [this]; simp
set_option maxRecDepth 20000 in
set_option maxHeartbeats 4000000 in
theorem tells_any (x y : Rs) (w : World) (H : FmtAt w) (HP : PuAt w) (HS : SpAt w) (hx : BdR x) (hy : BdR y) :
    Calls Tryd.prog 5 #[vR x, vR y] w fun e w' => e = .returned (.bool true) ∧ Nw w w' := by
  obtain ⟨W1, hW1⟩ : ∃ W1, W1 = (w.alloc (.cells #[.int .i64 x.e, .bool x.f, .int .u64 x.k, .int .u64 x.v, .int .i64 x.c] 35)).alloc (.cells #[.int .i64 y.e, .bool y.f, .int .u64 y.k, .int .u64 y.v, .int .i64 y.c] 35) := ⟨_, rfl⟩
  have hN1 : Nw w W1 := by rw [hW1]; exact (by repeat (first | exact Xt.Nw.refl _ | refine Xt.Nw.drew ?_ | refine Xt.Nw.drewN ?_ _ | refine Xt.Nw.alloc ?_ _ | refine Xt.Nw.joined ?_ | refine Xt.Nw.drewd ?_ | refine Xt.Nw.drewdN ?_ | refine Xt.Nw.ext ?_ | refine Xt.Nw.ext_some ?_ (by assumption) | refine Xt.Nw.setCell ?_ (by simp [go_sem] <;> omega) _))
  have a0 : W1.cell? ⟨w.heap.size, 0, none⟩ = some (.int .i64 x.e) := by rw [hW1]; simp [go_sem]
  have a1 : W1.cell? ⟨w.heap.size, 1, none⟩ = some (.bool x.f) := by rw [hW1]; simp [go_sem]
  have a2 : W1.cell? ⟨w.heap.size, 2, none⟩ = some (.int .u64 x.k) := by rw [hW1]; simp [go_sem]
  have a3 : W1.cell? ⟨w.heap.size, 3, none⟩ = some (.int .u64 x.v) := by rw [hW1]; simp [go_sem]
  have a4 : W1.cell? ⟨w.heap.size, 4, none⟩ = some (.int .i64 x.c) := by rw [hW1]; simp [go_sem]
  have b0 : W1.cell? ⟨w.heap.size + 1, 0, none⟩ = some (.int .i64 y.e) := by rw [hW1]; simp [go_sem]
  have b1 : W1.cell? ⟨w.heap.size + 1, 1, none⟩ = some (.bool y.f) := by rw [hW1]; simp [go_sem]
  have b2 : W1.cell? ⟨w.heap.size + 1, 2, none⟩ = some (.int .u64 y.k) := by rw [hW1]; simp [go_sem]
  have b3 : W1.cell? ⟨w.heap.size + 1, 3, none⟩ = some (.int .u64 y.v) := by rw [hW1]; simp [go_sem]
  have b4 : W1.cell? ⟨w.heap.size + 1, 4, none⟩ = some (.int .i64 y.c) := by rw [hW1]; simp [go_sem]
  haveI : In w.heap.size W1 := ⟨World.block_lt_of_cell? W1 _ a0⟩
  haveI : In (w.heap.size + 1) W1 := ⟨World.block_lt_of_cell? W1 _ b0⟩
  have HW1 := Lib.hid hW1
  have HN1 := Lib.hid hN1
  have HF := Lib.hid (H.nw hN1)
  have HPU := Lib.hid (HP.nw hN1)
  have HSP := Lib.hid (HS.nw hN1)
  have ra := Lib.hid (fun W (h : FmtAt W) => res_c x W h hx)
  have rb := Lib.hid (fun W (h : FmtAt W) => res_c y W h hy)
  have HX := Lib.hid hx
  have HY := Lib.hid hy
  clear hW1 hN1 H HP HS hx hy
  by_cases hb : (x.e < 0 ∨ 23 < x.e ∨ x.c < 0) ∨ (y.e < 0 ∨ 23 < y.e ∨ y.c < 0)
  · obtain ⟨ea, hea⟩ : ∃ z, z = resE x := ⟨_, rfl⟩
    obtain ⟨eb, heb⟩ : ∃ z, z = resE y := ⟨_, rfl⟩
    rw [← hea] at ra
    rw [← heb] at rb
    have hor : (ea != 0) = true ∨ ((ea != 0) = false ∧ (eb != 0) = true) := by
      rw [hea, heb]
      unfold resE
      by_cases h1 : x.e < 0 ∨ 23 < x.e ∨ x.c < 0
      · left; rw [if_pos h1]; rfl
      · right; rw [if_neg h1, if_pos (hb.resolve_left h1)]; exact ⟨rfl, rfl⟩
    clear hb hea heb
    rcases hor with d1 | ⟨d1, d2⟩
    all_goals
      go_enter Tryd.func5, Tryd.ntmps5
      go_wp2_with fail
      rw [← HW1.out]
      refine (ra.out _ HF.out).mono ?_
      rintro e w' ⟨rfl, dW, rfl⟩
      go_wp2_with fail
      refine (rb.out _ (HF.out.nw ((by repeat (first | exact Xt.Nw.refl _ | refine Xt.Nw.drew ?_ | refine Xt.Nw.drewN ?_ _ | refine Xt.Nw.alloc ?_ _ | refine Xt.Nw.joined ?_ | refine Xt.Nw.drewd ?_ | refine Xt.Nw.drewdN ?_ | refine Xt.Nw.ext ?_ | refine Xt.Nw.ext_some ?_ (by assumption) | refine Xt.Nw.setCell ?_ (by simp [go_sem] <;> omega) _))))).mono ?_
      rintro e w' ⟨rfl, dX, rfl⟩
      go_wp2_with fail
      refine (known_any _ (HF.out.nw ((by repeat (first | exact Xt.Nw.refl _ | refine Xt.Nw.drew ?_ | refine Xt.Nw.drewN ?_ _ | refine Xt.Nw.alloc ?_ _ | refine Xt.Nw.joined ?_ | refine Xt.Nw.drewd ?_ | refine Xt.Nw.drewdN ?_ | refine Xt.Nw.ext ?_ | refine Xt.Nw.ext_some ?_ (by assumption) | refine Xt.Nw.setCell ?_ (by simp [go_sem] <;> omega) _)))) (HPU.out.nw ((by repeat (first | exact Xt.Nw.refl _ | refine Xt.Nw.drew ?_ | refine Xt.Nw.drewN ?_ _ | refine Xt.Nw.alloc ?_ _ | refine Xt.Nw.joined ?_ | refine Xt.Nw.drewd ?_ | refine Xt.Nw.drewdN ?_ | refine Xt.Nw.ext ?_ | refine Xt.Nw.ext_some ?_ (by assumption) | refine Xt.Nw.setCell ?_ (by simp [go_sem] <;> omega) _)))) (HSP.out.nw ((by repeat (first | exact Xt.Nw.refl _ | refine Xt.Nw.drew ?_ | refine Xt.Nw.drewN ?_ _ | refine Xt.Nw.alloc ?_ _ | refine Xt.Nw.joined ?_ | refine Xt.Nw.drewd ?_ | refine Xt.Nw.drewdN ?_ | refine Xt.Nw.ext ?_ | refine Xt.Nw.ext_some ?_ (by assumption) | refine Xt.Nw.setCell ?_ (by simp [go_sem] <;> omega) _))))).mono ?_
      rintro e w' ⟨rfl, dY, rfl⟩
      go_wp2
      go_ret
      exact ⟨rfl, HN1.out.trans ((by repeat (first | exact Xt.Nw.refl _ | refine Xt.Nw.drew ?_ | refine Xt.Nw.drewN ?_ _ | refine Xt.Nw.alloc ?_ _ | refine Xt.Nw.joined ?_ | refine Xt.Nw.drewd ?_ | refine Xt.Nw.drewdN ?_ | refine Xt.Nw.ext ?_ | refine Xt.Nw.ext_some ?_ (by assumption) | refine Xt.Nw.setCell ?_ (by simp [go_sem] <;> omega) _)))⟩
  · have hxa : ¬ (x.e < 0 ∨ 23 < x.e ∨ x.c < 0) := fun h => hb (.inl h)
    have hya : ¬ (y.e < 0 ∨ 23 < y.e ∨ y.c < 0) := fun h => hb (.inr h)
    rw [show resE x = 0 by rw [resE, if_neg hxa], show resS x = lineR x by rw [resS, if_neg hxa]] at ra
    rw [show resE y = 0 by rw [resE, if_neg hya], show resS y = lineR y by rw [resS, if_neg hya]] at rb
    have hwx : WfR x := ⟨by omega, HX.out.k, HX.out.v, by have := HX.out.c; omega⟩
    have hwy : WfR y := ⟨by omega, HY.out.k, HY.out.v, by have := HY.out.c; omega⟩
    have hiff : decide (lineR x = lineR y) = decide (x = y) := by
      by_cases h : x = y
      · subst h; simp
      · have : ¬ lineR x = lineR y := fun e => h (lineR_inj hwx hwy e)
        simp [h, this]
    have hsz := line_size x
    have hok := line_ok x
    obtain ⟨s, hs⟩ : ∃ s, s = lineR x := ⟨_, rfl⟩
    obtain ⟨t, ht⟩ : ∃ t, t = lineR y := ⟨_, rfl⟩
    rw [← hs, ← ht] at hiff
    rw [← hs] at hsz hok ra
    rw [← ht] at rb
    have hq : (s.toList == t.toList) = decide (x = y) := by rw [str_beq]; exact hiff
    have HSx := Lib.hid hs
    clear hb hxa hya hwx hwy hiff hs ht
    go_enter Tryd.func5, Tryd.ntmps5
    go_wp2_with fail
    rw [← HW1.out]
    refine (ra.out _ HF.out).mono ?_
    rintro e w' ⟨rfl, dW, rfl⟩
    go_wp2_with fail
    refine (rb.out _ (HF.out.nw ((by repeat (first | exact Xt.Nw.refl _ | refine Xt.Nw.drew ?_ | refine Xt.Nw.drewN ?_ _ | refine Xt.Nw.alloc ?_ _ | refine Xt.Nw.joined ?_ | refine Xt.Nw.drewd ?_ | refine Xt.Nw.drewdN ?_ | refine Xt.Nw.ext ?_ | refine Xt.Nw.ext_some ?_ (by assumption) | refine Xt.Nw.setCell ?_ (by simp [go_sem] <;> omega) _))))).mono ?_
    rintro e w' ⟨rfl, dX, rfl⟩
    go_upto_region 5 with (fail)
    (refine wp_region_nw (by kernel_rfl) (by kernel_rfl) ?_; (repeat (go_big_quiet_step ((go_at_call 6; exact quiet_of (known_any _ (HF.out.nw ((by repeat (first | exact Xt.Nw.refl _ | refine Xt.Nw.drew ?_ | refine Xt.Nw.drewN ?_ _ | refine Xt.Nw.alloc ?_ _ | refine Xt.Nw.joined ?_ | refine Xt.Nw.drewd ?_ | refine Xt.Nw.drewdN ?_ | refine Xt.Nw.ext ?_ | refine Xt.Nw.ext_some ?_ (by assumption) | refine Xt.Nw.setCell ?_ (by simp [go_sem] <;> omega) _)))) (HPU.out.nw ((by repeat (first | exact Xt.Nw.refl _ | refine Xt.Nw.drew ?_ | refine Xt.Nw.drewN ?_ _ | refine Xt.Nw.alloc ?_ _ | refine Xt.Nw.joined ?_ | refine Xt.Nw.drewd ?_ | refine Xt.Nw.drewdN ?_ | refine Xt.Nw.ext ?_ | refine Xt.Nw.ext_some ?_ (by assumption) | refine Xt.Nw.setCell ?_ (by simp [go_sem] <;> omega) _)))) (HSP.out.nw ((by repeat (first | exact Xt.Nw.refl _ | refine Xt.Nw.drew ?_ | refine Xt.Nw.drewN ?_ _ | refine Xt.Nw.alloc ?_ _ | refine Xt.Nw.joined ?_ | refine Xt.Nw.drewd ?_ | refine Xt.Nw.drewdN ?_ | refine Xt.Nw.ext ?_ | refine Xt.Nw.ext_some ?_ (by assumption) | refine Xt.Nw.setCell ?_ (by simp [go_sem] <;> omega) _))))))))); refine wpQuiet_nil ?_; intro _ hreg; obtain ⟨dW, rfl⟩ : Nw _ _ := hreg)
    go_wp2
    go_ret
    exact ⟨rfl, HN1.out.trans ((by repeat (first | exact Xt.Nw.refl _ | refine Xt.Nw.drew ?_ | refine Xt.Nw.drewN ?_ _ | refine Xt.Nw.alloc ?_ _ | refine Xt.Nw.joined ?_ | refine Xt.Nw.drewd ?_ | refine Xt.Nw.drewdN ?_ | refine Xt.Nw.ext ?_ | refine Xt.Nw.ext_some ?_ (by assumption) | refine Xt.Nw.setCell ?_ (by simp [go_sem] <;> omega) _)))⟩
end Go.Proofs.YtnldlkkmjabenaaDoor
