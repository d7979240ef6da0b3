import Derived.Test.YtdjcndpnjoahmaaMh
namespace Go.Proofs.Ytdjcndpnjoahmaa
open Go.RowKit Go.Xt
/-! Session. -/
set_option maxRecDepth 20000 in
@[go_sem high] theorem fld_sess (x y z : Bool) (l h : Int) (w : World) : Sem.run Try.prog (Instr.field 59 (.agg #[.bool x, .bool y, .int .u64 l, .int .u64 h, .bool z]) 1) w = .ok (.bool z) w := by rfl
set_option maxRecDepth 20000 in
set_option maxHeartbeats 4000000 in
theorem of_any (base : Nat) (w : World) (gm gt gp : Nat) (slots : Int) (b : List Bool) (L : Value) (h : Mdl base w gm gt gp slots b L) (t : Nat) (sf : Bool) (ht : b[t]? = some sf) :
    Calls Try.prog 15 #[.pointer (some ⟨gm, 0, none⟩), .int .i64 t] w fun e w' => e = .returned (.agg #[.bool false, .bool false, .int .u64 0, .int .u64 0, .bool sf]) ∧ Nw w w' := by
  obtain ⟨p, _⟩ := List.getElem?_eq_some_iff.1 ht
  obtain ⟨c0, c1, c2, c3, c4⟩ := h.cells ht
  have m2 := h.m2
  haveI : In gm w := ⟨h.im⟩
  haveI : In gt w := ⟨h.it⟩
  obtain ⟨n, hn⟩ : ∃ n, n = b.length := ⟨_, rfl⟩
  rw [← hn] at m2 p
  have t0 : (0 : Int) ≤ (t : Int) := by omega
  have t1 : (t : Int) < (n : Int) := by omega
  have d0 : decide ((t : Int) < 0) = false := by rw [decide_eq_false_iff_not]; omega
  have d1 : decide ((n : Int) ≤ (t : Int)) = false := by rw [decide_eq_false_iff_not]; omega
  clear h ht hn
  go_enter Try.func15, Try.ntmps15
  go_wp2
  refine bodyPost_ret (v := .agg #[.bool false, .bool false, .int .u64 0, .int .u64 0, .bool sf]) ?_ rfl ⟨rfl, (by repeat (first | exact Xt.Nw.refl _ | refine Xt.Nw.drew ?_ | refine Xt.Nw.drewN ?_ _ | refine Xt.Nw.alloc ?_ _ | refine Xt.Nw.joined ?_ | refine Xt.Nw.drewd ?_ | refine Xt.Nw.drewdN ?_ | refine Xt.Nw.ext ?_ | refine Xt.Nw.ext_some ?_ (by assumption) | refine Xt.Nw.setCell ?_ (by simp [go_sem] <;> omega) _))⟩
  simp [results, Try.results15, go_sem, *]
set_option maxRecDepth 20000 in
set_option maxHeartbeats 4000000 in
theorem session_any (base : Nat) (w : World) (gm gt gp : Nat) (slots : Int) (b : List Bool) (L : Value) (h : Mdl base w gm gt gp slots b L) (t : Nat) (sf : Bool) (ht : b[t]? = some sf) :
    Calls Try.prog 7 #[.pointer (some ⟨gm, 0, none⟩), .int .i64 t] w fun e w' => e = .returned (.bool sf) ∧ Nw w w' := by
  have H := Lib.hid (fun W (hw : Nw w W) => of_any base W gm gt gp slots b L (h.nw hw) t sf ht)
  clear h ht
  go_enter Try.func7, Try.ntmps7
  go_wp2_with fail
  refine (H.out w (Nw.refl _)).mono ?_
  rintro e w' ⟨rfl, dW, rfl⟩
  go_wp2
  go_ret
  exact ⟨rfl, (by repeat (first | exact Xt.Nw.refl _ | refine Xt.Nw.drew ?_ | refine Xt.Nw.drewN ?_ _ | refine Xt.Nw.alloc ?_ _ | refine Xt.Nw.joined ?_ | refine Xt.Nw.drewd ?_ | refine Xt.Nw.drewdN ?_ | refine Xt.Nw.ext ?_ | refine Xt.Nw.ext_some ?_ (by assumption) | refine Xt.Nw.setCell ?_ (by simp [go_sem] <;> omega) _))⟩
end Go.Proofs.Ytdjcndpnjoahmaa
