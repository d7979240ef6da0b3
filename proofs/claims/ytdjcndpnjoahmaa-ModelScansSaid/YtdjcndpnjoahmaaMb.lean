import Derived.Test.YtdjcndpnjoahmaaMa
namespace Go.Proofs.Ytdjcndpnjoahmaa
open Go.RowKit Go.Xt
/-! layout.Check of such a configuration. -/
set_option maxRecDepth 20000 in
@[go_sem high] theorem idx6_0 (w : World) : Sem.run Try.prog (Instr.index 48 (.agg #[.int .i64 0, .int .i64 0, .int .i64 0, .int .i64 0, .int .i64 0, .int .i64 0]) (.int .i64 0)) w = .ok (.int .i64 0) w := by rfl
set_option maxRecDepth 20000 in
@[go_sem high] theorem idx6_1 (w : World) : Sem.run Try.prog (Instr.index 48 (.agg #[.int .i64 0, .int .i64 0, .int .i64 0, .int .i64 0, .int .i64 0, .int .i64 0]) (.int .i64 1)) w = .ok (.int .i64 0) w := by rfl
set_option maxRecDepth 20000 in
@[go_sem high] theorem idx6_2 (w : World) : Sem.run Try.prog (Instr.index 48 (.agg #[.int .i64 0, .int .i64 0, .int .i64 0, .int .i64 0, .int .i64 0, .int .i64 0]) (.int .i64 2)) w = .ok (.int .i64 0) w := by rfl
set_option maxRecDepth 20000 in
@[go_sem high] theorem idx6_3 (w : World) : Sem.run Try.prog (Instr.index 48 (.agg #[.int .i64 0, .int .i64 0, .int .i64 0, .int .i64 0, .int .i64 0, .int .i64 0]) (.int .i64 3)) w = .ok (.int .i64 0) w := by rfl
set_option maxRecDepth 20000 in
@[go_sem high] theorem idx6_4 (w : World) : Sem.run Try.prog (Instr.index 48 (.agg #[.int .i64 0, .int .i64 0, .int .i64 0, .int .i64 0, .int .i64 0, .int .i64 0]) (.int .i64 4)) w = .ok (.int .i64 0) w := by rfl
set_option maxRecDepth 20000 in
@[go_sem high] theorem idx6_5 (w : World) : Sem.run Try.prog (Instr.index 48 (.agg #[.int .i64 0, .int .i64 0, .int .i64 0, .int .i64 0, .int .i64 0, .int .i64 0]) (.int .i64 5)) w = .ok (.int .i64 0) w := by rfl
set_option maxRecDepth 20000 in
set_option maxHeartbeats 8000000 in
theorem layout_any (t s : Int) (w : World) (ht : 1 ≤ t ∧ t ≤ 64) (hs : 1 ≤ s ∧ s ≤ 64) :
    Calls Try.prog 17 #[cfgV t s] w fun e w' => e = .returned (.int .i64 0) ∧ Nw w w' := by
  obtain ⟨W1, hW1⟩ : ∃ W1, W1 = w.alloc (.cells #[.int .i64 t, .int .i64 s, .int .u8 1, .int .i64 0, .int .u8 1, .int .i64 0, .slice none 0 0, .int .i64 0, .int .i64 0, .int .i64 0, .int .i64 0, .int .i64 0, .int .i64 0, .int .i64 1, .int .i64 1, .int .i64 0] 50) := ⟨_, rfl⟩
  have hN1 : Nw w W1 := by rw [hW1]; exact (by repeat (first | exact Xt.Nw.refl _ | refine Xt.Nw.drew ?_ | refine Xt.Nw.drewN ?_ _ | refine Xt.Nw.alloc ?_ _ | refine Xt.Nw.joined ?_ | refine Xt.Nw.drewd ?_ | refine Xt.Nw.drewdN ?_ | refine Xt.Nw.ext ?_ | refine Xt.Nw.ext_some ?_ (by assumption) | refine Xt.Nw.setCell ?_ (by simp [go_sem] <;> omega) _))
  have b0 : W1.cell? ⟨w.heap.size, 0, none⟩ = some (.int .i64 t) := by rw [hW1]; simp [go_sem]
  have b1 : W1.cell? ⟨w.heap.size, 1, none⟩ = some (.int .i64 s) := by rw [hW1]; simp [go_sem]
  have b2 : W1.cell? ⟨w.heap.size, 2, none⟩ = some (.int .u8 1) := by rw [hW1]; simp [go_sem]
  have b3 : W1.cell? ⟨w.heap.size, 3, none⟩ = some (.int .i64 0) := by rw [hW1]; simp [go_sem]
  have b4 : W1.cell? ⟨w.heap.size, 4, none⟩ = some (.int .u8 1) := by rw [hW1]; simp [go_sem]
  have b5 : W1.cell? ⟨w.heap.size, 5, none⟩ = some (.int .i64 0) := by rw [hW1]; simp [go_sem]
  have b6 : W1.cell? ⟨w.heap.size, 6, none⟩ = some (.slice none 0 0) := by rw [hW1]; simp [go_sem]
  have b7 : W1.cell? ⟨w.heap.size, 7, none⟩ = some (.int .i64 0) := by rw [hW1]; simp [go_sem]
  have b8 : W1.cell? ⟨w.heap.size, 8, none⟩ = some (.int .i64 0) := by rw [hW1]; simp [go_sem]
  have b9 : W1.cell? ⟨w.heap.size, 9, none⟩ = some (.int .i64 0) := by rw [hW1]; simp [go_sem]
  have b10 : W1.cell? ⟨w.heap.size, 10, none⟩ = some (.int .i64 0) := by rw [hW1]; simp [go_sem]
  have b11 : W1.cell? ⟨w.heap.size, 11, none⟩ = some (.int .i64 0) := by rw [hW1]; simp [go_sem]
  have b12 : W1.cell? ⟨w.heap.size, 12, none⟩ = some (.int .i64 0) := by rw [hW1]; simp [go_sem]
  have b13 : W1.cell? ⟨w.heap.size, 13, none⟩ = some (.int .i64 1) := by rw [hW1]; simp [go_sem]
  have b14 : W1.cell? ⟨w.heap.size, 14, none⟩ = some (.int .i64 1) := by rw [hW1]; simp [go_sem]
  have b15 : W1.cell? ⟨w.heap.size, 15, none⟩ = some (.int .i64 0) := by rw [hW1]; simp [go_sem]
  have HW1 := Lib.hid hW1
  have HN1 := Lib.hid hN1
  haveI : In w.heap.size W1 := ⟨World.block_lt_of_cell? W1 _ b0⟩
  obtain ⟨t1, t2⟩ := ht
  obtain ⟨s1, s2⟩ := hs
  clear hW1 hN1
  go_enter Try.func17, Try.ntmps17
  go_upto_region 1 with (fail)
  rw [← HW1.out]
  go_wp2
  go_loopw [4, 18] (fun a b wr => ∃ i : Nat, i ≤ 6 ∧ a = .int .i64 1024 ∧ b = .int .i64 i ∧ Nw W1 wr) (fun _ b _ => 6 - (intOf b).toNat)
  case atStart => exact ⟨0, by omega, rfl, rfl, Nw.refl _⟩
  case round =>
    obtain ⟨i, hi, rfl, rfl, d, rfl⟩ := hrel
    rcases (by omega : i = 0 ∨ i = 1 ∨ i = 2 ∨ i = 3 ∨ i = 4 ∨ i = 5 ∨ i = 6) with hz | rfl | rfl | rfl | rfl | rfl | rfl
    · have hiI : (i : Int) = 0 := by omega
      have hz2 := Lib.hid hz
      clear hz
      go_wp2
      exact ⟨⟨1, by omega, rfl, rfl, ⟨_, rfl⟩⟩, by simp [intOf, hz2.out]⟩
    · go_wp2
      exact ⟨⟨2, by omega, rfl, rfl, ⟨_, rfl⟩⟩, by simp [intOf]⟩
    · go_wp2
      exact ⟨⟨3, by omega, rfl, rfl, ⟨_, rfl⟩⟩, by simp [intOf]⟩
    · go_wp2
      exact ⟨⟨4, by omega, rfl, rfl, ⟨_, rfl⟩⟩, by simp [intOf]⟩
    · go_wp2
      exact ⟨⟨5, by omega, rfl, rfl, ⟨_, rfl⟩⟩, by simp [intOf]⟩
    · go_wp2
      exact ⟨⟨6, by omega, rfl, rfl, ⟨_, rfl⟩⟩, by simp [intOf]⟩
    · go_wp2_with (first
        | (go_at_call 36; refine (within_tt _ _ _ _ (by omega) (by omega)).mono ?_; rintro e w' ⟨rfl, dW, rfl⟩)
        | (go_at_call 37; refine (domain_any _).mono ?_; rintro e w' ⟨rfl, dW, rfl⟩))
      go_ret
      exact ⟨rfl, HN1.out.trans ((by repeat (first | exact Xt.Nw.refl _ | refine Xt.Nw.drew ?_ | refine Xt.Nw.drewN ?_ _ | refine Xt.Nw.alloc ?_ _ | refine Xt.Nw.joined ?_ | refine Xt.Nw.drewd ?_ | refine Xt.Nw.drewdN ?_ | refine Xt.Nw.ext ?_ | refine Xt.Nw.ext_some ?_ (by assumption) | refine Xt.Nw.setCell ?_ (by simp [go_sem] <;> omega) _)))⟩
end Go.Proofs.Ytdjcndpnjoahmaa
