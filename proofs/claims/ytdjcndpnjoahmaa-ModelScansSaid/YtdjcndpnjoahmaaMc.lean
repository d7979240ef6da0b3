import Derived.Test.YtdjcndpnjoahmaaMb
namespace Go.Proofs.Ytdjcndpnjoahmaa
open Go.RowKit Go.Xt
/-! A model in memory; New. -/
set_option maxRecDepth 20000 in
set_option maxHeartbeats 4000000 in
theorem omapnew_any (w : World) :
    Calls Try.prog 18 #[.slice none 0 0] w fun e w' => e = .returned (.tuple #[.pointer (some ⟨w.heap.size, 0, none⟩), .int .i64 0]) ∧ w' = w.alloc (.cells #[.slice none 0 0] 74) := by
  go_enter Try.func18, Try.ntmps18
  go_wp2
  go_loopw [13] (fun a wr => a = .int .i64 0 ∧ wr = w.alloc (.cells #[.slice none 0 0] 74)) (fun _ _ => 0)
  case atStart => exact ⟨rfl, rfl⟩
  case round =>
    obtain ⟨rfl, rfl⟩ := hrel
    go_wp2
    exact bodyPost_ret (results_tmp2 rfl _ _ _) rfl ⟨rfl, rfl⟩
theorem cell_nw {w w' : World} {b i : Nat} {v : Value} (h : w.cell? ⟨b, i, none⟩ = some v) (hn : Nw w w') : w'.cell? ⟨b, i, none⟩ = some v :=
  (World.cell?_of_block (hn.grown.block b (World.block_lt_of_cell? w _ h) (by simp))).trans h
theorem frozen_nw {W W' : World} {b o : Nat} (hb : b < W.heap.size) (hn : Nw W W') : W'.frozen? ⟨b, o, none⟩ = W.frozen? ⟨b, o, none⟩ :=
  World.frozen?_of_block (hn.grown.block b hb (by simp))
theorem thInfo : (Try.prog.info? 59).map (fun i => (i.zero, i.size, i.bytes)) = some (some (.agg #[.bool false, .bool false, .int .u64 0, .int .u64 0, .bool false]), 5, 32) := by kernel_rfl
/-- The threads' cells: no iterator, a session or none. -/
def thr (b : List Bool) : List Value := b.flatMap fun s => [.bool false, .bool false, .int .u64 0, .int .u64 0, .bool s]
theorem thr_made {n : Nat} (h : 1 ≤ n ∧ n ≤ 8) : (madeCells (Value.agg #[.bool false, .bool false, .int .u64 0, .int .u64 0, .bool false]).cells (n * 5)).toList = thr (List.replicate n false) := by
  rcases (by omega : n = 1 ∨ n = 2 ∨ n = 3 ∨ n = 4 ∨ n = 5 ∨ n = 6 ∨ n = 7 ∨ n = 8) with rfl | rfl | rfl | rfl | rfl | rfl | rfl | rfl <;> kernel_rfl
/-- A model: its slots, its map (whose slice is L), its threads (none iterates). -/
structure Mdl (base : Nat) (W : World) (gm gt gp : Nat) (slots : Int) (b : List Bool) (L : Value) : Prop where
  bm : base ≤ gm
  bt : base ≤ gt
  bp : base ≤ gp
  im : gm < W.heap.size
  it : gt < W.heap.size
  ip : gp < W.heap.size
  m0 : W.cell? ⟨gm, 0, none⟩ = some (.int .i64 slots)
  m1 : W.cell? ⟨gm, 1, none⟩ = some (.pointer (some ⟨gp, 0, none⟩))
  m2 : W.cell? ⟨gm, 2, none⟩ = some (.slice (some ⟨gt, 0, none⟩) b.length b.length)
  p0 : W.cell? ⟨gp, 0, none⟩ = some L
  pz : W.frozen? ⟨gp, 0, none⟩ = false
  th : W.ownsRow base 59 5 (.slice (some ⟨gt, 0, none⟩) b.length b.length) b.length (thr b)
  nmt : gm ≠ gt
  nmp : gm ≠ gp
  ntp : gt ≠ gp
set_option maxRecDepth 20000 in
set_option maxHeartbeats 8000000 in
theorem new_any (n : Nat) (s : Int) (w : World) (hn : 1 ≤ n ∧ n ≤ 8) (hs : 1 ≤ s ∧ s ≤ 64) :
    Calls Try.prog 10 #[cfgV n s] w fun e w' => (∃ gm gt gp, e = .returned (.tuple #[.pointer (some ⟨gm, 0, none⟩), .int .i64 0]) ∧ Mdl w.heap.size w' gm gt gp s (List.replicate n false) (.slice none 0 0)) ∧ Nw w w' := by
  have hl := Lib.hid (fun W => layout_any n s W (by omega) hs)
  have HNn := Lib.hid hn
  obtain ⟨s1, s2⟩ := hs
  go_enter Try.func10, Try.ntmps10
  go_wp2_with fail
  refine (hl.out _).mono ?_
  rintro e w' ⟨rfl, dW, rfl⟩
  go_wp2_with fail
  refine (omapnew_any _).mono ?_
  rintro e w' ⟨rfl, rfl⟩
  go_upto_region 7 with (fail)
  obtain ⟨gp, hgp⟩ : ∃ g, g = ((w.alloc (.cells #[.int .i64 n, .int .i64 s, .int .u8 1, .int .i64 0, .int .u8 1, .int .i64 0, .slice none 0 0, .int .i64 0, .int .i64 0, .int .i64 0, .int .i64 0, .int .i64 0, .int .i64 0, .int .i64 1, .int .i64 1, .int .i64 0] 50)).ext none dW).heap.size := ⟨_, rfl⟩
  obtain ⟨W2, hW2⟩ : ∃ W2, W2 = ((w.alloc (.cells #[.int .i64 n, .int .i64 s, .int .u8 1, .int .i64 0, .int .u8 1, .int .i64 0, .slice none 0 0, .int .i64 0, .int .i64 0, .int .i64 0, .int .i64 0, .int .i64 0, .int .i64 0, .int .i64 1, .int .i64 1, .int .i64 0] 50)).ext none dW).alloc (.cells #[.slice none 0 0] 74) := ⟨_, rfl⟩
  rw [← hgp, ← hW2]
  have hn2 : Nw w W2 := by rw [hW2]; exact (by repeat (first | exact Xt.Nw.refl _ | refine Xt.Nw.drew ?_ | refine Xt.Nw.drewN ?_ _ | refine Xt.Nw.alloc ?_ _ | refine Xt.Nw.joined ?_ | refine Xt.Nw.drewd ?_ | refine Xt.Nw.drewdN ?_ | refine Xt.Nw.ext ?_ | refine Xt.Nw.ext_some ?_ (by assumption) | refine Xt.Nw.setCell ?_ (by simp [go_sem] <;> omega) _))
  have c0 : W2.cell? ⟨w.heap.size, 0, none⟩ = some (.int .i64 n) := by rw [hW2]; simp [go_sem]
  have c1 : W2.cell? ⟨w.heap.size, 1, none⟩ = some (.int .i64 s) := by rw [hW2]; simp [go_sem]
  have cp : W2.cell? ⟨gp, 0, none⟩ = some (.slice none 0 0) := by rw [hW2, hgp]; simp [go_sem]
  have cz : W2.frozen? ⟨gp, 0, none⟩ = false := by rw [hW2, hgp]; simp [go_sem]
  have hb1 : w.heap.size < gp := by
    have h := le_size (w.alloc (.cells #[.int .i64 n, .int .i64 s, .int .u8 1, .int .i64 0, .int .u8 1, .int .i64 0, .slice none 0 0, .int .i64 0, .int .i64 0, .int .i64 0, .int .i64 0, .int .i64 0, .int .i64 0, .int .i64 1, .int .i64 1, .int .i64 0] 50)) none dW
    rw [← hgp] at h
    simp at h; omega
  have hb2 : W2.heap.size = gp + 1 := by rw [hW2, hgp]; simp
  have HN2 := Lib.hid hn2
  have HCP := Lib.hid cp
  have HCZ := Lib.hid cz
  have HB1 := Lib.hid hb1
  have HB2 := Lib.hid hb2
  obtain ⟨i, hi1, hz0, hz1, hz2⟩ := info_parts thInfo
  obtain ⟨W3, hmk, hown, hgr⟩ := run_make_full W2.drew W2.heap.size 62 59 i (.agg #[.bool false, .bool false, .int .u64 0, .int .u64 0, .bool false]) 5 Try.underlying62 hi1 hz0 hz1 .i64 .i64 n (by rw [hz2]; omega) (by unfold maxLen; omega) (Nat.le_refl _)
  rw [thr_made hn] at hown
  have hd0 : W2.drew.heap.size = W2.heap.size := rfl
  rw [hd0] at hmk hown
  have hn3 : Nw W2 W3 := Nw.trans (Nw.drew (Nw.refl _)) (.of hgr)
  have e0 : W3.cell? ⟨w.heap.size, 0, none⟩ = some (.int .i64 n) := (World.cell?_of_block (hn3.grown.block _ (World.block_lt_of_cell? _ _ c0) (by simp))).trans c0
  have e1 : W3.cell? ⟨w.heap.size, 1, none⟩ = some (.int .i64 s) := (World.cell?_of_block (hn3.grown.block _ (World.block_lt_of_cell? _ _ c1) (by simp))).trans c1
  obtain ⟨gt, hgt⟩ : ∃ g, g = W2.heap.size := ⟨_, rfl⟩
  rw [← hgt] at hmk hown
  have HOW := Lib.hid hown
  have HN3 := Lib.hid hn3
  have HGT := Lib.hid hgt
  clear hW2 hgp hn2 cp cz hb1 hb2 hi1 hz0 hz1 hz2 hgr hown hn3 hgt hd0 hn
  go_region
  go_wp2
  have hs2 := HN2.out.grown.size
  have hs3 := HN3.out.grown.size
  have hgt2 : gt < W3.heap.size := by
    rcases own_forms HOW.out with ⟨_, h0⟩ | ⟨g, cap, hv, _, hin, _, _⟩
    · have := HNn.out; omega
    · injection hv with hv; injection hv with hv; injection hv with hv; rw [hv]; exact hin.lt
  have hA : Nw W3 (W3.alloc (.cells #[.int .i64 s, .pointer (some ⟨gp, 0, none⟩), .slice (some ⟨gt, 0, none⟩) n n] 64)) := (Nw.refl _).alloc _
  have hz : (W3.alloc (.cells #[.int .i64 s, .pointer (some ⟨gp, 0, none⟩), .slice (some ⟨gt, 0, none⟩) n n] 64)).heap.size = W3.heap.size + 1 := by simp
  have hgp2 : gp < W2.heap.size := by have := HB2.out; omega
  have h1 := HB1.out
  have h2 := HB2.out
  have h3 := HGT.out
  exact bodyPost_ret (results_tmp2 rfl _ _ _) rfl ⟨⟨W3.heap.size, gt, gp, rfl, { bm := by omega, bt := by omega, bp := by omega, im := by omega, it := by omega, ip := by omega, m0 := by simp [go_sem], m1 := by simp [go_sem], m2 := by simp [go_sem], p0 := cell_nw HCP.out (HN3.out.trans hA), pz := (frozen_nw hgp2 (HN3.out.trans hA)).trans HCZ.out, th := by rw [List.length_replicate]; exact own_le (own_nw HOW.out hA) (by omega), nmt := by omega, nmp := by omega, ntp := by omega }⟩, (HN2.out.trans HN3.out).trans hA⟩
end Go.Proofs.Ytdjcndpnjoahmaa
