import Derived.Test.YtenhadpiddocbaaMn
import Derived.Test.YtenhadpiddocbaaMj
namespace Go.Proofs.Ytenhadpiddocbaa
open Go.RowKit Go.Xt
/-! known. -/
theorem nw_chg {w W W' : World} {X : List Nat} (h : Nw w W) (hc : Chg X W W') (hx : ∀ k ∈ X, w.heap.size ≤ k) : Nw w W' :=
  .of ⟨hc.os.trans h.grown.os, hc.tape.trans h.grown.tape, hc.output.trans h.grown.output, Nat.le_trans h.grown.size hc.size, fun k hk _ => (hc.block k (Nat.lt_of_lt_of_le hk h.grown.size) (fun e => by have := hx k e; omega)).trans (h.grown.block k hk (by simp))⟩
theorem mdl_map {base : Nat} {W W' : World} {gm gt gp : Nat} {s : Int} {b : List Bool} {L L' : Value} {X : List Nat} (h : Mdl base W gm gt gp s b L) (hc : Chg X W W') (h1 : gm ∉ X) (h2 : gt ∉ X) (hp : W'.cell? ⟨gp, 0, none⟩ = some L') (hz : W'.frozen? ⟨gp, 0, none⟩ = false) : Mdl base W' gm gt gp s b L' :=
  { bm := h.bm, bt := h.bt, bp := h.bp, im := Nat.lt_of_lt_of_le h.im hc.size, it := Nat.lt_of_lt_of_le h.it hc.size, ip := Nat.lt_of_lt_of_le h.ip hc.size, m0 := hc.cell h.m0 h1, m1 := hc.cell h.m1 h1, m2 := hc.cell h.m2 h1, p0 := hp, pz := hz, th := th_chg h.th hc h2, nmt := h.nmt, nmp := h.nmp, ntp := h.ntp }
set_option maxRecDepth 20000 in
set_option maxHeartbeats 8000000 in
theorem known_any (w : World) : Calls Try.prog 4 #[] w fun e w' => e = .returned (.bool true) ∧ Nw w w' := by
  go_enter Try.func4, Try.ntmps4
  go_wp2_with fail
  refine (fixed_any 1 1 _).mono ?_
  rintro e w' ⟨rfl, dF, rfl⟩
  go_wp2_with fail
  refine (new_any 1 1 _ (by omega) (by omega)).mono ?_
  rintro e W3 ⟨⟨gm, gt, gp, rfl, hm⟩, hn3⟩
  have hn3w : Nw w W3 := Nw.trans ⟨_, rfl⟩ hn3
  have hbase : w.heap.size ≤ (w.ext none dF).heap.size := le_size _ _ _
  have M3 := Lib.hid (show Mdl w.heap.size W3 gm gt gp 1 [false] (.slice none 0 0) from { hm with bm := Nat.le_trans hbase hm.bm, bt := Nat.le_trans hbase hm.bt, bp := Nat.le_trans hbase hm.bp, th := own_le hm.th hbase })
  have HN3 := Lib.hid hn3w
  clear hm hn3 hn3w hbase
  go_wp2_with fail
  refine (do_1ok w.heap.size W3 gm gt gp 1 [false] (.slice none 0 0) M3.out (by decide) 0 rfl (by decide)).mono ?_
  rintro e W4 ⟨rfl, hc4, ht4⟩
  have M4 := Lib.hid (show Mdl w.heap.size W4 gm gt gp 1 [true] (.slice none 0 0) from mdl_chg M3.out hc4 ht4 rfl (by have := M3.out.nmt; simpa using this) (by have := M3.out.ntp; simp; omega))
  have HN4 := Lib.hid (nw_chg HN3.out hc4 (by have := M3.out.bt; simpa using this))
  clear hc4 ht4
  go_wp2_with fail
  refine (do_4tt w.heap.size W4 gm gt gp 1 [true] (.slice none 0 0) M4.out rfl 0 rfl).mono ?_
  rintro e W5 ⟨rfl, hc5, gl, c, hone, hgl⟩
  have M5 := Lib.hid (show Mdl w.heap.size W5 gm gt gp 1 [true] (.slice (some ⟨gl, 0, none⟩) 1 c) from mdl_map M4.out hc5 (by have := M4.out.nmp; simpa using this) (by have := M4.out.ntp; simpa using this) hone.1 hone.2.2.2.2.2.2)
  have HN5 := Lib.hid (nw_chg HN4.out hc5 (by have := M4.out.bp; simpa using this))
  have HONE := Lib.hid hone
  have HGL := Lib.hid (show gl ≠ gp ∧ gl ≠ gm ∧ gl ≠ gt ∧ w.heap.size ≤ gl by have h1 := M4.out.ip; have h2 := M4.out.im; have h3 := M4.out.it; have h4 := HN4.out.grown.size; omega)
  clear hc5 hone hgl
  go_wp2_with fail
  refine (do_6tt w.heap.size W5 gm gt gp 1 [true] _ M5.out gl c rfl HONE.out HGL.out.1 HGL.out.2.1 (World.block_lt_of_cell? _ _ HONE.out.2.1) 0 rfl).mono ?_
  rintro e W6 ⟨rfl, hc6, hp6, hz6⟩
  have M6 := Lib.hid (show Mdl w.heap.size W6 gm gt gp 1 [true] (.slice (some ⟨gl, 0, none⟩) 0 c) from mdl_map M5.out hc6 (by have := M5.out.nmp; have := HGL.out; simp; omega) (by have := M5.out.ntp; have := HGL.out; simp; omega) hp6 hz6)
  have HN6 := Lib.hid (nw_chg HN5.out hc6 (by have := M5.out.bp; have := HGL.out; simp; omega))
  clear hc6 hp6 hz6
  go_wp2_with fail
  refine (do_10tt w.heap.size W6 gm gt gp 1 [true] _ M6.out _ _ rfl 0 rfl).mono ?_
  rintro e W7 ⟨rfl, hc7, -⟩
  have HN7 := Lib.hid (nw_chg HN6.out hc7 (by simp))
  clear hc7
  go_wp2
  go_ret
  exact ⟨rfl, HN7.out⟩
end Go.Proofs.Ytenhadpiddocbaa
