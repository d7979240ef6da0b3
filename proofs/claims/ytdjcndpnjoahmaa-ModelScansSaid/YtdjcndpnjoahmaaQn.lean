import Derived.Test.YtdjcndpnjoahmaaQm
namespace Go.Proofs.Ytdjcndpnjoahmaa
open Go.RowKit Go.Xt
/-! A model of the law's own: known. -/
/-- A model that lies in new memory. -/
def LS (w : World) (gm : Nat) (s : Md) (N : Nat) (W : World) : Prop := ∃ p : Pl, p.gm = gm ∧ MAt W p s ∧ s.Ok N ∧ (∀ g ∈ p.foot, w.heap.size ≤ g) ∧ Nw w W
theorem nw_chg2 {w W W' : World} {X : List Nat} (h : Nw w W) (hc : Chg X W W') (hx : ∀ k ∈ X, w.heap.size ≤ k) : Nw w W' :=
  .of ⟨hc.os.trans h.grown.os, hc.tape.trans h.grown.tape, hc.output.trans h.grown.output, Nat.le_trans h.grown.size hc.size, fun k hk _ => (hc.block k (Nat.lt_of_lt_of_le hk h.grown.size) (fun e => by have := hx k e; omega)).trans (h.grown.block k hk (by simp))⟩
theorem LS.nw {w W : World} {gm : Nat} {s : Md} {N : Nat} (h : LS w gm s N W) : Nw w W := by
  obtain ⟨p, _, _, _, _, h⟩ := h; exact h
theorem LS.ok {w W : World} {gm : Nat} {s : Md} {N : Nat} (h : LS w gm s N W) : s.Ok N := by
  obtain ⟨p, _, _, h, _, _⟩ := h; exact h
theorem LS.im {w W : World} {gm : Nat} {s : Md} {N : Nat} (h : LS w gm s N W) : gm < W.heap.size := by
  obtain ⟨p, rfl, h, _, _, _⟩ := h; exact h.im
theorem LS.grow {w W W' : World} {gm : Nat} {s : Md} {N : Nat} (h : LS w gm s N W) (hn : Nw W W') : LS w gm s N W' := by
  obtain ⟨p, rfl, h1, h2, h3, h4⟩ := h; exact ⟨p, rfl, h1.nw hn, h2, h3, h4.trans hn⟩
theorem LS.up {w W W' : World} {gm : Nat} {s' : Md} {N' : Nat} {p p' : Pl} (hp : p.gm = gm) (h3 : ∀ g ∈ p.foot, w.heap.size ≤ g) (h4 : Nw w W) (hu : MUp W p s' p' W') (hok : s'.Ok N') : LS w gm s' N' W' :=
  ⟨p', hu.gm.trans hp, hu.at', hok, fun g hg => by
    rcases hu.mv g hg with h | h
    · exact h3 g h
    · exact Nat.le_trans h4.grown.size h, nw_chg2 h4 hu.chg h3⟩
/-- Do. -/
theorem do_LS {w W : World} {gm : Nat} {s : Md} {N : Nat} (h : LS w gm s N W) (hN : N ≤ 500000) (t : Int) (o : Ox) (hw : o.Wf) :
    Calls Try.prog 6 #[.pointer (some ⟨gm, 0, none⟩), .int .i64 t, opV o] W fun e W' => e = .returned (resV (doM s t o).1) ∧ LS w gm (doM s t o).2 (N + 1) W' := by
  obtain ⟨p, rfl, h1, h2, h3, h4⟩ := h
  refine (do_any W p s h1 h2 hN t o hw).mono ?_
  rintro e W' ⟨rfl, p', hu⟩
  exact ⟨rfl, LS.up rfl h3 h4 hu (doM_ok h2 t hw)⟩
theorem session_LS {w W : World} {gm : Nat} {s : Md} {N : Nat} (h : LS w gm s N W) (t : Int) :
    Calls Try.prog 7 #[.pointer (some ⟨gm, 0, none⟩), .int .i64 t] W fun e W' => e = .returned (.bool (ofM s t).se) ∧ Nw W W' := by
  obtain ⟨p, rfl, h1, h2, h3, h4⟩ := h
  exact session_M W p s h1 t
theorem new_LS (n : Nat) (sl : Int) (w W : World) (hw : Nw w W) (hn : 1 ≤ n ∧ n ≤ 8) (hs : 1 ≤ sl ∧ sl ≤ 64) :
    Calls Try.prog 10 #[cfgV n sl] W fun e W' => ∃ gm, e = .returned (.tuple #[.pointer (some ⟨gm, 0, none⟩), .int .i64 0]) ∧ LS w gm ⟨sl, [], List.replicate n Th0⟩ 0 W' := by
  refine (new_M n sl W hn hs).mono ?_
  rintro e W' ⟨⟨p, rfl, h1, h2⟩, hn2⟩
  exact ⟨p.gm, rfl, p, rfl, h1, ⟨Nat.le_refl _, List.Pairwise.nil, fun _ h => (by cases h), (by simp; omega), fun x hx => (by rw [List.eq_of_mem_replicate hx]; exact ⟨fun h => (by cases h), fun h => (by cases h), fun h => (by cases h)⟩)⟩, fun g hg => Nat.le_trans hw.grown.size (h2 g hg), hw.trans hn2⟩
theorem wf_small {k a b c d e f : Int} (h0 : 0 ≤ k ∧ k < 256) (h1 : 0 ≤ a ∧ a < 18446744073709551616) (h2 : 0 ≤ b ∧ b < 18446744073709551616) (h3 : 0 ≤ c ∧ c < 18446744073709551616) (h4 : 0 ≤ d ∧ d < 18446744073709551616) (h5 : 0 ≤ e ∧ e < 18446744073709551616) (h6 : 0 ≤ f ∧ f < 18446744073709551616) : Ox.Wf ⟨k, a, b, c, d, e, f⟩ := ⟨h0, h1, h2, h3, h4, h5, h6⟩
abbrev kn0 : Md := ⟨1, [], [Th0]⟩
abbrev oPut4 : Ox := ⟨4, 4, 0, 2, 0, 0, 0⟩
abbrev oDel4 : Ox := ⟨6, 4, 0, 0, 0, 0, 0⟩
abbrev oLen : Ox := ⟨10, 0, 0, 0, 0, 0, 0⟩
theorem kn_1 : doM kn0 0 oOpen = (r0, ⟨1, [], [⟨false, false, 0, 0, true⟩]⟩) := by rfl
theorem kn_2 : doM ⟨1, [], [⟨false, false, 0, 0, true⟩]⟩ 0 oPut4 = (r0, ⟨1, [(4, 2)], [⟨false, false, 0, 0, true⟩]⟩) := by rfl
theorem kn_3 : doM ⟨1, [(4, 2)], [⟨false, false, 0, 0, true⟩]⟩ 0 oDel4 = (⟨0, true, 0, 2, 0⟩, ⟨1, [], [⟨false, false, 0, 0, true⟩]⟩) := by rfl
theorem kn_4 : doM ⟨1, [], [⟨false, false, 0, 0, true⟩]⟩ 0 oLen = (r0, ⟨1, [], [⟨false, false, 0, 0, true⟩]⟩) := by rfl
set_option maxRecDepth 20000 in
set_option maxHeartbeats 8000000 in
theorem known_M (w : World) : Calls Try.prog 4 #[] w fun e w' => e = .returned (.bool true) ∧ Nw w w' := by
  have HD := Lib.hid (fun (W : World) gm s N (h : LS w gm s N W) (hN : N ≤ 500000) (o : Ox) (hw : o.Wf) => do_LS h hN 0 o hw)
  unfold opV resV at HD
  go_enter Try.func4, Try.ntmps4
  go_wp2_with fail
  refine (fixed_any 1 1 _).mono ?_
  rintro e w' ⟨rfl, dF, rfl⟩
  go_wp2_with fail
  refine (new_LS 1 1 w _ ((by repeat (first | exact Xt.Nw.refl _ | refine Xt.Nw.drew ?_ | refine Xt.Nw.drewN ?_ _ | refine Xt.Nw.alloc ?_ _ | refine Xt.Nw.joined ?_ | refine Xt.Nw.drewd ?_ | refine Xt.Nw.drewdN ?_ | refine Xt.Nw.ext ?_ | refine Xt.Nw.ext_some ?_ (by assumption) | refine Xt.Nw.setCell ?_ (by simp [go_sem] <;> omega) _))) (by omega) (by omega)).mono ?_
  rintro e W3 ⟨gm, rfl, h3⟩
  have H3 := Lib.hid h3
  clear h3
  go_wp2_with fail
  have c4 := HD.out W3 gm kn0 0 H3.out (by omega) oOpen (by constructor <;> simp)
  rw [kn_1] at c4
  refine c4.mono ?_
  rintro e W4 ⟨rfl, h4⟩
  have H4 := Lib.hid h4
  clear h4 c4
  go_wp2_with fail
  have c5 := HD.out W4 gm _ _ H4.out (by omega) oPut4 (by constructor <;> simp)
  rw [kn_2] at c5
  refine c5.mono ?_
  rintro e W5 ⟨rfl, h5⟩
  have H5 := Lib.hid h5
  clear h5 c5
  go_wp2_with fail
  have c6 := HD.out W5 gm _ _ H5.out (by omega) oDel4 (by constructor <;> simp)
  rw [kn_3] at c6
  refine c6.mono ?_
  rintro e W6 ⟨rfl, h6⟩
  have H6 := Lib.hid h6
  clear h6 c6
  go_wp2_with fail
  have c7 := HD.out W6 gm _ _ H6.out (by omega) oLen (by constructor <;> simp)
  rw [kn_4] at c7
  refine c7.mono ?_
  rintro e W7 ⟨rfl, h7⟩
  have H7 := Lib.hid h7
  clear h7 c7
  go_wp2
  go_ret
  exact ⟨rfl, H7.out.nw⟩
end Go.Proofs.Ytdjcndpnjoahmaa
