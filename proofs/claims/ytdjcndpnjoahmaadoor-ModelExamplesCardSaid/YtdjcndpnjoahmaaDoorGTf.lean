import Derived.Test.YtdjcndpnjoahmaaDoorGTe
set_option linter.unusedVariables false
set_option linter.unusedSimpArgs false
namespace Go.Proofs.YtdjcndpnjoahmaaDoor
open Go.RowKit Go.Xt
/-! The law ModelExamples: the walk. -/
def s0E : Md := stE 16
def s1E : Md := (doM s0E 0 ⟨12, 0, 0, 0, 0, 0, 0⟩).2
theorem e1E : doM s0E 0 ⟨12, 0, 0, 0, 0, 0, 0⟩ = (⟨14, false, 0, 0, 0⟩, s1E) := by kernel_rfl
def s2E : Md := (doM s1E 0 ⟨12, 0, 0, 0, 0, 0, 0⟩).2
theorem e2E : doM s1E 0 ⟨12, 0, 0, 0, 0, 0, 0⟩ = (⟨14, false, 0, 0, 0⟩, s2E) := by kernel_rfl
def s3E : Md := (doM s2E 0 ⟨13, 3, 0, 0, 0, 0, 0⟩).2
theorem e3E : doM s2E 0 ⟨13, 3, 0, 0, 0, 0, 0⟩ = (⟨13, false, 0, 0, 0⟩, s3E) := by kernel_rfl
def s4E : Md := (doM s3E 0 ⟨2, 0, 0, 0, 0, 0, 0⟩).2
theorem e4E : doM s3E 0 ⟨2, 0, 0, 0, 0, 0, 0⟩ = (⟨8, false, 0, 0, 0⟩, s4E) := by kernel_rfl
def s5E : Md := (doM s4E 0 ⟨14, 0, 0, 0, 0, 0, 0⟩).2
theorem e5E : doM s4E 0 ⟨14, 0, 0, 0, 0, 0, 0⟩ = (⟨0, false, 0, 0, 0⟩, s5E) := by kernel_rfl
def s6E : Md := (doM s5E 0 ⟨11, 0, 7, 0, 0, 0, 0⟩).2
theorem e6E : doM s5E 0 ⟨11, 0, 7, 0, 0, 0, 0⟩ = (⟨0, false, 0, 0, 0⟩, s6E) := by kernel_rfl
def s7E : Md := (doM s6E 0 ⟨13, 8, 0, 0, 0, 0, 0⟩).2
theorem e7E : doM s6E 0 ⟨13, 8, 0, 0, 0, 0, 0⟩ = (⟨0, false, 0, 0, 0⟩, s7E) := by kernel_rfl
def s8E : Md := (acceptM s7E 0 ⟨3, 7, 0, 0, 0, 0, 0⟩ ⟨11, false, 0, 0, 0⟩).2
theorem e8E : acceptM s7E 0 ⟨3, 7, 0, 0, 0, 0, 0⟩ ⟨11, false, 0, 0, 0⟩ = (true, s8E) := by kernel_rfl
def s9E : Md := (acceptM s8E 0 ⟨4, 7, 0, 1, 0, 0, 0⟩ ⟨6, false, 0, 0, 0⟩).2
theorem e9E : acceptM s8E 0 ⟨4, 7, 0, 1, 0, 0, 0⟩ ⟨6, false, 0, 0, 0⟩ = (false, s9E) := by kernel_rfl
def s10E : Md := (acceptM s9E 0 ⟨4, 8, 0, 1, 0, 0, 0⟩ ⟨6, false, 0, 0, 0⟩).2
theorem e10E : acceptM s9E 0 ⟨4, 8, 0, 1, 0, 0, 0⟩ ⟨6, false, 0, 0, 0⟩ = (true, s10E) := by kernel_rfl
def s11E : Md := (acceptM s10E 0 ⟨15, 0, 0, 0, 0, 0, 0⟩ ⟨0, false, 0, 0, 3⟩).2
theorem e11E : acceptM s10E 0 ⟨15, 0, 0, 0, 0, 0, 0⟩ ⟨0, false, 0, 0, 3⟩ = (true, s11E) := by kernel_rfl
def s12E : Md := (acceptM s11E 0 ⟨10, 0, 0, 0, 0, 0, 0⟩ ⟨0, false, 0, 0, 2⟩).2
theorem e12E : acceptM s11E 0 ⟨10, 0, 0, 0, 0, 0, 0⟩ ⟨0, false, 0, 0, 2⟩ = (false, s12E) := by kernel_rfl
def s13E : Md := (acceptM s12E 0 ⟨15, 0, 0, 0, 0, 0, 0⟩ ⟨0, false, 0, 0, 1025⟩).2
theorem e13E : acceptM s12E 0 ⟨15, 0, 0, 0, 0, 0, 0⟩ ⟨0, false, 0, 0, 1025⟩ = (false, s13E) := by kernel_rfl
section
variable {w W W' : World} {N : Nat} {ms : List (Nat × Md)} {K : List (Nat × Obj)} {b : Nat} {o : Obj}
theorem Lw.made1 (h : Lw w N ms K W) (o : Obj) : Lw w N ms ((W.heap.size, o) :: K) (W.alloc o) := h.keep ((Nw.refl W).alloc o) (heap_alloc_new W o) (Nat.le_refl _)
/-- A kept block is written to, and kept no more. -/
theorem Lw.wrote (h : Lw w N ms ((b, o) :: K) W) (hc : Chg [b] W W') (hb : w.heap.size ≤ b) (hK : ∀ x ∈ K, x.1 ≠ b) : Lw w N ms K W' := by
  obtain ⟨h0, ps, hl, hA, hD, hk⟩ := h
  have hbf : ∀ p ∈ ps, b ∉ p.foot := (hk (b, o) (by simp)).2
  refine ⟨nw_chg2 h0 hc (by simpa using hb), ps, hl, fun i p m hp hm => ?_, hD, fun x hx => ⟨?_, (hk x (by simp [hx])).2⟩⟩
  · obtain ⟨a, b2, c, d, e, f⟩ := hA i p m hp hm
    exact ⟨a, b2.chg hc (fun g hg hgb => hbf p (List.mem_of_getElem? hp) (by rw [List.mem_singleton] at hgb; rw [← hgb]; exact hg)), c, d, e, f⟩
  · have h1 := (hk x (by simp [hx])).1
    rw [hc.block x.1 (Array.getElem?_eq_some_iff.1 h1).1 (by simpa using hK x hx)]; exact h1
end
theorem t0E : (ofM s7E 0).se = true := by kernel_rfl
theorem t1E : (ofM s7E 1).se = false := by kernel_rfl
theorem i0E : ofM s0E 0 = ⟨true, true, 8, 9, true⟩ := by kernel_rfl
theorem i7E : ofM s7E 0 = ⟨true, false, 0, 0, true⟩ := by kernel_rfl

set_option maxRecDepth 20000 in
set_option maxHeartbeats 16000000 in
theorem examples_M (w : World) (HF : FmtAt w) : Calls Tryd.prog 6 #[] w fun e w' => e = .returned (.bool true) ∧ Nw w w' := by
  have HKN := Lib.hid (fun W => known_M W)
  go_enter Tryd.func6, Tryd.ntmps6
  go_wp2_with fail
  refine (new_Lw 2 1 w _ ((by repeat (first | exact Xt.Nw.refl _ | refine Xt.Nw.drew ?_ | refine Xt.Nw.drewN ?_ _ | refine Xt.Nw.alloc ?_ _ | refine Xt.Nw.joined ?_ | refine Xt.Nw.drewd ?_ | refine Xt.Nw.drewdN ?_ | refine Xt.Nw.ext ?_ | refine Xt.Nw.ext_some ?_ (by assumption) | refine Xt.Nw.setCell ?_ (by simp [go_sem] <;> omega) _))) (by omega) (by omega)).mono ?_
  rintro e W3 ⟨gm, rfl, h3⟩
  have H3 := Lib.hid h3
  obtain ⟨d3, rfl⟩ := h3.nw
  clear h3
  go_wp2_with fail
  obtain ⟨L, hL⟩ : ∃ L, L = exA := ⟨_, rfl⟩
  rw [← hL]
  have HL := Lib.hid hL
  clear hL
  obtain ⟨gs, hgs⟩ : ∃ g, g = (w.ext none d3).heap.size := ⟨_, rfl⟩
  obtain ⟨Wb, hWb⟩ : ∃ W, W = (w.ext none d3).alloc (.cells L 54) := ⟨_, rfl⟩
  have h4 : Lw w 0 [(gm, stE 0)] [(gs, .cells L 54)] Wb := Lw.keep H3.out (by rw [hWb]; exact (Nw.refl _).alloc _) (by rw [hWb, hgs]; exact heap_alloc_new _ _) (by omega)
  have H4 := Lib.hid h4
  rw [← hgs, ← hWb]
  clear h4 hgs hWb H3
  have CX := Lib.hid (fun i (e : Int × Ox × Rs) (he : exS[i]? = some e) N ms K W (h : Lw w N ms K W) (hk : (gs, Obj.cells L 54) ∈ K) j v (hv : (exc e)[j]? = some v) => show W.cell? ⟨gs, i * 13 + j, none⟩ = some v by
    rw [h.cell hk, HL.out]
    have := exc_get exS i e he j v hv
    unfold exA exCells; simpa using this)
  go_loopw [5] (fun a wr => ∃ i : Nat, i ≤ 16 ∧ a = .int .i64 i ∧ Hid (Lw w i [(gm, stE i)] [(gs, .cells L 54)] wr)) (fun a _ => 16 - (intOf a).toNat)
  case atStart => exact ⟨0, by omega, rfl, H4⟩
  case round =>
    obtain ⟨i, hi, rfl, HW⟩ := hrel
    clear H4
    by_cases hi6 : i < 16
    · obtain ⟨e, he, hd, hw, -, -⟩ := ex_step i hi6
      have hD := fun W (hW : Nw wr W) => ex_do (HW.out.grow hW) (by omega) hw hd
      have hC := fun N ms W (h : Lw w N ms [(gs, Obj.cells L 54)] W) j v (hv : (exc e)[j]? = some v) => CX.out i e he N ms _ W h (List.mem_singleton_self _) j v hv
      obtain ⟨et, ⟨ek, ea, eb, ec, ed, ee, ef⟩, ⟨er, eu, ev, ez, en⟩⟩ := e
      unfold opV resV at hD
      simp only at hD
      have HD := Lib.hid hD
      have HC := Lib.hid (fun N ms W (h : Lw w N ms [(gs, Obj.cells L 54)] W) => show W.cell? ⟨gs, i * 13, none⟩ = some (.int .i64 et) ∧ W.cell? ⟨gs, i * 13 + 1, none⟩ = some (.int .u8 ek) ∧ W.cell? ⟨gs, i * 13 + 1 + 1, none⟩ = some (.int .u64 ea) ∧ W.cell? ⟨gs, i * 13 + 1 + 2, none⟩ = some (.int .u64 eb) ∧ W.cell? ⟨gs, i * 13 + 1 + 3, none⟩ = some (.int .u64 ec) ∧ W.cell? ⟨gs, i * 13 + 1 + 4, none⟩ = some (.int .u64 ed) ∧ W.cell? ⟨gs, i * 13 + 1 + 5, none⟩ = some (.int .u64 ee) ∧ W.cell? ⟨gs, i * 13 + 1 + 6, none⟩ = some (.int .u64 ef) ∧ W.cell? ⟨gs, i * 13 + 8, none⟩ = some (.int .i64 er) ∧ W.cell? ⟨gs, i * 13 + 8 + 1, none⟩ = some (.bool eu) ∧ W.cell? ⟨gs, i * 13 + 8 + 2, none⟩ = some (.int .u64 ev) ∧ W.cell? ⟨gs, i * 13 + 8 + 3, none⟩ = some (.int .u64 ez) ∧ W.cell? ⟨gs, i * 13 + 8 + 4, none⟩ = some (.int .i64 en) from ⟨by have := hC N ms W h 0 _ rfl; exact this, by have := hC N ms W h 1 _ rfl; exact this, by have := hC N ms W h 2 _ rfl; exact this, by have := hC N ms W h 3 _ rfl; exact this, by have := hC N ms W h 4 _ rfl; exact this, by have := hC N ms W h 5 _ rfl; exact this, by have := hC N ms W h 6 _ rfl; exact this, by have := hC N ms W h 7 _ rfl; exact this, by have := hC N ms W h 8 _ rfl; exact this, by have := hC N ms W h 9 _ rfl; exact this, by have := hC N ms W h 10 _ rfl; exact this, by have := hC N ms W h 11 _ rfl; exact this, by have := hC N ms W h 12 _ rfl; exact this⟩)
      have HI6 := Lib.hid hi6
      have i0 : (0 : Int) ≤ (i : Int) := by omega
      have i1 : (i : Int) < 16 := by omega
      have i2 : i < 16 := hi6
      haveI : In gs wr := ⟨World.block_lt_of_cell? wr _ (HC.out _ _ _ HW.out).1⟩
      clear hD hC he hd hw hi6
      go_upto_region 9 with (fail)
      go_region_held3 (fun w' => w'.cell? ⟨gs, i * 13, none⟩ = some (.int .i64 et) ∧ w'.cell? ⟨gs, i * 13 + 1, none⟩ = some (.int .u8 ek) ∧ w'.cell? ⟨gs, i * 13 + 1 + 1, none⟩ = some (.int .u64 ea) ∧ w'.cell? ⟨gs, i * 13 + 1 + 2, none⟩ = some (.int .u64 eb) ∧ w'.cell? ⟨gs, i * 13 + 1 + 3, none⟩ = some (.int .u64 ec) ∧ w'.cell? ⟨gs, i * 13 + 1 + 4, none⟩ = some (.int .u64 ed) ∧ w'.cell? ⟨gs, i * 13 + 1 + 5, none⟩ = some (.int .u64 ee) ∧ w'.cell? ⟨gs, i * 13 + 1 + 6, none⟩ = some (.int .u64 ef) ∧ w'.cell? ⟨gs, i * 13 + 8, none⟩ = some (.int .i64 er) ∧ w'.cell? ⟨gs, i * 13 + 8 + 1, none⟩ = some (.bool eu) ∧ w'.cell? ⟨gs, i * 13 + 8 + 2, none⟩ = some (.int .u64 ev) ∧ w'.cell? ⟨gs, i * 13 + 8 + 3, none⟩ = some (.int .u64 ez) ∧ w'.cell? ⟨gs, i * 13 + 8 + 4, none⟩ = some (.int .i64 en)) (first | exact HC.out _ _ _ (HW.out.grow (Nw.drew (Nw.refl wr))) | exact HC.out _ _ _ hls)
        ((first | (go_at_call 12; refine (HD.out _ (Nw.drew (Nw.refl wr))).mono ?_; rintro r W5 ⟨rfl, hls⟩)))
      have HLS := Lib.hid hls
      clear hls
      go_wp2
      exact ⟨⟨i + 1, by have := HI6.out; omega, by go_num, HLS⟩, by have := HI6.out; simp [intOf]; omega⟩
    · obtain rfl : i = 16 := by omega
      clear hi hi6
      obtain ⟨d5, rfl⟩ := HW.out.nw
      have hI := iter_Lw (i := 0) HW.out rfl 0
      rw [show ofM (stE 16) 0 = ⟨true, true, 8, 9, true⟩ from i0E] at hI
      have HI := Lib.hid hI
      clear hI CX
      go_wp2_with fail
      refine HI.out.mono ?_
      rintro r W6 ⟨rfl, hn6⟩
      have h6 := HW.out.grow hn6
      obtain ⟨d6, rfl⟩ := h6.nw
      have H6 := Lib.hid h6
      clear h6 hn6 HI HW
      go_upto_region 15 with (fail)
      obtain ⟨g, hg⟩ : ∃ g, g = (w.ext none d6).heap.size := ⟨_, rfl⟩
      obtain ⟨Wz, hWz⟩ : ∃ W, W = (((w.ext none d6).alloc (.cells #[.int .u64 8, .int .u64 9] 57)).alloc (.cells #[.int .u8 12, .int .u64 0, .int .u64 0, .int .u64 0, .int .u64 0, .int .u64 0, .int .u64 0] 25)).alloc (.cells #[.int .i64 14, .bool false, .int .u64 0, .int .u64 0, .int .i64 0] 28) := ⟨_, rfl⟩
      have hz : Lw w 16 [(gm, s0E)] [(g, .cells #[.int .u64 8, .int .u64 9] 57), (g + 1, .cells #[.int .u8 12, .int .u64 0, .int .u64 0, .int .u64 0, .int .u64 0, .int .u64 0, .int .u64 0] 25), (g + 1 + 1, .cells #[.int .i64 14, .bool false, .int .u64 0, .int .u64 0, .int .i64 0] 28)] Wz := by
        have h0 := ((H6.out.made1 (.cells #[.int .u64 8, .int .u64 9] 57)).made1 (.cells #[.int .u8 12, .int .u64 0, .int .u64 0, .int .u64 0, .int .u64 0, .int .u64 0, .int .u64 0] 25)).made1 (.cells #[.int .i64 14, .bool false, .int .u64 0, .int .u64 0, .int .i64 0] 28)
        rw [hWz, hg]
        refine (Lw.less (K' := _) h0 ?_)
        intro x hx
        simp at hx ⊢
        rcases hx with rfl | rfl | rfl <;> simp
      have HZ := Lib.hid hz
      have hgw : w.heap.size ≤ g := by rw [hg]; exact H6.out.nw.grown.size
      have HGW := Lib.hid hgw
      rw [← hg, ← hWz]
      clear hWz hg H6 hgw
      obtain ⟨d7, rfl⟩ := hz.nw
      clear hz
      have KE := Lib.hid (fun N ms K W (h : Lw w N ms K W) (hk : ∀ x ∈ ([(g + 1, .cells #[.int .u8 12, .int .u64 0, .int .u64 0, .int .u64 0, .int .u64 0, .int .u64 0, .int .u64 0] 25), (g + 1 + 1, .cells #[.int .i64 14, .bool false, .int .u64 0, .int .u64 0, .int .i64 0] 28)] : List (Nat × Obj)), x ∈ K) => show W.cell? ⟨g + 1, 0, none⟩ = some (.int .u8 12) ∧ W.cell? ⟨g + 1, 1, none⟩ = some (.int .u64 0) ∧ W.cell? ⟨g + 1, 2, none⟩ = some (.int .u64 0) ∧ W.cell? ⟨g + 1, 3, none⟩ = some (.int .u64 0) ∧ W.cell? ⟨g + 1, 4, none⟩ = some (.int .u64 0) ∧ W.cell? ⟨g + 1, 5, none⟩ = some (.int .u64 0) ∧ W.cell? ⟨g + 1, 6, none⟩ = some (.int .u64 0) ∧ W.cell? ⟨g + 1 + 1, 0, none⟩ = some (.int .i64 14) ∧ W.cell? ⟨g + 1 + 1, 1, none⟩ = some (.bool false) ∧ W.cell? ⟨g + 1 + 1, 2, none⟩ = some (.int .u64 0) ∧ W.cell? ⟨g + 1 + 1, 3, none⟩ = some (.int .u64 0) ∧ W.cell? ⟨g + 1 + 1, 4, none⟩ = some (.int .i64 0) from ⟨h.cell (hk _ (List.mem_cons_self ..)) 0, h.cell (hk _ (List.mem_cons_self ..)) 1, h.cell (hk _ (List.mem_cons_self ..)) 2, h.cell (hk _ (List.mem_cons_self ..)) 3, h.cell (hk _ (List.mem_cons_self ..)) 4, h.cell (hk _ (List.mem_cons_self ..)) 5, h.cell (hk _ (List.mem_cons_self ..)) 6, h.cell (hk _ (List.mem_cons_of_mem _ (List.mem_cons_self ..))) 0, h.cell (hk _ (List.mem_cons_of_mem _ (List.mem_cons_self ..))) 1, h.cell (hk _ (List.mem_cons_of_mem _ (List.mem_cons_self ..))) 2, h.cell (hk _ (List.mem_cons_of_mem _ (List.mem_cons_self ..))) 3, h.cell (hk _ (List.mem_cons_of_mem _ (List.mem_cons_self ..))) 4⟩)
      haveI : In g (w.ext none d7) := ⟨(Array.getElem?_eq_some_iff.1 (HZ.out.block (List.mem_cons_self ..))).1⟩
      haveI : In (g + 1) (w.ext none d7) := ⟨(Array.getElem?_eq_some_iff.1 (HZ.out.block (List.mem_cons_of_mem _ (List.mem_cons_self ..)))).1⟩
      haveI : In (g + 1 + 1) (w.ext none d7) := ⟨(Array.getElem?_eq_some_iff.1 (HZ.out.block (List.mem_cons_of_mem _ (List.mem_cons_of_mem _ (List.mem_cons_self ..))))).1⟩
      have hD0 := fun K W (h : Lw w 16 [(gm, s0E)] K W) => ex_do h (by omega) (by constructor <;> simp) e1E
      unfold opV resV at hD0
      simp only at hD0
      have D0 := Lib.hid hD0
      clear hD0
      have hD1 := fun K W (h : Lw w 17 [(gm, s1E)] K W) => ex_do h (by omega) (by constructor <;> simp) e2E
      unfold opV resV at hD1
      simp only at hD1
      have D1 := Lib.hid hD1
      clear hD1
      have hD2 := fun K W (h : Lw w 18 [(gm, s2E)] K W) => ex_do h (by omega) (by constructor <;> simp) e3E
      unfold opV resV at hD2
      simp only at hD2
      have D2 := Lib.hid hD2
      clear hD2
      have hD3 := fun K W (h : Lw w 19 [(gm, s3E)] K W) => ex_do h (by omega) (by constructor <;> simp) e4E
      unfold opV resV at hD3
      simp only at hD3
      have D3 := Lib.hid hD3
      clear hD3
      have hD4 := fun K W (h : Lw w 20 [(gm, s4E)] K W) => ex_do h (by omega) (by constructor <;> simp) e5E
      unfold opV resV at hD4
      simp only at hD4
      have D4 := Lib.hid hD4
      clear hD4
      have hD5 := fun K W (h : Lw w 21 [(gm, s5E)] K W) => ex_do h (by omega) (by constructor <;> simp) e6E
      unfold opV resV at hD5
      simp only at hD5
      have D5 := Lib.hid hD5
      clear hD5
      have hD6 := fun K W (h : Lw w 22 [(gm, s6E)] K W) => ex_do h (by omega) (by constructor <;> simp) e7E
      unfold opV resV at hD6
      simp only at hD6
      have D6 := Lib.hid hD6
      clear hD6
      have hD7 := fun K W (h : Lw w 23 [(gm, s7E)] K W) => ex_acc h (by omega) (by constructor <;> simp) (by simp) e8E
      unfold opV resV at hD7
      simp only at hD7
      have D7 := Lib.hid hD7
      clear hD7
      have hD8 := fun K W (h : Lw w 24 [(gm, s8E)] K W) => ex_acc h (by omega) (by constructor <;> simp) (by simp) e9E
      unfold opV resV at hD8
      simp only at hD8
      have D8 := Lib.hid hD8
      clear hD8
      have hD9 := fun K W (h : Lw w 25 [(gm, s9E)] K W) => ex_acc h (by omega) (by constructor <;> simp) (by simp) e10E
      unfold opV resV at hD9
      simp only at hD9
      have D9 := Lib.hid hD9
      clear hD9
      have hD10 := fun K W (h : Lw w 26 [(gm, s10E)] K W) => ex_acc h (by omega) (by constructor <;> simp) (by simp) e11E
      unfold opV resV at hD10
      simp only at hD10
      have D10 := Lib.hid hD10
      clear hD10
      have hD11 := fun K W (h : Lw w 27 [(gm, s11E)] K W) => ex_acc h (by omega) (by constructor <;> simp) (by simp) e12E
      unfold opV resV at hD11
      simp only at hD11
      have D11 := Lib.hid hD11
      clear hD11
      have hD12 := fun K W (h : Lw w 28 [(gm, s12E)] K W) => ex_acc h (by omega) (by constructor <;> simp) (by simp) e13E
      unfold opV resV at hD12
      simp only at hD12
      have D12 := Lib.hid hD12
      clear hD12
      have L0 := HZ.out.grow ((Nw.refl _).drew)
      have SK := Lib.hid (show ∀ x ∈ ([(g + 1, .cells #[.int .u8 12, .int .u64 0, .int .u64 0, .int .u64 0, .int .u64 0, .int .u64 0, .int .u64 0] 25), (g + 1 + 1, .cells #[.int .i64 14, .bool false, .int .u64 0, .int .u64 0, .int .i64 0] 28)] : List (Nat × Obj)), x ∈ ([(g, .cells #[.int .u64 8, .int .u64 9] 57), (g + 1, .cells #[.int .u8 12, .int .u64 0, .int .u64 0, .int .u64 0, .int .u64 0, .int .u64 0, .int .u64 0] 25), (g + 1 + 1, .cells #[.int .i64 14, .bool false, .int .u64 0, .int .u64 0, .int .i64 0] 28)] : List (Nat × Obj)) from fun x hx => List.mem_cons_of_mem _ hx)
      go_region_held3 (fun w' => w'.cell? ⟨g + 1, 0, none⟩ = some (.int .u8 12) ∧ w'.cell? ⟨g + 1, 1, none⟩ = some (.int .u64 0) ∧ w'.cell? ⟨g + 1, 2, none⟩ = some (.int .u64 0) ∧ w'.cell? ⟨g + 1, 3, none⟩ = some (.int .u64 0) ∧ w'.cell? ⟨g + 1, 4, none⟩ = some (.int .u64 0) ∧ w'.cell? ⟨g + 1, 5, none⟩ = some (.int .u64 0) ∧ w'.cell? ⟨g + 1, 6, none⟩ = some (.int .u64 0) ∧ w'.cell? ⟨g + 1 + 1, 0, none⟩ = some (.int .i64 14) ∧ w'.cell? ⟨g + 1 + 1, 1, none⟩ = some (.bool false) ∧ w'.cell? ⟨g + 1 + 1, 2, none⟩ = some (.int .u64 0) ∧ w'.cell? ⟨g + 1 + 1, 3, none⟩ = some (.int .u64 0) ∧ w'.cell? ⟨g + 1 + 1, 4, none⟩ = some (.int .i64 0)) (first | exact KE.out _ _ _ _ h4 SK.out | exact KE.out _ _ _ _ h3 SK.out | exact KE.out _ _ _ _ h2 SK.out | exact KE.out _ _ _ _ h1 SK.out | exact KE.out _ _ _ _ L0 SK.out)
        ((first | (go_at_call 12; (with_reducible refine (D3.out _ _ h3).mono ?_); rintro r Wa4 ⟨rfl, h4⟩) | (go_at_call 12; (with_reducible refine (D2.out _ _ h2).mono ?_); rintro r Wa3 ⟨rfl, h3⟩) | (go_at_call 12; (with_reducible refine (D1.out _ _ h1).mono ?_); rintro r Wa2 ⟨rfl, h2⟩) | (go_at_call 12; (with_reducible refine (D0.out _ _ L0).mono ?_); rintro r Wa1 ⟨rfl, h1⟩)))
      have H4 := Lib.hid h4
      obtain ⟨d8, rfl⟩ := h4.nw
      clear h4 h3 h2 h1 L0
      go_wp2_with fail
      refine (D4.out _ _ H4.out).mono ?_
      rintro r W9 ⟨rfl, h9⟩
      have H9 := Lib.hid h9
      obtain ⟨d9, rfl⟩ := h9.nw
      clear h9 H4
      go_wp2_with fail
      refine (D5.out _ _ H9.out).mono ?_
      rintro r W10 ⟨rfl, h10⟩
      have H10 := Lib.hid h10
      obtain ⟨d10, rfl⟩ := h10.nw
      clear h10 H9
      go_wp2_with fail
      refine (D6.out _ _ H10.out).mono ?_
      rintro r W11 ⟨rfl, h11⟩
      have H11 := Lib.hid h11
      obtain ⟨d11, rfl⟩ := h11.nw
      clear h11 H10
      have hI := iter_Lw (i := 0) H11.out rfl 0
      rw [i7E] at hI
      have HI := Lib.hid hI
      clear hI
      go_wp2_with fail
      refine HI.out.mono ?_
      rintro r W12 ⟨rfl, hn12⟩
      have h12 := H11.out.grow hn12
      have H12 := Lib.hid h12
      obtain ⟨d12, rfl⟩ := h12.nw
      have q0 : (w.ext none d12).cell? ⟨g, 0, none⟩ = some (.int .u64 8) := h12.cell (List.mem_cons_self ..) 0
      have q1 : (w.ext none d12).cell? ⟨g, 1, none⟩ = some (.int .u64 9) := h12.cell (List.mem_cons_self ..) 1
      have z0 : (w.ext none d12).frozen? ⟨g, 0, none⟩ = false := Lib.frozen_of_heap (h12.block (List.mem_cons_self ..)) 0
      have z1 : (w.ext none d12).frozen? ⟨g, 1, none⟩ = false := Lib.frozen_of_heap (h12.block (List.mem_cons_self ..)) 1
      haveI : In g (w.ext none d12) := ⟨World.block_lt_of_cell? _ _ q0⟩
      clear h12 hn12 HI H11
      go_wp2_with fail
      obtain ⟨Ws, hWs⟩ : ∃ W, W = ((w.ext none d12).setCell ⟨g, 0, none⟩ (.int .u64 0)).setCell ⟨g, 1, none⟩ (.int .u64 0) := ⟨_, rfl⟩
      have hs := Lw.wrote (W' := Ws) H12.out (by rw [hWs]; exact (Chg.set1 _ _ _ _).set2 _ _) HGW.out (by intro x hx; simp at hx; rcases hx with rfl | rfl <;> (intro h9; simp only at h9; omega))
      have HS := Lib.hid hs
      rw [← hWs]
      clear hWs H12 q0 q1 z0 z1
      obtain ⟨d13, rfl⟩ := hs.nw
      clear hs
      have hS0 := fun W (hW : Nw (w.ext none d13) W) => sess_Lw (i := 0) (HS.out.grow hW) rfl 0
      have hS1 := fun W (hW : Nw (w.ext none d13) W) => sess_Lw (i := 0) (HS.out.grow hW) rfl 1
      rw [t0E] at hS0
      rw [t1E] at hS1
      have S0 := Lib.hid hS0
      have S1 := Lib.hid hS1
      clear hS0 hS1
      refine (S0.out _ ((by repeat (first | exact Xt.Nw.refl _ | refine Xt.Nw.drew ?_ | refine Xt.Nw.drewN ?_ _ | refine Xt.Nw.alloc ?_ _ | refine Xt.Nw.joined ?_ | refine Xt.Nw.drewd ?_ | refine Xt.Nw.drewdN ?_ | refine Xt.Nw.ext ?_ | refine Xt.Nw.ext_some ?_ (by assumption) | refine Xt.Nw.setCell ?_ (by simp [go_sem] <;> omega) _)))).mono ?_
      rintro r W13 ⟨rfl, d14, rfl⟩
      go_wp2_with fail
      refine (S1.out _ ((by repeat (first | exact Xt.Nw.refl _ | refine Xt.Nw.drew ?_ | refine Xt.Nw.drewN ?_ _ | refine Xt.Nw.alloc ?_ _ | refine Xt.Nw.joined ?_ | refine Xt.Nw.drewd ?_ | refine Xt.Nw.drewdN ?_ | refine Xt.Nw.ext ?_ | refine Xt.Nw.ext_some ?_ (by assumption) | refine Xt.Nw.setCell ?_ (by simp [go_sem] <;> omega) _)))).mono ?_
      rintro r W14 ⟨rfl, d15, rfl⟩
      have HA7 := Lib.hid (HS.out.grow ((by repeat (first | exact Xt.Nw.refl _ | refine Xt.Nw.drew ?_ | refine Xt.Nw.drewN ?_ _ | refine Xt.Nw.alloc ?_ _ | refine Xt.Nw.joined ?_ | refine Xt.Nw.drewd ?_ | refine Xt.Nw.drewdN ?_ | refine Xt.Nw.ext ?_ | refine Xt.Nw.ext_some ?_ (by assumption) | refine Xt.Nw.setCell ?_ (by simp [go_sem] <;> omega) _)) : Nw (w.ext none d13) (((w.ext none d13).ext none d14).ext none d15)))
      go_wp2_with fail
      refine (D7.out _ _ HA7.out).mono ?_
      rintro r WA7 ⟨rfl, hA7⟩
      have HA8 := Lib.hid hA7
      obtain ⟨dA7, rfl⟩ := hA7.nw
      clear hA7
      go_wp2_with fail
      refine (D8.out _ _ HA8.out).mono ?_
      rintro r WA8 ⟨rfl, hA8⟩
      have HA9 := Lib.hid hA8
      obtain ⟨dA8, rfl⟩ := hA8.nw
      clear hA8
      go_wp2_with fail
      refine (D9.out _ _ HA9.out).mono ?_
      rintro r WA9 ⟨rfl, hA9⟩
      have HA10 := Lib.hid hA9
      obtain ⟨dA9, rfl⟩ := hA9.nw
      clear hA9
      go_wp2_with fail
      refine (D10.out _ _ HA10.out).mono ?_
      rintro r WA10 ⟨rfl, hA10⟩
      have HA11 := Lib.hid hA10
      obtain ⟨dA10, rfl⟩ := hA10.nw
      clear hA10
      go_wp2_with fail
      refine (D11.out _ _ HA11.out).mono ?_
      rintro r WA11 ⟨rfl, hA11⟩
      have HA12 := Lib.hid hA11
      obtain ⟨dA11, rfl⟩ := hA11.nw
      clear hA11
      go_wp2_with fail
      refine (D12.out _ _ HA12.out).mono ?_
      rintro r WA12 ⟨rfl, hA12⟩
      have HA13 := Lib.hid hA12
      obtain ⟨dA12, rfl⟩ := hA12.nw
      clear hA12
      have HZ := HA13
      have y0 : (w.ext none dA12).cell? ⟨g + 1, 0, none⟩ = some (.int .u8 12) := HZ.out.cell (List.mem_cons_self ..) 0
      have y1 : (w.ext none dA12).cell? ⟨g + 1, 1, none⟩ = some (.int .u64 0) := HZ.out.cell (List.mem_cons_self ..) 1
      have y2 : (w.ext none dA12).cell? ⟨g + 1, 2, none⟩ = some (.int .u64 0) := HZ.out.cell (List.mem_cons_self ..) 2
      have y3 : (w.ext none dA12).cell? ⟨g + 1, 3, none⟩ = some (.int .u64 0) := HZ.out.cell (List.mem_cons_self ..) 3
      have y4 : (w.ext none dA12).cell? ⟨g + 1, 4, none⟩ = some (.int .u64 0) := HZ.out.cell (List.mem_cons_self ..) 4
      have y5 : (w.ext none dA12).cell? ⟨g + 1, 5, none⟩ = some (.int .u64 0) := HZ.out.cell (List.mem_cons_self ..) 5
      have y6 : (w.ext none dA12).cell? ⟨g + 1, 6, none⟩ = some (.int .u64 0) := HZ.out.cell (List.mem_cons_self ..) 6
      have x0 : (w.ext none dA12).cell? ⟨g + 1 + 1, 0, none⟩ = some (.int .i64 14) := HZ.out.cell (List.mem_cons_of_mem _ (List.mem_cons_self ..)) 0
      have x1 : (w.ext none dA12).cell? ⟨g + 1 + 1, 1, none⟩ = some (.bool false) := HZ.out.cell (List.mem_cons_of_mem _ (List.mem_cons_self ..)) 1
      have x2 : (w.ext none dA12).cell? ⟨g + 1 + 1, 2, none⟩ = some (.int .u64 0) := HZ.out.cell (List.mem_cons_of_mem _ (List.mem_cons_self ..)) 2
      have x3 : (w.ext none dA12).cell? ⟨g + 1 + 1, 3, none⟩ = some (.int .u64 0) := HZ.out.cell (List.mem_cons_of_mem _ (List.mem_cons_self ..)) 3
      have x4 : (w.ext none dA12).cell? ⟨g + 1 + 1, 4, none⟩ = some (.int .i64 0) := HZ.out.cell (List.mem_cons_of_mem _ (List.mem_cons_self ..)) 4
      haveI : In (g + 1) (w.ext none dA12) := ⟨World.block_lt_of_cell? _ _ y0⟩
      haveI : In (g + 1 + 1) (w.ext none dA12) := ⟨World.block_lt_of_cell? _ _ x0⟩
      go_wp2_with fail
      refine (iter_nil 0 _).mono ?_
      rintro r W20 ⟨rfl, d20, rfl⟩
      go_wp2_with fail
      refine Calls.mono (by exact do_nil 0 ⟨12, 0, 0, 0, 0, 0, 0⟩ _) ?_
      rintro r W21 ⟨rfl, d21, rfl⟩
      go_wp2_with fail
      refine Calls.mono (by exact acc_nil 0 ⟨12, 0, 0, 0, 0, 0, 0⟩ ⟨14, false, 0, 0, 0⟩ _) ?_
      rintro r W22 ⟨rfl, d22, rfl⟩
      go_wp2_with fail
      refine (pairs_nil _).mono ?_
      rintro r W23 ⟨rfl, d23, rfl⟩
      go_wp2_with fail
      refine (session_nil 0 _).mono ?_
      rintro r W24 ⟨rfl, d24, rfl⟩
      go_wp2_with fail
      refine (copy_nil _).mono ?_
      rintro r W25 ⟨rfl, d25, rfl⟩
      go_wp2_with fail
      refine (key_nil _).mono ?_
      rintro r W26 ⟨rfl, d26, rfl⟩
      go_wp2_with (go_at_call 9; refine (HKN.out _).mono ?_; rintro e w' ⟨rfl, dW, rfl⟩)
      go_ret
      exact ⟨rfl, (by repeat (first | exact Xt.Nw.refl _ | refine Xt.Nw.drew ?_ | refine Xt.Nw.drewN ?_ _ | refine Xt.Nw.alloc ?_ _ | refine Xt.Nw.joined ?_ | refine Xt.Nw.drewd ?_ | refine Xt.Nw.drewdN ?_ | refine Xt.Nw.ext ?_ | refine Xt.Nw.ext_some ?_ (by assumption) | refine Xt.Nw.setCell ?_ (by simp [go_sem] <;> omega) _))⟩
end Go.Proofs.YtdjcndpnjoahmaaDoor
