import Derived.Test.YtdjcndpnjoahmaaQn
namespace Go.Proofs.Ytdjcndpnjoahmaa
open Go.RowKit Go.Xt
/-! The deeds of a law; played. -/
structure Dd where
  t : Int
  o : Ox
  j : Bool
  by_ : Int
  r : Rs
def dc (d : Dd) : List Value := [.int .i64 d.t, .int .u8 d.o.k, .int .u64 d.o.key, .int .u64 d.o.hi, .int .u64 d.o.val, .int .u64 d.o.old, .int .u64 d.o.by_, .int .u64 d.o.draw, .bool d.j, .int .u8 d.by_, .int .i64 d.r.err, .bool d.r.fd, .int .u64 d.r.key, .int .u64 d.r.val, .int .i64 d.r.cnt]
def dcells (l : List Dd) : List Value := l.flatMap dc
theorem dcells_len (l : List Dd) : (dcells l).length = l.length * 15 := by
  induction l with
  | nil => rfl
  | cons x l ih => rw [dcells, List.flatMap_cons, List.length_append, ← dcells, ih, List.length_cons]; simp [dc]; omega
theorem dcells_get : ∀ (l : List Dd) (i : Nat) (d : Dd), l[i]? = some d → ∀ j v, (dc d)[j]? = some v → (dcells l)[i * 15 + j]? = some v
  | [], i, d, h, _, _, _ => by simp at h
  | y :: l, 0, d, h, j, v, hj => by
    simp at h; subst h
    have hl := (List.getElem?_eq_some_iff.1 hj).1
    rw [dcells, List.flatMap_cons, Nat.zero_mul, Nat.zero_add, List.getElem?_append_left hl]; exact hj
  | y :: l, i + 1, d, h, j, v, hj => by
    have h2 := dcells_get l i d (by simpa using h) j v hj
    rw [dcells, List.flatMap_cons, List.getElem?_append_right (by simp [dc]; omega)]
    have e : (i + 1) * 15 + j - (dc y).length = i * 15 + j := by simp [dc]; omega
    rw [e]; exact h2
/-- A thread reduced to three. -/
def idxI (t : Int) : Int := Int.tmod (Int.tmod t 3 + 3) 3
theorem index_any (t : Int) (w : World) : Calls Try.prog 12 #[.int .i64 t] w fun e w' => e = .returned (.int .i64 (idxI t)) ∧ Nw w w' := by
  have h1 := Int.tmod_lt_of_pos t (by decide : (0 : Int) < 3)
  have h2 := Int.lt_tmod_of_pos t (by decide : (0 : Int) < 3)
  have h3 := Int.tmod_lt_of_pos (Int.tmod t 3 + 3) (by decide : (0 : Int) < 3)
  have h4 := Int.lt_tmod_of_pos (Int.tmod t 3 + 3) (by decide : (0 : Int) < 3)
  have w1 : IntKind.i64.wrap (Int.tmod t 3) = Int.tmod t 3 := by rw [IntKind.wrap_i64]; omega
  have w2 : IntKind.i64.wrap (Int.tmod t 3 + 3) = Int.tmod t 3 + 3 := by rw [IntKind.wrap_i64]; omega
  have w3 : IntKind.i64.wrap (Int.tmod (Int.tmod t 3 + 3) 3) = Int.tmod (Int.tmod t 3 + 3) 3 := by rw [IntKind.wrap_i64]; omega
  unfold idxI
  clear h1 h2 h3 h4
  go_enter Try.func12, Try.ntmps12
  go_wp2
  go_ret
  exact ⟨rfl, (by repeat (first | exact Xt.Nw.refl _ | refine Xt.Nw.drew ?_ | refine Xt.Nw.drewN ?_ _ | refine Xt.Nw.alloc ?_ _ | refine Xt.Nw.joined ?_ | refine Xt.Nw.drewd ?_ | refine Xt.Nw.drewdN ?_ | refine Xt.Nw.ext ?_ | refine Xt.Nw.ext_some ?_ (by assumption) | refine Xt.Nw.setCell ?_ (by simp [go_sem] <;> omega) _))⟩
theorem pl_1 : doM ⟨2, [], List.replicate 3 Th0⟩ 0 oOpen = (r0, ⟨2, [], [⟨false, false, 0, 0, true⟩, Th0, Th0]⟩) := by rfl
set_option maxRecDepth 20000 in
set_option maxHeartbeats 8000000 in
theorem played_M (A : Option Addr) (n c : Nat) (ds : List Dd) (w : World) (hr : Rd w 15 A n (dcells ds)) (hn : n ≤ 80) (hw : ∀ d ∈ ds, d.o.Wf) :
    Calls Try.prog 5 #[.slice A n c] w fun e w' => ∃ gm s, e = .returned (.pointer (some ⟨gm, 0, none⟩)) ∧ LS w gm s 100 w' ∧ s.th.length = 3 := by
  have HD := Lib.hid (fun (W : World) gm s N (h : LS w gm s N W) (hN : N ≤ 500000) (t : Int) (o : Ox) (hw : o.Wf) => do_LS h hN t o hw)
  unfold opV resV at HD
  have HRD := Lib.hid hr
  have HWF := Lib.hid hw
  have hlen : ds.length = n := by have := hr.1; rw [dcells_len] at this; omega
  have HLEN := Lib.hid hlen
  have HNN := Lib.hid hn
  clear hr hw hlen hn
  go_enter Try.func5, Try.ntmps5
  go_wp2_with fail
  refine (fixed_any 3 2 _).mono ?_
  rintro e w' ⟨rfl, dF, rfl⟩
  go_wp2_with fail
  refine (new_LS 3 2 w _ ((by repeat (first | exact Xt.Nw.refl _ | refine Xt.Nw.drew ?_ | refine Xt.Nw.drewN ?_ _ | refine Xt.Nw.alloc ?_ _ | refine Xt.Nw.joined ?_ | refine Xt.Nw.drewd ?_ | refine Xt.Nw.drewdN ?_ | refine Xt.Nw.ext ?_ | refine Xt.Nw.ext_some ?_ (by assumption) | refine Xt.Nw.setCell ?_ (by simp [go_sem] <;> omega) _))) (by omega) (by omega)).mono ?_
  rintro e W3 ⟨gm, rfl, h3⟩
  have H3 := Lib.hid h3
  clear h3
  go_wp2_with fail
  have c4 := HD.out W3 gm _ 0 H3.out (by omega) 0 oOpen (by constructor <;> simp)
  rw [pl_1] at c4
  refine c4.mono ?_
  rintro e W4 ⟨rfl, h4⟩
  have H4 := Lib.hid h4
  clear h4 c4
  go_wp2_with fail
  go_loopw [5] (fun a wr => ∃ (i : Nat) (s : Md), i ≤ n ∧ a = .int .i64 i ∧ Hid (LS w gm s (i + 1) wr ∧ s.th.length = 3)) (fun a _ => n - (intOf a).toNat)
  case atStart => exact ⟨0, _, Nat.zero_le _, rfl, Lib.hid ⟨H4.out, rfl⟩⟩
  case round =>
    obtain ⟨i, s, hi, rfl, HL⟩ := hrel
    by_cases hin : i < n
    · obtain ⟨gA, oA, rfl, hgA, hcA⟩ := HRD.out.2 (by omega)
      obtain ⟨d, hd⟩ : ∃ d, ds[i]? = some d := ⟨_, List.getElem?_eq_getElem (by have := HLEN.out; omega)⟩
      have hwf := HWF.out d (List.mem_of_getElem? hd)
      have hg := dcells_get ds i d hd
      have HWD := Lib.hid hwf
      have x0 : w.cell? ⟨gA, oA + i * 15, none⟩ = some (.int .i64 d.t) := by
        have := hcA _ _ (hg 0 _ rfl)
        rw [← Nat.add_assoc] at this
        exact this
      have x1 : w.cell? ⟨gA, oA + i * 15 + 1, none⟩ = some (.int .u8 d.o.k) := by
        have := hcA _ _ (hg 1 _ rfl)
        rw [← Nat.add_assoc] at this
        exact this
      have x2 : w.cell? ⟨gA, oA + i * 15 + 1 + 1, none⟩ = some (.int .u64 d.o.key) := by
        have := hcA _ _ (hg 2 _ rfl)
        rw [← Nat.add_assoc] at this
        exact this
      have x3 : w.cell? ⟨gA, oA + i * 15 + 1 + 2, none⟩ = some (.int .u64 d.o.hi) := by
        have := hcA _ _ (hg 3 _ rfl)
        rw [← Nat.add_assoc] at this
        exact this
      have x4 : w.cell? ⟨gA, oA + i * 15 + 1 + 3, none⟩ = some (.int .u64 d.o.val) := by
        have := hcA _ _ (hg 4 _ rfl)
        rw [← Nat.add_assoc] at this
        exact this
      have x5 : w.cell? ⟨gA, oA + i * 15 + 1 + 4, none⟩ = some (.int .u64 d.o.old) := by
        have := hcA _ _ (hg 5 _ rfl)
        rw [← Nat.add_assoc] at this
        exact this
      have x6 : w.cell? ⟨gA, oA + i * 15 + 1 + 5, none⟩ = some (.int .u64 d.o.by_) := by
        have := hcA _ _ (hg 6 _ rfl)
        rw [← Nat.add_assoc] at this
        exact this
      have x7 : w.cell? ⟨gA, oA + i * 15 + 1 + 6, none⟩ = some (.int .u64 d.o.draw) := by
        have := hcA _ _ (hg 7 _ rfl)
        rw [← Nat.add_assoc] at this
        exact this
      obtain ⟨⟨dt, ⟨dk, da, db, dC, dd, de, df⟩, dj, dby, dr⟩, rfl⟩ : ∃ d', d = d' := ⟨d, rfl⟩
      simp only at x0 x1 x2 x3 x4 x5 x6 x7
      have hw0 := HL.out.1.nw
      haveI : In gA w := ⟨hgA⟩
      haveI : In gA wr := ⟨Nat.lt_of_lt_of_le hgA hw0.grown.size⟩
      haveI : In gm wr := ⟨HL.out.1.im⟩
      have i1 : (i : Int) < (n : Int) := by omega
      have i0 : (0 : Int) ≤ (i : Int) := by omega
      have i2 : i < 1000 := by have := HNN.out; omega
      have HIN := Lib.hid hin
      clear hd hg hcA hwf
      go_upto_region 7 with (fail)
      go_region_held3 (fun w' => w'.cell? ⟨gA, oA + i * 15, none⟩ = some (.int .i64 dt) ∧ w'.cell? ⟨gA, oA + i * 15 + 1, none⟩ = some (.int .u8 dk) ∧ w'.cell? ⟨gA, oA + i * 15 + 1 + 1, none⟩ = some (.int .u64 da) ∧ w'.cell? ⟨gA, oA + i * 15 + 1 + 2, none⟩ = some (.int .u64 db) ∧ w'.cell? ⟨gA, oA + i * 15 + 1 + 3, none⟩ = some (.int .u64 dC) ∧ w'.cell? ⟨gA, oA + i * 15 + 1 + 4, none⟩ = some (.int .u64 dd) ∧ w'.cell? ⟨gA, oA + i * 15 + 1 + 5, none⟩ = some (.int .u64 de) ∧ w'.cell? ⟨gA, oA + i * 15 + 1 + 6, none⟩ = some (.int .u64 df)) (first | exact ⟨cell_nw x0 (Xt.Nw.drew hw0), cell_nw x1 (Xt.Nw.drew hw0), cell_nw x2 (Xt.Nw.drew hw0), cell_nw x3 (Xt.Nw.drew hw0), cell_nw x4 (Xt.Nw.drew hw0), cell_nw x5 (Xt.Nw.drew hw0), cell_nw x6 (Xt.Nw.drew hw0), cell_nw x7 (Xt.Nw.drew hw0)⟩ | exact ⟨cell_nw x0 hwk, cell_nw x1 hwk, cell_nw x2 hwk, cell_nw x3 hwk, cell_nw x4 hwk, cell_nw x5 hwk, cell_nw x6 hwk, cell_nw x7 hwk⟩ | exact ⟨cell_nw x0 hls.nw, cell_nw x1 hls.nw, cell_nw x2 hls.nw, cell_nw x3 hls.nw, cell_nw x4 hls.nw, cell_nw x5 hls.nw, cell_nw x6 hls.nw, cell_nw x7 hls.nw⟩)
        ((first | (go_at_call 12; refine (index_any _ _).mono ?_; rintro r Wk ⟨rfl, hnk0⟩; have hwk : Nw w Wk := (Nw.drew hw0).trans hnk0) | (go_at_call 6; refine (HD.out _ gm s (i + 1) (LS.grow HL.out.1 ((Nw.drew (Nw.refl wr)).trans hnk0)) (by have := HNN.out; omega) (idxI dt) ⟨dk, da, db, dC, dd, de, df⟩ HWD.out).mono ?_; rintro r W5 ⟨rfl, hls⟩)))
      have HLS := Lib.hid (⟨hls, (doM_len s (idxI dt) ⟨dk, da, db, dC, dd, de, df⟩).1.trans HL.out.2⟩ : LS w gm (doM s (idxI dt) ⟨dk, da, db, dC, dd, de, df⟩).2 (i + 1 + 1) W5 ∧ (doM s (idxI dt) ⟨dk, da, db, dC, dd, de, df⟩).2.th.length = 3)
      clear hls hwk hnk0
      go_wp2
      exact ⟨⟨i + 1, _, by have := HIN.out; omega, by go_num, HLS⟩, by have := HIN.out; simp [intOf]; omega⟩
    · have i1 : ¬ (i : Int) < (n : Int) := by omega
      go_wp2
      exact bodyPost_ret (results_tmp rfl _ _ _) rfl ⟨gm, rfl, s, (by
        obtain ⟨p, h1, h2, h3, h4, h5⟩ := HL.out.1
        exact ⟨p, h1, h2, h3.mono (by have := HNN.out; omega), h4, h5⟩), HL.out.2⟩
end Go.Proofs.Ytdjcndpnjoahmaa
