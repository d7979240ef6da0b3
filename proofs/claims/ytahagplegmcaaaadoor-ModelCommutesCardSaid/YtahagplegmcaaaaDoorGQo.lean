import Derived.Test.YtahagplegmcaaaaDoorGQl
import Derived.Deep.AppendSrc
set_option linter.unusedVariables false
set_option linter.unusedSimpArgs false
set_option linter.unnecessarySimpa false
namespace Go.Proofs.YtahagplegmcaaaaDoor
open Go.RowKit Go.Xt
/-! The deeds of a law; played. -/
structure Dd where
  t : Int
  o : Ox
  j : Bool
  by_ : Int
  r : Rs
def dc (d : Dd) : List Value := [.int .i64 d.t, .int .u8 d.o.k, .int .u64 d.o.key, .int .u64 d.o.hi, .int .u64 d.o.val, .int .u64 d.o.old, .int .u64 d.o.by_, .int .u64 d.o.draw, .bool d.j, .int .u8 d.by_, .int .i64 d.r.err, .bool d.r.fd, .int .u64 d.r.key, .int .u64 d.r.val, .int .i64 d.r.cnt]
def dcells (l : List Dd) : List Value := l.flatMap dc
theorem dcells_len (l : List Dd) : (dcells l).length = l.length * 15 := by
  induction l with
  | nil => rfl
  | cons x l ih => rw [dcells, List.flatMap_cons, List.length_append, ← dcells, ih, List.length_cons]; simp [dc]; omega
theorem dcells_get : ∀ (l : List Dd) (i : Nat) (d : Dd), l[i]? = some d → ∀ j v, (dc d)[j]? = some v → (dcells l)[i * 15 + j]? = some v
  | [], i, d, h, _, _, _ => by simp at h
  | y :: l, 0, d, h, j, v, hj => by
    simp at h; subst h
    have hl := (List.getElem?_eq_some_iff.1 hj).1
    rw [dcells, List.flatMap_cons, Nat.zero_mul, Nat.zero_add, List.getElem?_append_left hl]; exact hj
  | y :: l, i + 1, d, h, j, v, hj => by
    have h2 := dcells_get l i d (by simpa using h) j v hj
    rw [dcells, List.flatMap_cons, List.getElem?_append_right (by simp [dc]; omega)]
    have e : (i + 1) * 15 + j - (dc y).length = i * 15 + j := by simp [dc]; omega
    rw [e]; exact h2
/-- A thread reduced to three. -/
def idxI (t : Int) : Int := Int.tmod (Int.tmod t 3 + 3) 3
theorem index_any (t : Int) (w : World) : Calls Tryd.prog 4 #[.int .i64 t] w fun e w' => e = .returned (.int .i64 (idxI t)) ∧ Nw w w' := by
  have h1 := Int.tmod_lt_of_pos t (by decide : (0 : Int) < 3)
  have h2 := Int.lt_tmod_of_pos t (by decide : (0 : Int) < 3)
  have h3 := Int.tmod_lt_of_pos (Int.tmod t 3 + 3) (by decide : (0 : Int) < 3)
  have h4 := Int.lt_tmod_of_pos (Int.tmod t 3 + 3) (by decide : (0 : Int) < 3)
  have w1 : IntKind.i64.wrap (Int.tmod t 3) = Int.tmod t 3 := by rw [IntKind.wrap_i64]; omega
  have w2 : IntKind.i64.wrap (Int.tmod t 3 + 3) = Int.tmod t 3 + 3 := by rw [IntKind.wrap_i64]; omega
  have w3 : IntKind.i64.wrap (Int.tmod (Int.tmod t 3 + 3) 3) = Int.tmod (Int.tmod t 3 + 3) 3 := by rw [IntKind.wrap_i64]; omega
  unfold idxI
  clear h1 h2 h3 h4
  go_enter Tryd.func4, Tryd.ntmps4
  go_wp2
  go_ret
  exact ⟨rfl, (by repeat (first | exact Xt.Nw.refl _ | refine Xt.Nw.drew ?_ | refine Xt.Nw.drewN ?_ _ | refine Xt.Nw.alloc ?_ _ | refine Xt.Nw.joined ?_ | refine Xt.Nw.drewd ?_ | refine Xt.Nw.drewdN ?_ | refine Xt.Nw.ext ?_ | refine Xt.Nw.ext_some ?_ (by assumption) | refine Xt.Nw.setCell ?_ (by simp [go_sem] <;> omega) _))⟩
theorem pl_1 : doM ⟨2, [], List.replicate 3 Th0⟩ 0 oOpen = (r0, ⟨2, [], [⟨false, false, 0, 0, true⟩, Th0, Th0]⟩) := by rfl
set_option maxRecDepth 20000 in
set_option maxHeartbeats 8000000 in
theorem played_M (A : Option Addr) (n c : Nat) (ds : List Dd) (w : World) (hr : Rd w 15 A n (dcells ds)) (hn : n ≤ 80) (hw : ∀ d ∈ ds, d.o.Wf) :
    Calls Tryd.prog 7 #[.slice A n c] w fun e w' => ∃ gm s, e = .returned (.pointer (some ⟨gm, 0, none⟩)) ∧ LS w gm s 100 w' ∧ s.th.length = 3 := by
  have HD := Lib.hid (fun (W : World) gm s N (h : LS w gm s N W) (hN : N ≤ 500000) (t : Int) (o : Ox) (hw : o.Wf) => do_LS h hN t o hw)
  unfold opV resV at HD
  have HRD := Lib.hid hr
  have HWF := Lib.hid hw
  have hlen : ds.length = n := by have := hr.1; rw [dcells_len] at this; omega
  have HLEN := Lib.hid hlen
  have HNN := Lib.hid hn
  clear hr hw hlen hn
  go_enter Tryd.func7, Tryd.ntmps7
  go_wp2_with fail
  refine (fixed_any 3 2 _).mono ?_
  rintro e w' ⟨rfl, dF, rfl⟩
  go_wp2_with fail
  refine (new_LS 3 2 w _ ((by repeat (first | exact Xt.Nw.refl _ | refine Xt.Nw.drew ?_ | refine Xt.Nw.drewN ?_ _ | refine Xt.Nw.alloc ?_ _ | refine Xt.Nw.joined ?_ | refine Xt.Nw.drewd ?_ | refine Xt.Nw.drewdN ?_ | refine Xt.Nw.ext ?_ | refine Xt.Nw.ext_some ?_ (by assumption) | refine Xt.Nw.setCell ?_ (by simp [go_sem] <;> omega) _))) (by omega) (by omega)).mono ?_
  rintro e W3 ⟨gm, rfl, h3⟩
  have H3 := Lib.hid h3
  clear h3
  go_wp2_with fail
  have c4 := HD.out W3 gm _ 0 H3.out (by omega) 0 oOpen (by constructor <;> simp)
  rw [pl_1] at c4
  refine c4.mono ?_
  rintro e W4 ⟨rfl, h4⟩
  have H4 := Lib.hid h4
  clear h4 c4
  go_wp2_with fail
  go_loopw [5] (fun a wr => ∃ (i : Nat) (s : Md), i ≤ n ∧ a = .int .i64 i ∧ Hid (LS w gm s (i + 1) wr ∧ s.th.length = 3)) (fun a _ => n - (intOf a).toNat)
  case atStart => exact ⟨0, _, Nat.zero_le _, rfl, Lib.hid ⟨H4.out, rfl⟩⟩
  case round =>
    obtain ⟨i, s, hi, rfl, HL⟩ := hrel
    by_cases hin : i < n
    · obtain ⟨gA, oA, rfl, hgA, hcA⟩ := HRD.out.2 (by omega)
      obtain ⟨d, hd⟩ : ∃ d, ds[i]? = some d := ⟨_, List.getElem?_eq_getElem (by have := HLEN.out; omega)⟩
      have hwf := HWF.out d (List.mem_of_getElem? hd)
      have hg := dcells_get ds i d hd
      have HWD := Lib.hid hwf
      have x0 : w.cell? ⟨gA, oA + i * 15, none⟩ = some (.int .i64 d.t) := by
        have := hcA _ _ (hg 0 _ rfl)
        rw [← Nat.add_assoc] at this
        exact this
      have x1 : w.cell? ⟨gA, oA + i * 15 + 1, none⟩ = some (.int .u8 d.o.k) := by
        have := hcA _ _ (hg 1 _ rfl)
        rw [← Nat.add_assoc] at this
        exact this
      have x2 : w.cell? ⟨gA, oA + i * 15 + 1 + 1, none⟩ = some (.int .u64 d.o.key) := by
        have := hcA _ _ (hg 2 _ rfl)
        rw [← Nat.add_assoc] at this
        exact this
      have x3 : w.cell? ⟨gA, oA + i * 15 + 1 + 2, none⟩ = some (.int .u64 d.o.hi) := by
        have := hcA _ _ (hg 3 _ rfl)
        rw [← Nat.add_assoc] at this
        exact this
      have x4 : w.cell? ⟨gA, oA + i * 15 + 1 + 3, none⟩ = some (.int .u64 d.o.val) := by
        have := hcA _ _ (hg 4 _ rfl)
        rw [← Nat.add_assoc] at this
        exact this
      have x5 : w.cell? ⟨gA, oA + i * 15 + 1 + 4, none⟩ = some (.int .u64 d.o.old) := by
        have := hcA _ _ (hg 5 _ rfl)
        rw [← Nat.add_assoc] at this
        exact this
      have x6 : w.cell? ⟨gA, oA + i * 15 + 1 + 5, none⟩ = some (.int .u64 d.o.by_) := by
        have := hcA _ _ (hg 6 _ rfl)
        rw [← Nat.add_assoc] at this
        exact this
      have x7 : w.cell? ⟨gA, oA + i * 15 + 1 + 6, none⟩ = some (.int .u64 d.o.draw) := by
        have := hcA _ _ (hg 7 _ rfl)
        rw [← Nat.add_assoc] at this
        exact this
      obtain ⟨⟨dt, ⟨dk, da, db, dC, dd, de, df⟩, dj, dby, dr⟩, rfl⟩ : ∃ d', d = d' := ⟨d, rfl⟩
      simp only at x0 x1 x2 x3 x4 x5 x6 x7
      have hw0 := HL.out.1.nw
      haveI : In gA w := ⟨hgA⟩
      haveI : In gA wr := ⟨Nat.lt_of_lt_of_le hgA hw0.grown.size⟩
      haveI : In gm wr := ⟨HL.out.1.im⟩
      have i1 : (i : Int) < (n : Int) := by omega
      have i0 : (0 : Int) ≤ (i : Int) := by omega
      have i2 : i < 1000 := by have := HNN.out; omega
      have HIN := Lib.hid hin
      clear hd hg hcA hwf
      go_upto_region 7 with (fail)
      go_region_held3 (fun w' => w'.cell? ⟨gA, oA + i * 15, none⟩ = some (.int .i64 dt) ∧ w'.cell? ⟨gA, oA + i * 15 + 1, none⟩ = some (.int .u8 dk) ∧ w'.cell? ⟨gA, oA + i * 15 + 1 + 1, none⟩ = some (.int .u64 da) ∧ w'.cell? ⟨gA, oA + i * 15 + 1 + 2, none⟩ = some (.int .u64 db) ∧ w'.cell? ⟨gA, oA + i * 15 + 1 + 3, none⟩ = some (.int .u64 dC) ∧ w'.cell? ⟨gA, oA + i * 15 + 1 + 4, none⟩ = some (.int .u64 dd) ∧ w'.cell? ⟨gA, oA + i * 15 + 1 + 5, none⟩ = some (.int .u64 de) ∧ w'.cell? ⟨gA, oA + i * 15 + 1 + 6, none⟩ = some (.int .u64 df)) (first | exact ⟨cell_nw x0 (Xt.Nw.drew hw0), cell_nw x1 (Xt.Nw.drew hw0), cell_nw x2 (Xt.Nw.drew hw0), cell_nw x3 (Xt.Nw.drew hw0), cell_nw x4 (Xt.Nw.drew hw0), cell_nw x5 (Xt.Nw.drew hw0), cell_nw x6 (Xt.Nw.drew hw0), cell_nw x7 (Xt.Nw.drew hw0)⟩ | exact ⟨cell_nw x0 hwk, cell_nw x1 hwk, cell_nw x2 hwk, cell_nw x3 hwk, cell_nw x4 hwk, cell_nw x5 hwk, cell_nw x6 hwk, cell_nw x7 hwk⟩ | exact ⟨cell_nw x0 hls.nw, cell_nw x1 hls.nw, cell_nw x2 hls.nw, cell_nw x3 hls.nw, cell_nw x4 hls.nw, cell_nw x5 hls.nw, cell_nw x6 hls.nw, cell_nw x7 hls.nw⟩)
        ((first | (go_at_call 4; refine (index_any _ _).mono ?_; rintro r Wk ⟨rfl, hnk0⟩; have hwk : Nw w Wk := (Nw.drew hw0).trans hnk0) | (go_at_call 9; refine (HD.out _ gm s (i + 1) (LS.grow HL.out.1 ((Nw.drew (Nw.refl wr)).trans hnk0)) (by have := HNN.out; omega) (idxI dt) ⟨dk, da, db, dC, dd, de, df⟩ HWD.out).mono ?_; rintro r W5 ⟨rfl, hls⟩)))
      have HLS := Lib.hid (⟨hls, (doM_len s (idxI dt) ⟨dk, da, db, dC, dd, de, df⟩).1.trans HL.out.2⟩ : LS w gm (doM s (idxI dt) ⟨dk, da, db, dC, dd, de, df⟩).2 (i + 1 + 1) W5 ∧ (doM s (idxI dt) ⟨dk, da, db, dC, dd, de, df⟩).2.th.length = 3)
      clear hls hwk hnk0
      go_wp2
      exact ⟨⟨i + 1, _, by have := HIN.out; omega, by go_num, HLS⟩, by have := HIN.out; simp [intOf]; omega⟩
    · have i1 : ¬ (i : Int) < (n : Int) := by omega
      go_wp2
      exact bodyPost_ret (results_tmp rfl _ _ _) rfl ⟨gm, rfl, s, (by
        obtain ⟨p, h1, h2, h3, h4, h5⟩ := HL.out.1
        exact ⟨p, h1, h2, h3.mono (by have := HNN.out; omega), h4, h5⟩), HL.out.2⟩
end Go.Proofs.YtahagplegmcaaaaDoor
namespace Go.Proofs.YtahagplegmcaaaaDoor
open Go.RowKit Go.Xt
/-! A model of the law's own beside a row of pairs. -/
def LSR (w : World) (gm : Nat) (s : Md) (N : Nat) (W : World) (v : Value) (l : List (Int × Int)) : Prop :=
  ∃ p : Pl, p.gm = gm ∧ MAt W p s ∧ s.Ok N ∧ (∀ g ∈ p.foot, w.heap.size ≤ g) ∧ Nw w W ∧ W.ownsRow 0 78 2 v l.length (pcells l) ∧ ∀ b, v.ownBlock = some b → b ∉ p.foot
theorem LSR.ls {w W : World} {gm : Nat} {s : Md} {N : Nat} {v : Value} {l : List (Int × Int)} (h : LSR w gm s N W v l) : LS w gm s N W := by
  obtain ⟨p, h1, h2, h3, h4, h5, _, _⟩ := h; exact ⟨p, h1, h2, h3, h4, h5⟩
theorem LSR.row {w W : World} {gm : Nat} {s : Md} {N : Nat} {v : Value} {l : List (Int × Int)} (h : LSR w gm s N W v l) : W.ownsRow 0 78 2 v l.length (pcells l) := by
  obtain ⟨p, h1, h2, h3, h4, h5, h6, _⟩ := h; exact h6
theorem LSR.grow {w W W' : World} {gm : Nat} {s : Md} {N : Nat} {v : Value} {l : List (Int × Int)} (h : LSR w gm s N W v l) (hn : Nw W W') : LSR w gm s N W' v l := by
  obtain ⟨p, h1, h2, h3, h4, h5, h6, h7⟩ := h
  exact ⟨p, h1, h2.nw hn, h3, h4, h5.trans hn, own_nw h6 hn, h7⟩
/-- Do, beside a row and any block that was there. -/
theorem do_LSR {w W W' : World} {gm : Nat} {s : Md} {N : Nat} {v : Value} {l : List (Int × Int)} (h : LSR w gm s N W v l) (hn : Nw W W') (hN : N ≤ 500000) (t : Int) (o : Ox) (hw : o.Wf) :
    Calls Tryd.prog 9 #[.pointer (some ⟨gm, 0, none⟩), .int .i64 t, opV o] W' fun e W2 => e = .returned (resV (doM s t o).1) ∧ LSR w gm (doM s t o).2 (N + 1) W2 v l ∧ ∃ X, Chg X W' W2 ∧ ∀ g ∈ X, g < W.heap.size := by
  obtain ⟨p, rfl, h2, h3, h4, h5, h6, h7⟩ := h
  refine (do_any W' p s (h2.nw hn) h3 hN t o hw).mono ?_
  rintro e W2 ⟨rfl, p', hu⟩
  have h6' := own_nw h6 hn
  refine ⟨rfl, ⟨p', hu.gm, hu.at', doM_ok h3 t hw, fun g hg => ?_, nw_chg2 (h5.trans hn) hu.chg h4, own_chg h6' hu.chg h7, fun b hb hx => ?_⟩, p.foot, hu.chg, fun g hg => h2.lt hg⟩
  · rcases hu.mv g hg with h | h
    · exact h4 g h
    · exact Nat.le_trans (h5.trans hn).grown.size h
  · rcases hu.mv b hx with h | h
    · exact h7 b hb h
    · have := (h6'.lt b hb).2; omega
theorem pairs_LS {w W : World} {gm : Nat} {s : Md} {N : Nat} (h : LS w gm s N W) (hN : N ≤ 500000) :
    Calls Tryd.prog 12 #[.pointer (some ⟨gm, 0, none⟩)] W fun e W' => ∃ v', e = .returned v' ∧ LSR w gm s N W' v' s.l := by
  obtain ⟨p, rfl, h1, h2, h3, h4⟩ := h
  refine (pairs_M W p s h1 (by have := h2.len; omega)).mono ?_
  rintro e W' ⟨v', rfl, hown, hn⟩
  refine ⟨v', rfl, p, rfl, h1.nw hn, h2, h3, h4.trans hn, own_le hown (Nat.zero_le _), fun b hb hx => ?_⟩
  have := (hown.lt b hb).1
  have := h1.lt hx
  omega
set_option maxRecDepth 20000 in
@[go_sem high] theorem eqSpan (a b c d : Int) (w : World) : (Op.equalIn 10000 70 (.agg #[.int .u64 a, .int .u64 b]) (.agg #[.int .u64 c, .int .u64 d])).run Tryd.prog w = .ok (decide (a = c) && decide (b = d)) w := by
  have hS : Tryd.prog.underlying 70 = some (.struct (Tryd.prog.fieldsOf 70)) := by kernel_rfl
  have hp : Tryd.prog.stoodInHeld 70 = false := by kernel_rfl
  rw [show (10000 : Nat) = 9999 + 1 from rfl, run_equalIn_agg w 9999 70 _ _ hS hp]
  simp only [Program.fieldsOf, Tryd.underlying70]
  go_simp
  simp only [ite_ok0, ite_ok]
  simp only [Bool.decide_and]
end Go.Proofs.YtahagplegmcaaaaDoor
namespace Go.Proofs.YtahagplegmcaaaaDoor
open Go.RowKit Go.Xt
/-! Range and Copy of a map; births, gives. -/
/-- The pairs of a range, as a part of the map's row. -/
theorem rd_range {W : World} {gp g c : Nat} {l : List (Int × Int)} (h : OM W gp (.slice (some ⟨g, 0, none⟩) l.length c) l) {lo hi : Int} (hlh : lo ≤ hi) {A : Option Addr} (hA : A = some ⟨g, pos lo l * 2, none⟩ ∨ (inR lo hi l).length = 0) :
    Rd W 2 A (inR lo hi l).length (pcells (inR lo hi l)) := by
  refine ⟨pcells_len _, fun h0 => ?_⟩
  rcases hA with rfl | h1
  · have hle := pos_le_to hlh h.asc
    have hto := posTo_le hi l
    have hil := inR_len hlh h.asc
    have hsp := (split_range hlh h.asc).1
    obtain ⟨R, hR⟩ : ∃ R, R = inR lo hi l := ⟨_, rfl⟩
    rw [← hR] at hil hsp h0 ⊢
    obtain ⟨i, hi'⟩ : ∃ i, i = pos lo l := ⟨_, rfl⟩
    obtain ⟨j, hj'⟩ : ∃ j, j = posTo hi l := ⟨_, rfl⟩
    simp only [← hi', ← hj'] at hle hto hil hsp ⊢
    refine ⟨g, i * 2, rfl, h.rlt rfl, fun q u hu => ?_⟩
    have hq := (List.getElem?_eq_some_iff.1 hu).1
    rw [pcells_len] at hq
    rw [h.row.cellAt _ (by omega)]
    have e1 : pcells l = pcells (l.take i) ++ (pcells R ++ pcells (l.drop j)) := by
      rw [← hsp, ← pcells_app, ← pcells_app]
      congr 1
      have e2 : l.take i = (l.take j).take i := by rw [List.take_take, Nat.min_eq_left hle]
      rw [e2, ← List.append_assoc, List.take_append_drop, List.take_append_drop]
    rw [e1, List.getElem?_append_right (by rw [pcells_len, List.length_take]; omega), pcells_len, List.length_take, Nat.min_eq_left (by omega), show i * 2 + q - i * 2 = q by omega, List.getElem?_append_left (by rw [pcells_len]; omega)]
    exact hu
  · omega
set_option maxRecDepth 20000 in
set_option maxHeartbeats 4000000 in
theorem ocopy_M {w : World} {gp : Nat} {v : Value} {l : List (Int × Int)} (h : OM w gp v l) (hn : l.length ≤ 1000000) :
    Calls Tryd.prog 15 #[.pointer (some ⟨gp, 0, none⟩)] w fun e w' => ∃ gq, e = .returned (.pointer (some ⟨gq, 0, none⟩)) ∧ w.heap.size ≤ gq ∧ (∃ v', OM w' gq v' l ∧ ∀ b, v'.ownBlock = some b → w.heap.size ≤ b) ∧ Nw w w' := by
  have p0 := h.p0
  haveI : In gp w := ⟨h.lt⟩
  have HASC := Lib.hid h.asc
  have fin : ∀ (W : World) (v' : Value), W.ownsRow w.heap.size 78 2 v' l.length (pcells l) → Nw w W → w.heap.size ≤ W.heap.size ∧ (∃ v'', OM (W.alloc (.cells #[v'] 84)) W.heap.size v'' l ∧ ∀ b, v''.ownBlock = some b → w.heap.size ≤ b) ∧ Nw w (W.alloc (.cells #[v'] 84)) := fun W v' ho hw =>
    ⟨hw.grown.size, ⟨v', ⟨by simp [go_sem], own_le (own_nw ho ((Nw.refl W).alloc _)) (Nat.zero_le _), fun e => by have := (ho.lt _ e).2; omega, by simp [go_sem], HASC.out⟩, fun b hb => (ho.lt b hb).1⟩, hw.alloc _⟩
  have FIN := Lib.hid fin
  clear fin
  rcases h.form with ⟨rfl, rfl⟩ | ⟨g, c, rfl, -, -, hin⟩
  · clear h
    go_enter Tryd.func15, Tryd.ntmps15
    go_wp2_with fail
    refine (clone_any none 0 0 [] w ⟨rfl, fun h => by omega⟩ (by omega) (fun _ => ⟨rfl, rfl⟩)).mono ?_
    rintro e W2 ⟨v', rfl, hown, hn2⟩
    have HF := Lib.hid (FIN.out W2 v' hown hn2)
    obtain ⟨A, cC, hvC⟩ : ∃ A cC, v' = .slice A 0 cC := by
      rcases own_forms hown with ⟨rfl, _⟩ | ⟨g, c, rfl, _⟩
      · exact ⟨_, _, rfl⟩
      · exact ⟨_, _, rfl⟩
    subst hvC
    clear hown hn2
    go_wp2
    exact bodyPost_ret (results_tmp rfl _ _ _) rfl ⟨W2.heap.size, rfl, HF.out⟩
  · have HR := Lib.hid (⟨pcells_len l, fun hl => ⟨g, 0, rfl, hin.lt, fun j u hu => by
        have := (List.getElem?_eq_some_iff.1 hu).1
        rw [pcells_len] at this
        rw [Nat.zero_add, h.row.cellAt _ this]; exact hu⟩⟩ : Rd w 2 (some ⟨g, 0, none⟩) l.length (pcells l))
    clear h
    go_enter Tryd.func15, Tryd.ntmps15
    go_wp2_with fail
    refine (clone_any _ l.length c l w HR.out hn (fun h => by cases h)).mono ?_
    rintro e W2 ⟨v', rfl, hown, hn2⟩
    have HF := Lib.hid (FIN.out W2 v' hown hn2)
    obtain ⟨A, cC, hvC⟩ : ∃ A cC, v' = .slice A l.length cC := by
      rcases own_forms hown with ⟨rfl, h0⟩ | ⟨g, c, rfl, _⟩
      · rw [h0]; exact ⟨_, _, rfl⟩
      · exact ⟨_, _, rfl⟩
    subst hvC
    clear hown hn2
    go_wp2
    exact bodyPost_ret (results_tmp rfl _ _ _) rfl ⟨W2.heap.size, rfl, HF.out⟩
end Go.Proofs.YtahagplegmcaaaaDoor
namespace Go.Proofs.YtahagplegmcaaaaDoor
open Go.RowKit Go.Xt
/-! Copy of a model. -/
noncomputable def thCap (W : World) (n : Nat) : Nat := grownCap W (0 + n) 0 74
noncomputable def thArr (W : World) (th : List Th) : Array Value := ([] ++ tcells th).toArray ++ Builtin.zeroCells (Value.agg #[.bool false, .bool false, .int .u64 0, .int .u64 0, .bool false]).cells (thCap W th.length - (0 + th.length))
theorem tcells_one (th : List Th) : ∀ u ∈ tcells th, u.oneCell' = true := by
  intro u hu
  obtain ⟨x, _, hx⟩ := List.mem_flatMap.1 hu
  simp [thc] at hx
  rcases hx with rfl | rfl | rfl | rfl | rfl <;> rfl
theorem run_thcopy (W : World) (gt ct : Nat) (th : List Th) (h : ThR W gt th) (h0 : 0 < th.length) (hn : th.length ≤ 1000) (ty : TypeId) :
    (Builtin.append_ #[53, 53] ty #[.slice none 0 0, .slice (some ⟨gt, 0, none⟩) th.length ct]).run Tryd.prog W = .ok (.slice (some ⟨W.heap.size, 0, none⟩) (0 + th.length) (thCap W th.length)) (W.drew.alloc (.cells (thArr W th) 74)) := by
  obtain ⟨i, hi1, hz0, hz1, hz2⟩ := info_parts thInfo
  obtain ⟨c, h⟩ := h
  have hsrc : Src Tryd.prog i.size 53 (.slice (some ⟨gt, 0, none⟩) th.length ct) th.length (tcells th) W :=
    Src.ofSlice W Tryd.underlying53 ⟨gt, 0, none⟩ th.length ct (tcells th) (by rw [hz1, tcells_len]) (fun j u hu => by
      rw [add_at, Nat.zero_add]
      have := (List.getElem?_eq_some_iff.1 hu).1
      rw [tcells_len] at this
      rw [h.cellAt j this]; exact hu) (tcells_one th)
  exact run_append_grow_src W 53 53 ty 74 i _ Tryd.underlying53 hi1 hz0 none 0 0 [] (run_firstCells_none W.drew i.size 0 0 0) _ th.length (tcells th) hsrc (by omega) (by omega) (growslice_fits (by omega) (by rw [hz2]; omega))
theorem thcopy_row (W : World) (th : List Th) (hn : th.length ≤ 1000) : ThR (W.drew.alloc (.cells (thArr W th) 74)) W.heap.size th := by
  have hge : th.length ≤ thCap W th.length := by have := grownCap_ge W (0 + th.length) 0 74; unfold thCap; omega
  have hle : thCap W th.length ≤ maxLen := grownCap_le_maxLen _ _ _ _ (by unfold maxLen; omega)
  have hz : (Value.agg #[.bool false, .bool false, .int .u64 0, .int .u64 0, .bool false]).cells.size = 5 := rfl
  have hsz : (thArr W th).size = thCap W th.length * 5 := by
    unfold thArr
    rw [Array.size_append, size_zeroCells, hz, List.size_toArray, List.nil_append, tcells_len]
    omega
  have hrow := World.ownsRow_lit (base := 0) (e := 74) (size := 5) W.drew (thArr W th) (thCap W th.length) (Nat.zero_le _) hle hsz
  have h2 := own_take hrow hge
  have h3 : (thArr W th).toList.take (th.length * 5) = tcells th := by
    unfold thArr
    rw [Array.toList_append]
    exact List.take_left' (tcells_len th)
  rw [h3] at h2
  exact ⟨_, h2⟩
/-- A copy's model. -/
theorem copy_fin {w W : World} {gt gq ct : Nat} {v : Value} {s : Md} (hn : Nw w W) (ht : ThR W gt s.th) (hgt : w.heap.size ≤ gt) (ho : OM W gq v s.l) (hgq : w.heap.size ≤ gq) (hv : ∀ b, v.ownBlock = some b → w.heap.size ≤ b) (d1 : gt ≠ gq) (d2 : v.ownBlock ≠ some gt) :
    MAt (W.alloc (.cells #[.int .i64 s.slots, .pointer (some ⟨gq, 0, none⟩), .slice (some ⟨gt, 0, none⟩) s.th.length ct] 55)) ⟨W.heap.size, gt, gq, v⟩ s ∧ (∀ g ∈ (⟨W.heap.size, gt, gq, v⟩ : Pl).foot, w.heap.size ≤ g) ∧ Nw w (W.alloc (.cells #[.int .i64 s.slots, .pointer (some ⟨gq, 0, none⟩), .slice (some ⟨gt, 0, none⟩) s.th.length ct] 55)) := by
  have hA := (Nw.refl W).alloc (.cells #[.int .i64 s.slots, .pointer (some ⟨gq, 0, none⟩), .slice (some ⟨gt, 0, none⟩) s.th.length ct] 55)
  have h1 := ht.inn
  have h2 := ho.lt
  refine ⟨⟨by simp [go_sem], by simp [go_sem], ⟨ct, by simp [go_sem]⟩, fun o => by simp [go_sem], ht.nw hA, ho.nw hA, by show W.heap.size ≠ gt; omega, by show W.heap.size ≠ gq; omega, d1, fun e => ?_, d2⟩, fun g hg => ?_, hn.trans hA⟩
  · have h3 := ho.rlt e
    have h3 : W.heap.size < W.heap.size := h3
    omega
  · rcases Pl.mem.1 hg with h9 | h9 | h9 | h9
    · have h9 : g = W.heap.size := h9
      rw [h9]; exact hn.grown.size
    · have h9 : g = gt := h9; omega
    · have h9 : g = gq := h9; omega
    · exact hv g h9
set_option maxRecDepth 20000 in
set_option maxHeartbeats 4000000 in
theorem copy_M (w : World) (p : Pl) (s : Md) (h : MAt w p s) (hl : s.l.length ≤ 1000000) (ht0 : 0 < s.th.length) (htn : s.th.length ≤ 1000) :
    Calls Tryd.prog 8 #[.pointer (some ⟨p.gm, 0, none⟩)] w fun e w' => ∃ gq, e = .returned (.pointer (some ⟨gq, 0, none⟩)) ∧ ∃ p', p'.gm = gq ∧ MAt w' p' s ∧ (∀ g ∈ p'.foot, w.heap.size ≤ g) ∧ Nw w w' := by
  obtain ⟨gm, gt, gp, v⟩ := p
  have m0 : w.cell? ⟨gm, 0, none⟩ = some (.int .i64 s.slots) := h.m0
  have m1 : w.cell? ⟨gm, 1, none⟩ = some (.pointer (some ⟨gp, 0, none⟩)) := h.m1
  obtain ⟨ct, m2⟩ : ∃ ct, w.cell? ⟨gm, 2, none⟩ = some (.slice (some ⟨gt, 0, none⟩) s.th.length ct) := h.m2
  haveI : In gm w := ⟨h.im⟩
  have HC := Lib.hid (fun W (hw : Nw w W) => ocopy_M (h.om.nw hw : OM W gp v s.l) hl)
  have HAP := Lib.hid (fun W (hw : Nw w W) ty => run_thcopy W gt ct s.th (ThR.nw h.th hw) ht0 htn ty)
  have HRW := Lib.hid (fun W => thcopy_row W s.th htn)
  obtain ⟨n, hn⟩ : ∃ n, n = s.th.length := ⟨_, rfl⟩
  have HN := Lib.hid hn
  rw [← hn] at m2 HAP
  obtain ⟨sl, hsl⟩ : ∃ z, z = s.slots := ⟨_, rfl⟩
  have HSL := Lib.hid hsl
  rw [← hsl] at m0
  simp only
  clear h hl ht0 htn hn hsl
  go_enter Tryd.func8, Tryd.ntmps8
  go_upto_region 3 with (fail)
  go_region_law (first | (refine step_app_eq rfl (.const (.slice none 0 0)) (.tmp 17) 53 53 rfl _ _ (by first | (simp [Act.eval, Act.put]; done) | (simp [Act.eval, Act.put]; rfl)) (by first | (simp [Act.eval, Act.put]; done) | (simp [Act.eval, Act.put]; rfl)) (HAP.out _ (by exact (by repeat (first | exact Xt.Nw.refl _ | refine Xt.Nw.drew ?_ | refine Xt.Nw.drewN ?_ _ | refine Xt.Nw.alloc ?_ _ | refine Xt.Nw.joined ?_ | refine Xt.Nw.drewd ?_ | refine Xt.Nw.drewdN ?_ | refine Xt.Nw.ext ?_ | refine Xt.Nw.ext_some ?_ (by assumption) | refine Xt.Nw.setCell ?_ (by simp [go_sem] <;> omega) _))) _) ?_) | (go_simp; go_at_call 15; refine (HC.out _ (by exact (by repeat (first | exact Xt.Nw.refl _ | refine Xt.Nw.drew ?_ | refine Xt.Nw.drewN ?_ _ | refine Xt.Nw.alloc ?_ _ | refine Xt.Nw.joined ?_ | refine Xt.Nw.drewd ?_ | refine Xt.Nw.drewdN ?_ | refine Xt.Nw.ext ?_ | refine Xt.Nw.ext_some ?_ (by assumption) | refine Xt.Nw.setCell ?_ (by simp [go_sem] <;> omega) _)))).mono ?_; rintro e w' ⟨gq, rfl, hgq, hom, dK, rfl⟩))
  all_goals
    rw [ext_drew] at hom
    obtain ⟨WK, hWK⟩ : ∃ WK, WK = w.ext none (dpre w.drew none dK) := ⟨_, rfl⟩
    have hnk : Nw w WK := by rw [hWK]; exact ⟨_, rfl⟩
    rw [← hWK] at hom
    obtain ⟨v', hom, hv⟩ := hom
    have hgq' : w.heap.size ≤ gq := hgq
    have hth : ThR (WK.alloc (.cells (thArr WK s.th) 74)) WK.heap.size s.th := HRW.out WK
    have hA : Nw WK (WK.alloc (.cells (thArr WK s.th) 74)) := (Nw.refl _).alloc _
    have hfin := copy_fin (ct := thCap WK n) (s := s) (hnk.trans hA) hth hnk.grown.size (hom.nw hA) hgq' (fun b hb => hv b hb) (by have := hom.lt; omega) (fun e => by have := hom.rlt e; omega)
    rw [← HSL.out, ← HN.out] at hfin
    have HF := Lib.hid hfin
    clear hom hv hth hA hfin hnk hgq hgq' HC HAP HRW
    rw [← hWK]
    clear hWK
    go_wp2
    refine bodyPost_ret (v := .pointer (some ⟨WK.heap.size + 1, 0, none⟩)) ?_ rfl ⟨WK.heap.size + 1, rfl, _, ?_, HF.out.1.nw (Nw.drew (Nw.refl _)), HF.out.2.1, HF.out.2.2.drew⟩
    · simp [results, Tryd.results8, Act.put, go_sem]
    · simp
end Go.Proofs.YtahagplegmcaaaaDoor
namespace Go.Proofs.YtahagplegmcaaaaDoor
open Go.RowKit Go.Xt
/-! births, gives. -/
/-- Whether a move makes a key present that was absent. -/
def birthsM (s : Md) (o : Ox) : Bool := (inR o.key o.hi s.l).any fun p => !hasK (p.1 + o.by_) s.l
/-- Whether an operation may end with an error and change nothing. -/
def givesM (s : Md) (o : Ox) (e : Int) : Bool :=
  if e = 11 then (decide (3 ≤ o.k) && decide (o.k ≤ 10)) || decide (o.k = 12)
  else if e = 6 then ((decide (o.k = 4) || decide (o.k = 5)) && !hasK o.key s.l) || (decide (o.k = 8) && birthsM s o)
  else if e = 10 then decide (o.k = 1)
  else false
theorem any_take {α : Type} {p : α → Bool} {l : List α} {i : Nat} {x : α} (h : l[i]? = some x) : (l.take (i + 1)).any p = ((l.take i).any p || p x) := by
  rw [List.take_add_one, h]; simp
end Go.Proofs.YtahagplegmcaaaaDoor
namespace Go.Proofs.YtahagplegmcaaaaDoor
open Go.RowKit Go.Xt
/-! gives. -/
end Go.Proofs.YtahagplegmcaaaaDoor
namespace Go.Proofs.YtahagplegmcaaaaDoor
open Go.RowKit Go.Xt
/-! Accept. -/
/-- Whether two results are the same. -/
def eqR (e : Int) (f : Bool) (k v c e' : Int) (f' : Bool) (k' v' c' : Int) : Bool := decide (e = e') && (decide (f = f') && (decide (k = k') && (decide (v = v') && decide (c = c'))))
@[go_sem 20000] theorem eqResB (e : Int) (f : Bool) (k v c e' : Int) (f' : Bool) (k' v' c' : Int) (w : World) : (Op.equalIn 10000 28 (res5 e f k v c) (res5 e' f' k' v' c')).run Tryd.prog w = .ok (eqR e f k v c e' f' k' v' c') w := eqRes e f k v c e' f' k' v' c' w
@[go_sem] theorem eqR_refl (e : Int) (f : Bool) (k v c : Int) : eqR e f k v c e f k v c = true := by simp [eqR]
end Go.Proofs.YtahagplegmcaaaaDoor
namespace Go.Proofs.YtahagplegmcaaaaDoor
open Go.RowKit Go.Xt
/-! Accept at OpNext and at an operation that is performed. -/
end Go.Proofs.YtahagplegmcaaaaDoor
