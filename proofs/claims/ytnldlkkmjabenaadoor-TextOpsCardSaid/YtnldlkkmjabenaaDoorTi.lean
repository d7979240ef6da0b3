import Derived.Test.YtnldlkkmjabenaaDoorTh
import Derived.Test.YtnldlkkmjabenaaDoorM
import Derived.Deep.CutBlock
import Derived.BigRegion
namespace Go.Proofs.YtnldlkkmjabenaaDoor
open Go.RowKit Go.Xt
/-! The reference's ParseOp. -/
theorem sel_setF (x : Opn) (q : Nat) (v : Int) : ∀ o, 1 ≤ o → o ≤ 6 → sel (setF x q v) o = if q = o then v else sel x o := sel_cases ⟨rfl, rfl, rfl, rfl, rfl, rfl⟩
theorem AtO.setK {W : World} {b : Nat} {x : Opn} (h : AtO W b x) (k : Int) : AtO (W.setCell ⟨b, 0, none⟩ (.int .u8 k)) b ⟨k, x.ky, x.hi, x.vl, x.od, x.bt, x.dr⟩ := by
  refine ⟨by simpa using h.1, World.cell?_setCell_same _ _ _ h.2.1, fun o o1 o6 => ?_⟩
  rw [World.cell?_setCell_other (h := by intro e2; injection e2 with e3 e4; omega), h.2.2 o o1 o6]
  revert o o1 o6
  exact sel_cases ⟨rfl, rfl, rfl, rfl, rfl, rfl⟩
theorem AtO.setV {W : World} {b q : Nat} {x : Opn} (h : AtO W b x) (v : Int) (h1 : 1 ≤ q) (h6 : q ≤ 6) : AtO (W.setCell ⟨b, q, none⟩ (.int .u64 v)) b (setF x q v) := by
  refine ⟨by simpa using h.1, ?_, fun o o1 o6 => ?_⟩
  · rw [World.cell?_setCell_other (h := by intro e; injection e with e1 e2; omega)]; exact h.2.1
  · by_cases e : q = o
    · subst e
      rw [World.cell?_setCell_same _ _ _ (h.2.2 q o1 o6), sel_setF _ _ _ q o1 o6, if_pos rfl]
    · rw [World.cell?_setCell_other (h := by intro e2; injection e2 with e3 e4; exact e e4), h.2.2 o o1 o6, sel_setF _ _ _ o o1 o6, if_neg e]
/-- The kind that the first loop has found below q. -/
def kB (v : List UInt8) (q : Nat) : Int := match kindOf v with
  | some j => if j < (q : Int) then j else 0
  | none => 0
theorem kB_one (v : List UInt8) : kB v 1 = 0 := by
  unfold kB
  cases h : kindOf v with
  | none => rfl
  | some j => have := (kindOf_some h).2; dsimp only; rw [if_neg (by omega)]
theorem kB_hit {v : List UInt8} {q : Nat} (h1 : 1 ≤ q) (h15 : q ≤ 15) (h : wordL (q : Int) = v) : kB v (q + 1) = (q : Int) := by
  have := (kinds_word (q : Int) (by omega)).1
  unfold kB
  rw [← h, this]
  dsimp only; rw [if_pos (by omega)]
theorem kB_miss {v : List UInt8} {q : Nat} (h : ¬ wordL (q : Int) = v) : kB v (q + 1) = kB v q := by
  unfold kB
  cases hk : kindOf v with
  | none => rfl
  | some j =>
    have hj := (kindOf_some hk).1
    have : j ≠ (q : Int) := fun e => h (e ▸ hj)
    dsimp only
    by_cases h2 : j < (q : Int)
    · rw [if_pos h2, if_pos (by omega)]
    · rw [if_neg h2, if_neg (by omega)]
theorem kB_end (v : List UInt8) : kB v 16 = (kindOf v).getD 0 := by
  unfold kB
  cases h : kindOf v with
  | none => rfl
  | some j => have := (kindOf_some h).2; dsimp only; rw [if_pos (by omega)]; rfl
theorem own_rd3 {W : World} {base : Nat} {e : TypeId} {v : Value} {n : Nat} {xs : List Value} (h : W.ownsRow base e 1 v n xs) : ∃ A c, v = .slice A n c ∧ Rd W 1 A n xs ∧ (∀ b o, A = some ⟨b, o, none⟩ → base ≤ b) ∧ n ≤ c := by
  rcases own_forms h with ⟨h1, h2⟩ | ⟨g, cap, h1, h2, h3, h4, h5⟩
  · obtain ⟨A, c, hv, hr, hb⟩ := own_rd2 h
    exact ⟨A, c, hv, hr, hb, by omega⟩
  · obtain ⟨A, c, hv, hr, hb⟩ := own_rd2 h
    rw [h1] at hv
    injection hv with e1 e2 e3
    exact ⟨A, c, by rw [h1, e1, e3], hr, hb, by omega⟩
/-- What stands behind the switch: the operation's cells hold its kind alone, the numbers and the pointers are read. -/
structure Rdy (wc : World) (g7 : Nat) (A : Option Addr) (n : Nat) (F : Option Addr) (m : Nat) (kd : Int) (l ns : List Nat) (y : Option Opn) (wx : World) : Prop where
  at7 : AtO wx g7 ⟨kd, 0, 0, 0, 0, 0, 0⟩
  fz : ∀ o, wx.frozen? ⟨g7, o, none⟩ = false
  nw : Nw wc wx
  rn : Rd wx 1 A n (nums ns)
  rf : Rd wx 1 F m (ptrs g7 l)
  an : 0 < n → ∀ b o, A = some ⟨b, o, none⟩ → b < wc.heap.size
  af : ∀ b o, F = some ⟨b, o, none⟩ → g7 < b
  lr : ∀ o ∈ l, 1 ≤ o ∧ o ≤ 6
  hn : n ≤ 201
  hm : m ≤ 6
  eq : y = some (fillW ⟨kd, 0, 0, 0, 0, 0, 0⟩ l ns)
theorem cand_kind {w0 : ByteArray} {r : List ByteArray} {ns : List Nat} {kd : Int} (hR : allB r = some ns) (hk : kindOf w0.data.toList = some kd) : cand (w0 :: r) = some (fillW ⟨kd, 0, 0, 0, 0, 0, 0⟩ (offs2 kd) ns) := by
  rw [cand, hR]; dsimp only; rw [hk]
theorem cand_op {w0 : ByteArray} {r : List ByteArray} {n0 : Nat} {ns : List Nat} (hR : allB r = some (n0 :: ns)) (hk : kindOf w0.data.toList = none) (h0 : w0 = ⟨#[111, 112]⟩) (hl : ns.length = 6) (hn : n0 ≤ 255) : cand (w0 :: r) = some (fillW ⟨(n0 : Nat), 0, 0, 0, 0, 0, 0⟩ [1, 2, 3, 4, 5, 6] ns) := by
  rw [cand, hR]; dsimp only; rw [hk]; dsimp only; rw [if_pos ⟨h0, by simp [hl], hn⟩]; rfl
theorem cand_no {w0 : ByteArray} {r : List ByteArray} {ns : List Nat} (hR : allB r = some ns) (hk : kindOf w0.data.toList = none) (h : ¬ (w0 = ⟨#[111, 112]⟩ ∧ ns.length = 7 ∧ (ns[0]?).getD 0 ≤ 255)) : cand (w0 :: r) = none := by
  rw [cand, hR]; dsimp only; rw [hk]; dsimp only; rw [if_neg h]
theorem rd_tailN {w : World} {b o k : Nat} {x : Nat} {r : List Nat} (h : Rd w 1 (some ⟨b, o, none⟩) k (nums (x :: r))) : Rd w 1 (some ⟨b, o + 1, none⟩) (k - 1) (nums r) :=
  ⟨by have := h.1; simp [nums] at this ⊢; omega, fun hp => by
    obtain ⟨b', o', e, hb, hc⟩ := h.2 (by omega)
    injection e with e; injection e with e1 e2 e3
    subst e1 e2
    exact ⟨b, o + 1, rfl, hb, fun j u hu => by rw [show o + 1 + j = o + (j + 1) by omega]; exact hc (j + 1) u (by simpa [nums] using hu)⟩⟩
theorem rd_set {w : World} {A : Option Addr} {n g q : Nat} {xs : List Value} {v : Value} (h : Rd w 1 A n xs) (hne : ∀ b o, A = some ⟨b, o, none⟩ → b ≠ g) : Rd (w.setCell ⟨g, q, none⟩ v) 1 A n xs :=
  ⟨h.1, fun hp => by
    obtain ⟨b, o, e, hb, hc⟩ := h.2 hp
    exact ⟨b, o, e, by simpa using hb, fun j u hu => by
      rw [World.cell?_setCell_other (h := by intro e2; injection e2 with e3 e4; exact hne b o e e3.symm)]; exact hc j u hu⟩⟩
def rpT (s : ByteArray) : Option Opn → Opn × Int
  | none => (noOp, 4)
  | some y => if lineO y = s.data.toList then (y, 0) else (noOp, 4)
theorem rp_T {s : ByteArray} (h : ¬ 200 < s.size) : rp s = rpT s (cand (wordsB s)) := by
  rw [rp, if_neg h]
  cases cand (wordsB s) <;> rfl
set_option maxRecDepth 20000 in
set_option maxHeartbeats 8000000 in
theorem rparse_any (s : ByteArray) (w : World) :
    Calls Tryd.prog 9 #[.string s] w fun e w' => e = .returned (.tuple #[ov (rp s).1, .int .i64 (rp s).2]) ∧ Nw w w' := by
  obtain ⟨W1, hW1⟩ : ∃ W1, W1 = w.alloc (.cells #[.int .u8 0, .int .u64 0, .int .u64 0, .int .u64 0, .int .u64 0, .int .u64 0, .int .u64 0] 24) := ⟨_, rfl⟩
  have hN1 : Nw w W1 := by rw [hW1]; exact (by repeat (first | exact Xt.Nw.refl _ | refine Xt.Nw.drew ?_ | refine Xt.Nw.drewN ?_ _ | refine Xt.Nw.alloc ?_ _ | refine Xt.Nw.joined ?_ | refine Xt.Nw.drewd ?_ | refine Xt.Nw.drewdN ?_ | refine Xt.Nw.ext ?_ | refine Xt.Nw.ext_some ?_ (by assumption) | refine Xt.Nw.setCell ?_ (by simp [go_sem] <;> omega) _))
  have hG : AtO W1 w.heap.size noOp := by
    rw [hW1]; exact ⟨by simp, by simp [go_sem, noOp], sel_cases ⟨by simp [go_sem, sel, noOp], by simp [go_sem, sel, noOp], by simp [go_sem, sel, noOp], by simp [go_sem, sel, noOp], by simp [go_sem, sel, noOp], by simp [go_sem, sel, noOp]⟩⟩
  have hZ : ∀ o, W1.frozen? ⟨w.heap.size, o, none⟩ = false := fun o => by rw [hW1]; simp [go_sem]
  have HW1 := Lib.hid hW1
  have HN1 := Lib.hid hN1
  have HGA := Lib.hid hG
  have HGZ := Lib.hid hZ
  clear hW1 hN1 hG hZ
  by_cases hs : 200 < s.size
  · have d1 : decide ((200 : Int) < (s.size : Int)) = true := by rw [decide_eq_true_eq]; omega
    have hsI : (200 : Int) < (s.size : Int) := by omega
    have hres := Lib.hid (show rp s = (noOp, 4) by rw [rp, if_pos hs])
    clear hs
    go_enter Tryd.func9, Tryd.ntmps9
    go_upto_region 2 with (fail)
    rw [← HW1.out]
    have q5 := HGA.out.nw (Nw.refl W1)
    have p0 : W1.cell? ⟨w.heap.size, 0, none⟩ = some (.int .u8 0) := q5.2.1
    have p1 : W1.cell? ⟨w.heap.size, 1, none⟩ = some (.int .u64 0) := q5.2.2 1 (by omega) (by omega)
    have p2 : W1.cell? ⟨w.heap.size, 2, none⟩ = some (.int .u64 0) := q5.2.2 2 (by omega) (by omega)
    have p3 : W1.cell? ⟨w.heap.size, 3, none⟩ = some (.int .u64 0) := q5.2.2 3 (by omega) (by omega)
    have p4 : W1.cell? ⟨w.heap.size, 4, none⟩ = some (.int .u64 0) := q5.2.2 4 (by omega) (by omega)
    have p5 : W1.cell? ⟨w.heap.size, 5, none⟩ = some (.int .u64 0) := q5.2.2 5 (by omega) (by omega)
    have p6 : W1.cell? ⟨w.heap.size, 6, none⟩ = some (.int .u64 0) := q5.2.2 6 (by omega) (by omega)
    have z0 : W1.frozen? ⟨w.heap.size, 0, none⟩ = false := (frozen_nw HGA.out.1 (Nw.refl W1)).trans (HGZ.out 0)
    have z1 : W1.frozen? ⟨w.heap.size, 1, none⟩ = false := (frozen_nw HGA.out.1 (Nw.refl W1)).trans (HGZ.out 1)
    have z2 : W1.frozen? ⟨w.heap.size, 2, none⟩ = false := (frozen_nw HGA.out.1 (Nw.refl W1)).trans (HGZ.out 2)
    have z3 : W1.frozen? ⟨w.heap.size, 3, none⟩ = false := (frozen_nw HGA.out.1 (Nw.refl W1)).trans (HGZ.out 3)
    have z4 : W1.frozen? ⟨w.heap.size, 4, none⟩ = false := (frozen_nw HGA.out.1 (Nw.refl W1)).trans (HGZ.out 4)
    have z5 : W1.frozen? ⟨w.heap.size, 5, none⟩ = false := (frozen_nw HGA.out.1 (Nw.refl W1)).trans (HGZ.out 5)
    have z6 : W1.frozen? ⟨w.heap.size, 6, none⟩ = false := (frozen_nw HGA.out.1 (Nw.refl W1)).trans (HGZ.out 6)
    have HW5 := Lib.hid (HN1.out.trans (Nw.refl W1))
    clear q5
    go_wp2
    refine bodyPost_ret (v := .tuple #[ov noOp, .int .i64 4]) ?_ rfl ⟨by rw [hres.out], Nw.setCell (Nw.setCell (Nw.setCell (Nw.setCell (Nw.setCell (Nw.setCell (Nw.setCell (HW5.out) (p := ⟨w.heap.size, 0, none⟩) (Nat.le_refl _) _) (p := ⟨w.heap.size, 1, none⟩) (Nat.le_refl _) _) (p := ⟨w.heap.size, 2, none⟩) (Nat.le_refl _) _) (p := ⟨w.heap.size, 3, none⟩) (Nat.le_refl _) _) (p := ⟨w.heap.size, 4, none⟩) (Nat.le_refl _) _) (p := ⟨w.heap.size, 5, none⟩) (Nat.le_refl _) _) (p := ⟨w.heap.size, 6, none⟩) (Nat.le_refl _) _⟩
    simp [results, Tryd.results9, go_sem, noOp, *]
  · have d1 : decide ((200 : Int) < (s.size : Int)) = false := by rw [decide_eq_false_iff_not]; omega
    have hsI : ¬ (200 : Int) < (s.size : Int) := by omega
    have hrp := rp_T hs
    have hwz := words_size s
    have hwd := Lib.hid (fun W => rwords_any s W (by omega))
    obtain ⟨ws, hwsd⟩ : ∃ ws, wordsB s = ws := ⟨_, rfl⟩
    have hl0 : 0 < ws.length := by rw [← hwsd, wordsB_len]; omega
    rw [hwsd] at hrp hwd
    have hl1 : ws.length ≤ 201 := by rw [← hwsd]; omega
    cases ws with
    | nil => exact absurd hl0 (by simp)
    | cons w0 r =>
      obtain ⟨k, hk⟩ : ∃ k, r.length = k := ⟨_, rfl⟩
      have hk1 : (w0 :: r).length = k + 1 := by simp [hk]
      rw [hk1] at hl1
      have HRP := Lib.hid hrp
      have HK := Lib.hid hk
      have HK1 := Lib.hid hk1
      clear hs hrp hwz hwsd hl0 hk hk1
      go_enter Tryd.func9, Tryd.ntmps9
      go_wp2_with fail
      rw [← HW1.out]
      refine (hwd.out _).mono ?_
      rintro e W2 ⟨⟨b, c2, rfl, hb, hr, hc, hcm⟩, hn2⟩
      rw [HK1.out] at hr hc ⊢
      haveI : In b W2 := ⟨hb⟩
      have hc0 : W2.cell? ⟨b, 0, none⟩ = some (.string w0) := by
        obtain ⟨b', o', e1, _, hc⟩ := hr.2 (by omega)
        injection e1 with e1; injection e1 with e2 e3
        subst e2 e3
        exact hc 0 _ rfl
      have HRt := Lib.hid (rd_tail hr)
      have HN2 := Lib.hid hn2
      clear hr hn2
      go_upto_region 4 with (fail)
      go_cut [5, 6] (fun v5 v6 wx => ∃ bb, v6 = .bool bb ∧ NumsP wx W2.heap.size (allB r) v5 bb ∧ Nw W2 wx)
      case first =>
        by_cases h21 : c2 ≤ 1
        · have hk0 := Lib.hid (show k = 0 by omega)
          have hr0 : Rd W2 1 (some ⟨b, 0, none⟩) k (strs r) := by
            rw [hk0.out]; exact ⟨by rw [strs, List.length_map, HK.out, hk0.out], fun h => absurd h (by omega)⟩
          go_wp2_with fail
          refine (rnumbers_any _ k 0 r W2 (by omega) hr0).mono ?_
          rintro e W5 ⟨⟨v, b5, rfl, hP⟩, hn5⟩
          go_wp2
          go_meet
          exact ⟨b5, rfl, hP, hn5⟩
        · go_wp2_with fail
          refine (rnumbers_any _ k _ r W2 (by omega) HRt.out).mono ?_
          rintro e W5 ⟨⟨v, b5, rfl, hP⟩, hn5⟩
          go_wp2
          go_meet
          exact ⟨b5, rfl, hP, hn5⟩
      case rest =>
        obtain ⟨bb, rfl, hP, hn5⟩ := hcut
        obtain ⟨W5, hW5⟩ : ∃ W5, W5 = wc := ⟨_, rfl⟩
        subst hW5
        have HN5 := Lib.hid (HN2.out.trans hn5)
        have hc5 := cell_nw hc0 hn5
        haveI : In b W5 := ⟨World.block_lt_of_cell? W5 _ hc5⟩
        cases hR : allB r with
        | none =>
          rw [hR] at hP
          obtain rfl : bb = false := hP
          have hres := Lib.hid (show rp s = (noOp, 4) by rw [HRP.out, cand, hR]; rfl)
          clear hR
          have q5 := HGA.out.nw HN5.out
          have p0 : W5.cell? ⟨w.heap.size, 0, none⟩ = some (.int .u8 0) := q5.2.1
          have p1 : W5.cell? ⟨w.heap.size, 1, none⟩ = some (.int .u64 0) := q5.2.2 1 (by omega) (by omega)
          have p2 : W5.cell? ⟨w.heap.size, 2, none⟩ = some (.int .u64 0) := q5.2.2 2 (by omega) (by omega)
          have p3 : W5.cell? ⟨w.heap.size, 3, none⟩ = some (.int .u64 0) := q5.2.2 3 (by omega) (by omega)
          have p4 : W5.cell? ⟨w.heap.size, 4, none⟩ = some (.int .u64 0) := q5.2.2 4 (by omega) (by omega)
          have p5 : W5.cell? ⟨w.heap.size, 5, none⟩ = some (.int .u64 0) := q5.2.2 5 (by omega) (by omega)
          have p6 : W5.cell? ⟨w.heap.size, 6, none⟩ = some (.int .u64 0) := q5.2.2 6 (by omega) (by omega)
          have z0 : W5.frozen? ⟨w.heap.size, 0, none⟩ = false := (frozen_nw HGA.out.1 HN5.out).trans (HGZ.out 0)
          have z1 : W5.frozen? ⟨w.heap.size, 1, none⟩ = false := (frozen_nw HGA.out.1 HN5.out).trans (HGZ.out 1)
          have z2 : W5.frozen? ⟨w.heap.size, 2, none⟩ = false := (frozen_nw HGA.out.1 HN5.out).trans (HGZ.out 2)
          have z3 : W5.frozen? ⟨w.heap.size, 3, none⟩ = false := (frozen_nw HGA.out.1 HN5.out).trans (HGZ.out 3)
          have z4 : W5.frozen? ⟨w.heap.size, 4, none⟩ = false := (frozen_nw HGA.out.1 HN5.out).trans (HGZ.out 4)
          have z5 : W5.frozen? ⟨w.heap.size, 5, none⟩ = false := (frozen_nw HGA.out.1 HN5.out).trans (HGZ.out 5)
          have z6 : W5.frozen? ⟨w.heap.size, 6, none⟩ = false := (frozen_nw HGA.out.1 HN5.out).trans (HGZ.out 6)
          have HW5 := Lib.hid (HN1.out.trans HN5.out)
          clear q5
          go_wp2
          refine bodyPost_ret (v := .tuple #[ov noOp, .int .i64 4]) ?_ rfl ⟨by rw [hres.out], Nw.setCell (Nw.setCell (Nw.setCell (Nw.setCell (Nw.setCell (Nw.setCell (Nw.setCell (HW5.out) (p := ⟨w.heap.size, 0, none⟩) (Nat.le_refl _) _) (p := ⟨w.heap.size, 1, none⟩) (Nat.le_refl _) _) (p := ⟨w.heap.size, 2, none⟩) (Nat.le_refl _) _) (p := ⟨w.heap.size, 3, none⟩) (Nat.le_refl _) _) (p := ⟨w.heap.size, 4, none⟩) (Nat.le_refl _) _) (p := ⟨w.heap.size, 5, none⟩) (Nat.le_refl _) _) (p := ⟨w.heap.size, 6, none⟩) (Nat.le_refl _) _⟩
          simp [results, Tryd.results9, go_sem, noOp, *]
        | some ns =>
          rw [hR] at hP
          obtain ⟨rfl, hown⟩ := hP
          have hln : ns.length = k := by rw [allB_len hR]; exact HK.out
          have hlt := allB_lt hR
          rw [hln] at hown
          obtain ⟨A5, c5, rfl, hr5, hbf5, hc5c⟩ := own_rd3 hown
          have HR := Lib.hid hR
          have HLN := Lib.hid hln
          have HLT := Lib.hid hlt
          have HR5 := Lib.hid hr5
          clear hR hown hln hlt hr5 hc0 hn5
          obtain ⟨v0, hv0⟩ : ∃ v, v = w0.data.toList := ⟨_, rfl⟩
          have HV := Lib.hid hv0
          clear hv0
          go_wp2_with fail
          obtain ⟨g7, hg7⟩ : ∃ g, g = W5.heap.size := ⟨_, rfl⟩
          obtain ⟨Wa, hWa⟩ : ∃ Wa, Wa = W5.alloc (.cells #[.int .u8 0, .int .u64 0, .int .u64 0, .int .u64 0, .int .u64 0, .int .u64 0, .int .u64 0] 24) := ⟨_, rfl⟩
          rw [← hWa, ← hg7]
          have hA7 : AtO Wa g7 noOp := by
            rw [hWa, hg7]; exact ⟨by simp, by simp [go_sem, noOp], sel_cases ⟨by simp [go_sem, sel, noOp], by simp [go_sem, sel, noOp], by simp [go_sem, sel, noOp], by simp [go_sem, sel, noOp], by simp [go_sem, sel, noOp], by simp [go_sem, sel, noOp]⟩⟩
          have hZ7 : ∀ o, Wa.frozen? ⟨g7, o, none⟩ = false := fun o => by rw [hWa, hg7]; simp [go_sem]
          have hn7 : Nw W5 Wa := by rw [hWa]; exact (by repeat (first | exact Xt.Nw.refl _ | refine Xt.Nw.drew ?_ | refine Xt.Nw.drewN ?_ _ | refine Xt.Nw.alloc ?_ _ | refine Xt.Nw.joined ?_ | refine Xt.Nw.drewd ?_ | refine Xt.Nw.drewdN ?_ | refine Xt.Nw.ext ?_ | refine Xt.Nw.ext_some ?_ (by assumption) | refine Xt.Nw.setCell ?_ (by simp [go_sem] <;> omega) _))
          have HA7 := Lib.hid hA7
          have HZ7 := Lib.hid hZ7
          have HN7 := Lib.hid hn7
          have HG7 := Lib.hid hg7
          have HC5 := Lib.hid hc5
          clear hWa hg7 hA7 hZ7 hn7 hc5
          go_loopw [8] (fun a wr => ∃ q : Nat, 1 ≤ q ∧ q ≤ 16 ∧ a = .int .u8 q ∧ Hid (AtO wr g7 ⟨kB v0 q, 0, 0, 0, 0, 0, 0⟩) ∧ Hid (∀ o, wr.frozen? ⟨g7, o, none⟩ = false) ∧ Hid (Nw W5 wr)) (fun a _ => 16 - (intOf a).toNat)
          case atStart => exact ⟨1, by omega, by omega, rfl, by rw [kB_one]; exact HA7.out, HZ7.out, HN7.out⟩
          case round =>
            obtain ⟨q, hq1, hq16, rfl, hat, hfz, hnw⟩ := hrel
            have hc7 := cell_nw HC5.out hnw.out
            haveI : In b wr := ⟨World.block_lt_of_cell? wr _ hc7⟩
            haveI : In g7 wr := ⟨hat.out.1⟩
            by_cases hlt : q ≤ 15
            · have hq15 : (q : Int) ≤ 15 := by omega
              have hwr := Lib.hid (fun W => rword_any (q : Int) W (by omega) (by omega))
              obtain ⟨tw, htw⟩ : ∃ t : ByteArray, t = ⟨(wordL (q : Int)).toArray⟩ := ⟨_, rfl⟩
              rw [← htw] at hwr
              by_cases he : tw = w0
              · have hwl : wordL (q : Int) = v0 := by rw [HV.out]; exact (str_iff _ _).1 (htw ▸ he)
                have hkb := Lib.hid (kB_hit hq1 hlt hwl)
                have d3 : (tw.toList == w0.toList) = true := by rw [str_beq]; simpa using he
                clear he htw hwl
                go_upto_region 11 with (fail)
                (refine wp_region_nw (by kernel_rfl) (by kernel_rfl) ?_; (repeat (go_big_quiet_step ((go_at_call 20; exact quiet_of (hwr.out _))))); refine wpQuiet_nil ?_; intro _ hreg; obtain ⟨dW, rfl⟩ : Nw _ _ := hreg)
                have f4 : wr.cell? ⟨g7, 0, none⟩ = some (.int .u8 (kB v0 q)) := hat.out.2.1
                have f5 : wr.frozen? ⟨g7, 0, none⟩ = false := hfz.out 0
                generalize kB v0 q = kq at f4
                go_wp2
                refine ⟨⟨q + 1, by omega, by omega, by go_num, ?_, ?_, ?_⟩, by first | (simp [intOf]; omega) | omega⟩
                · show AtO _ _ _
                  rw [hkb.out]
                  exact (hat.out.setK (q : Int)).nw ⟨_, rfl⟩
                · show ∀ o, _
                  intro o
                  exact (frozen_nw (hat.out.setK (q : Int)).1 ⟨_, rfl⟩).trans (by rw [World.frozen?_setCell]; exact hfz.out o)
                · show Nw _ _
                  exact Nw.ext (Nw.setCell hnw.out (p := ⟨g7, 0, none⟩) (by show W5.heap.size ≤ g7; rw [HG7.out]; exact Nat.le_refl _) _)
              · have hwl : ¬ wordL (q : Int) = v0 := fun h => he (htw ▸ (str_iff _ _).2 (h.trans HV.out))
                have hkb := Lib.hid (kB_miss hwl)
                have d3 : (tw.toList == w0.toList) = false := by rw [str_beq]; simpa using he
                clear he htw hwl
                go_upto_region 11 with (fail)
                (refine wp_region_nw (by kernel_rfl) (by kernel_rfl) ?_; (repeat (go_big_quiet_step ((go_at_call 20; exact quiet_of (hwr.out _))))); refine wpQuiet_nil ?_; intro _ hreg; obtain ⟨dW, rfl⟩ : Nw _ _ := hreg)
                go_wp2
                refine ⟨⟨q + 1, by omega, by omega, by go_num, ?_, ?_, ?_⟩, by first | (simp [intOf]; omega) | omega⟩
                · show AtO _ _ _
                  rw [hkb.out]
                  exact hat.out.nw (show Nw wr (wr.ext none dW) from ⟨_, rfl⟩)
                · show ∀ o, _
                  intro o
                  exact (frozen_nw hat.out.1 (show Nw wr (wr.ext none dW) from ⟨_, rfl⟩)).trans (hfz.out o)
                · show Nw _ _
                  exact Nw.ext hnw.out
            · have hq15 : ¬ (q : Int) ≤ 15 := by omega
              have hq : q = 16 := by omega
              obtain ⟨kd, hkd⟩ : ∃ kd, kd = (kindOf v0).getD 0 := ⟨_, rfl⟩
              have HAT := Lib.hid (show AtO wr g7 ⟨kd, 0, 0, 0, 0, 0, 0⟩ by have h := hat.out; rwa [hq, kB_end, ← hkd] at h)
              have HKD := Lib.hid hkd
              clear hat hq hq1 hq16 hkd
              have f0 : wr.cell? ⟨g7, 0, none⟩ = some (.int .u8 kd) := HAT.out.2.1
              go_upto_block 2 with (fail)
              obtain ⟨gf, hgf⟩ : ∃ g, g = wr.heap.size := ⟨_, rfl⟩
              obtain ⟨Wf, hWf⟩ : ∃ Wf, Wf = wr.alloc (.cells #[.pointer (some ⟨g7, 1, none⟩), .pointer (some ⟨g7, 2, none⟩), .pointer (some ⟨g7, 3, none⟩), .pointer (some ⟨g7, 4, none⟩), .pointer (some ⟨g7, 5, none⟩), .pointer (some ⟨g7, 6, none⟩)] 45) := ⟨_, rfl⟩
              rw [← hWf, ← hgf]
              have hnf : Nw wr Wf := by rw [hWf]; exact (by repeat (first | exact Xt.Nw.refl _ | refine Xt.Nw.drew ?_ | refine Xt.Nw.drewN ?_ _ | refine Xt.Nw.alloc ?_ _ | refine Xt.Nw.joined ?_ | refine Xt.Nw.drewd ?_ | refine Xt.Nw.drewdN ?_ | refine Xt.Nw.ext ?_ | refine Xt.Nw.ext_some ?_ (by assumption) | refine Xt.Nw.setCell ?_ (by simp [go_sem] <;> omega) _))
              have hrf : Rd Wf 1 (some ⟨gf, 0, none⟩) 6 (ptrs g7 [1, 2, 3, 4, 5, 6]) := by rw [hWf]; exact Rd_built2 _ _ _ 6 _ _ hgf (by rfl) (by rfl)
              have hgg : g7 < gf := by have := HAT.out.1; omega
              have hff : Wf.heap.size = gf + 1 := by rw [hWf, hgf]; simp
              have HNF := Lib.hid (hnw.out.trans hnf)
              have HRF := Lib.hid hrf
              have HGG := Lib.hid hgg
              have HFF := Lib.hid hff
              have HA7f := Lib.hid (HAT.out.nw hnf)
              have HZf := Lib.hid (fun o => (frozen_nw HAT.out.1 hnf).trans (hfz.out o) : ∀ o, Wf.frozen? ⟨g7, o, none⟩ = false)
              have HR5f := Lib.hid (HR5.out.nw HNF.out)
              have HN5f := Lib.hid (HN5.out.trans HNF.out)
              have hcf := cell_nw HC5.out HNF.out
              have han : 0 < k → ∀ b o, A5 = some ⟨b, o, none⟩ → b < W5.heap.size := fun hk b o e => by
                obtain ⟨b', o', e', hb', _⟩ := HR5.out.2 hk
                rw [e'] at e; injection e with e; injection e with e1 e2; omega
              have HAN := Lib.hid han
              haveI : In b Wf := ⟨World.block_lt_of_cell? Wf _ hcf⟩
              haveI : In g7 Wf := ⟨HA7f.out.1⟩
              clear hWf hgf hnf hrf hgg hff f0 hc7 han
              go_cut [5, 9] (fun v5 v9 wx => ∃ A n c F m cf kd l ns2, v5 = .slice A n c ∧ v9 = .slice F m cf ∧ Rdy W5 g7 A n F m kd l ns2 (cand (w0 :: r)) wx)
              case first =>
                cases hK : kindOf v0 with
                | some kk =>
                  obtain rfl : kd = kk := by have h := HKD.out; rw [hK] at h; exact h
                  have hk15 := (kindOf_some hK).2
                  have HCK := Lib.hid (cand_kind HR.out (by rw [← HV.out]; exact hK))
                  clear hK
                  have d0 : (kd == 0) = false := by simp; omega
                  by_cases h4 : kd = 4
                  · have d4 : (kd == 4) = true := by simp [h4]
                    have HO := Lib.hid (show offs2 kd = [1, 3, 6] by rw [h4]; rfl)
                    clear h4
                    go_wp2
                    go_meet
                    exact ⟨_, _, _, _, 3, _, kd, [1, 3, 6], ns, rfl, rfl, ⟨HA7f.out.nw (by repeat (first | exact Xt.Nw.refl _ | refine Xt.Nw.drew ?_ | refine Xt.Nw.drewN ?_ _ | refine Xt.Nw.alloc ?_ _ | refine Xt.Nw.joined ?_ | refine Xt.Nw.drewd ?_ | refine Xt.Nw.drewdN ?_ | refine Xt.Nw.ext ?_ | refine Xt.Nw.ext_some ?_ (by assumption) | refine Xt.Nw.setCell ?_ (by simp [go_sem] <;> omega) _)), fun o => (frozen_nw HA7f.out.1 (by repeat (first | exact Xt.Nw.refl _ | refine Xt.Nw.drew ?_ | refine Xt.Nw.drewN ?_ _ | refine Xt.Nw.alloc ?_ _ | refine Xt.Nw.joined ?_ | refine Xt.Nw.drewd ?_ | refine Xt.Nw.drewdN ?_ | refine Xt.Nw.ext ?_ | refine Xt.Nw.ext_some ?_ (by assumption) | refine Xt.Nw.setCell ?_ (by simp [go_sem] <;> omega) _))).trans (HZf.out o), HNF.out.trans (by repeat (first | exact Xt.Nw.refl _ | refine Xt.Nw.drew ?_ | refine Xt.Nw.drewN ?_ _ | refine Xt.Nw.alloc ?_ _ | refine Xt.Nw.joined ?_ | refine Xt.Nw.drewd ?_ | refine Xt.Nw.drewdN ?_ | refine Xt.Nw.ext ?_ | refine Xt.Nw.ext_some ?_ (by assumption) | refine Xt.Nw.setCell ?_ (by simp [go_sem] <;> omega) _)), HR5f.out.nw (by repeat (first | exact Xt.Nw.refl _ | refine Xt.Nw.drew ?_ | refine Xt.Nw.drewN ?_ _ | refine Xt.Nw.alloc ?_ _ | refine Xt.Nw.joined ?_ | refine Xt.Nw.drewd ?_ | refine Xt.Nw.drewdN ?_ | refine Xt.Nw.ext ?_ | refine Xt.Nw.ext_some ?_ (by assumption) | refine Xt.Nw.setCell ?_ (by simp [go_sem] <;> omega) _)), Rd_built2 _ _ _ 3 _ _ (by rfl) (by rfl) (by rfl), HAN.out, fun b o e => by injection e with e; injection e with e1 e2; have := HFF.out; have := HGG.out; omega, by decide, by omega, by decide, by rw [HCK.out, HO.out]⟩⟩
                  have d4 : (kd == 4) = false := by simpa using h4
                  by_cases h5 : kd = 5
                  · have d5 : (kd == 5) = true := by simp [h5]
                    have HO := Lib.hid (show offs2 kd = [1, 3, 6] by rw [h5]; rfl)
                    clear h5
                    go_wp2
                    go_meet
                    exact ⟨_, _, _, _, 3, _, kd, [1, 3, 6], ns, rfl, rfl, ⟨HA7f.out.nw (by repeat (first | exact Xt.Nw.refl _ | refine Xt.Nw.drew ?_ | refine Xt.Nw.drewN ?_ _ | refine Xt.Nw.alloc ?_ _ | refine Xt.Nw.joined ?_ | refine Xt.Nw.drewd ?_ | refine Xt.Nw.drewdN ?_ | refine Xt.Nw.ext ?_ | refine Xt.Nw.ext_some ?_ (by assumption) | refine Xt.Nw.setCell ?_ (by simp [go_sem] <;> omega) _)), fun o => (frozen_nw HA7f.out.1 (by repeat (first | exact Xt.Nw.refl _ | refine Xt.Nw.drew ?_ | refine Xt.Nw.drewN ?_ _ | refine Xt.Nw.alloc ?_ _ | refine Xt.Nw.joined ?_ | refine Xt.Nw.drewd ?_ | refine Xt.Nw.drewdN ?_ | refine Xt.Nw.ext ?_ | refine Xt.Nw.ext_some ?_ (by assumption) | refine Xt.Nw.setCell ?_ (by simp [go_sem] <;> omega) _))).trans (HZf.out o), HNF.out.trans (by repeat (first | exact Xt.Nw.refl _ | refine Xt.Nw.drew ?_ | refine Xt.Nw.drewN ?_ _ | refine Xt.Nw.alloc ?_ _ | refine Xt.Nw.joined ?_ | refine Xt.Nw.drewd ?_ | refine Xt.Nw.drewdN ?_ | refine Xt.Nw.ext ?_ | refine Xt.Nw.ext_some ?_ (by assumption) | refine Xt.Nw.setCell ?_ (by simp [go_sem] <;> omega) _)), HR5f.out.nw (by repeat (first | exact Xt.Nw.refl _ | refine Xt.Nw.drew ?_ | refine Xt.Nw.drewN ?_ _ | refine Xt.Nw.alloc ?_ _ | refine Xt.Nw.joined ?_ | refine Xt.Nw.drewd ?_ | refine Xt.Nw.drewdN ?_ | refine Xt.Nw.ext ?_ | refine Xt.Nw.ext_some ?_ (by assumption) | refine Xt.Nw.setCell ?_ (by simp [go_sem] <;> omega) _)), Rd_built2 _ _ _ 3 _ _ (by rfl) (by rfl) (by rfl), HAN.out, fun b o e => by injection e with e; injection e with e1 e2; have := HFF.out; have := HGG.out; omega, by decide, by omega, by decide, by rw [HCK.out, HO.out]⟩⟩
                  have d5 : (kd == 5) = false := by simpa using h5
                  by_cases h7 : kd = 7
                  · have d7 : (kd == 7) = true := by simp [h7]
                    have HO := Lib.hid (show offs2 kd = [1, 4, 3] by rw [h7]; rfl)
                    clear h7
                    go_wp2
                    go_meet
                    exact ⟨_, _, _, _, 3, _, kd, [1, 4, 3], ns, rfl, rfl, ⟨HA7f.out.nw (by repeat (first | exact Xt.Nw.refl _ | refine Xt.Nw.drew ?_ | refine Xt.Nw.drewN ?_ _ | refine Xt.Nw.alloc ?_ _ | refine Xt.Nw.joined ?_ | refine Xt.Nw.drewd ?_ | refine Xt.Nw.drewdN ?_ | refine Xt.Nw.ext ?_ | refine Xt.Nw.ext_some ?_ (by assumption) | refine Xt.Nw.setCell ?_ (by simp [go_sem] <;> omega) _)), fun o => (frozen_nw HA7f.out.1 (by repeat (first | exact Xt.Nw.refl _ | refine Xt.Nw.drew ?_ | refine Xt.Nw.drewN ?_ _ | refine Xt.Nw.alloc ?_ _ | refine Xt.Nw.joined ?_ | refine Xt.Nw.drewd ?_ | refine Xt.Nw.drewdN ?_ | refine Xt.Nw.ext ?_ | refine Xt.Nw.ext_some ?_ (by assumption) | refine Xt.Nw.setCell ?_ (by simp [go_sem] <;> omega) _))).trans (HZf.out o), HNF.out.trans (by repeat (first | exact Xt.Nw.refl _ | refine Xt.Nw.drew ?_ | refine Xt.Nw.drewN ?_ _ | refine Xt.Nw.alloc ?_ _ | refine Xt.Nw.joined ?_ | refine Xt.Nw.drewd ?_ | refine Xt.Nw.drewdN ?_ | refine Xt.Nw.ext ?_ | refine Xt.Nw.ext_some ?_ (by assumption) | refine Xt.Nw.setCell ?_ (by simp [go_sem] <;> omega) _)), HR5f.out.nw (by repeat (first | exact Xt.Nw.refl _ | refine Xt.Nw.drew ?_ | refine Xt.Nw.drewN ?_ _ | refine Xt.Nw.alloc ?_ _ | refine Xt.Nw.joined ?_ | refine Xt.Nw.drewd ?_ | refine Xt.Nw.drewdN ?_ | refine Xt.Nw.ext ?_ | refine Xt.Nw.ext_some ?_ (by assumption) | refine Xt.Nw.setCell ?_ (by simp [go_sem] <;> omega) _)), Rd_built2 _ _ _ 3 _ _ (by rfl) (by rfl) (by rfl), HAN.out, fun b o e => by injection e with e; injection e with e1 e2; have := HFF.out; have := HGG.out; omega, by decide, by omega, by decide, by rw [HCK.out, HO.out]⟩⟩
                  have d7 : (kd == 7) = false := by simpa using h7
                  by_cases h8 : kd = 8
                  · have d8 : (kd == 8) = true := by simp [h8]
                    have HO := Lib.hid (show offs2 kd = [1, 2, 5, 6] by rw [h8]; rfl)
                    clear h8
                    go_wp2
                    go_meet
                    exact ⟨_, _, _, _, 4, _, kd, [1, 2, 5, 6], ns, rfl, rfl, ⟨HA7f.out.nw (by repeat (first | exact Xt.Nw.refl _ | refine Xt.Nw.drew ?_ | refine Xt.Nw.drewN ?_ _ | refine Xt.Nw.alloc ?_ _ | refine Xt.Nw.joined ?_ | refine Xt.Nw.drewd ?_ | refine Xt.Nw.drewdN ?_ | refine Xt.Nw.ext ?_ | refine Xt.Nw.ext_some ?_ (by assumption) | refine Xt.Nw.setCell ?_ (by simp [go_sem] <;> omega) _)), fun o => (frozen_nw HA7f.out.1 (by repeat (first | exact Xt.Nw.refl _ | refine Xt.Nw.drew ?_ | refine Xt.Nw.drewN ?_ _ | refine Xt.Nw.alloc ?_ _ | refine Xt.Nw.joined ?_ | refine Xt.Nw.drewd ?_ | refine Xt.Nw.drewdN ?_ | refine Xt.Nw.ext ?_ | refine Xt.Nw.ext_some ?_ (by assumption) | refine Xt.Nw.setCell ?_ (by simp [go_sem] <;> omega) _))).trans (HZf.out o), HNF.out.trans (by repeat (first | exact Xt.Nw.refl _ | refine Xt.Nw.drew ?_ | refine Xt.Nw.drewN ?_ _ | refine Xt.Nw.alloc ?_ _ | refine Xt.Nw.joined ?_ | refine Xt.Nw.drewd ?_ | refine Xt.Nw.drewdN ?_ | refine Xt.Nw.ext ?_ | refine Xt.Nw.ext_some ?_ (by assumption) | refine Xt.Nw.setCell ?_ (by simp [go_sem] <;> omega) _)), HR5f.out.nw (by repeat (first | exact Xt.Nw.refl _ | refine Xt.Nw.drew ?_ | refine Xt.Nw.drewN ?_ _ | refine Xt.Nw.alloc ?_ _ | refine Xt.Nw.joined ?_ | refine Xt.Nw.drewd ?_ | refine Xt.Nw.drewdN ?_ | refine Xt.Nw.ext ?_ | refine Xt.Nw.ext_some ?_ (by assumption) | refine Xt.Nw.setCell ?_ (by simp [go_sem] <;> omega) _)), Rd_built2 _ _ _ 4 _ _ (by rfl) (by rfl) (by rfl), HAN.out, fun b o e => by injection e with e; injection e with e1 e2; have := HFF.out; have := HGG.out; omega, by decide, by omega, by decide, by rw [HCK.out, HO.out]⟩⟩
                  have d8 : (kd == 8) = false := by simpa using h8
                  have HO := Lib.hid (show offs2 kd = [1, 2, 3, 4, 5, 6] by rw [offs2, if_neg (by omega), if_neg h7, if_neg h8])
                  clear h4 h5 h7 h8
                  go_wp2
                  go_meet
                  exact ⟨_, _, _, _, 6, _, kd, [1, 2, 3, 4, 5, 6], ns, rfl, rfl, ⟨HA7f.out, HZf.out, HNF.out, HR5f.out, HRF.out, HAN.out, fun b o e => by injection e with e; injection e with e1 e2; have := HGG.out; omega, by decide, by omega, by decide, by rw [HCK.out, HO.out]⟩⟩
                | none =>
                  have hkd0 : kd = 0 := by have h := HKD.out; rw [hK] at h; exact h
                  have e0 : (kd == 0) = true := by simp [hkd0]
                  rw [HV.out] at hK
                  have HKN := Lib.hid hK
                  clear hK hkd0
                  by_cases h0 : w0 = ⟨#[111, 112]⟩
                  · have hne : (w0.toList == [111, 112]) = true := by
                      have := str_beq w0 ⟨#[111, 112]⟩
                      rw [show (⟨#[111, 112]⟩ : ByteArray).toList = [111, 112] by rw [ByteArray.toList_eq]] at this
                      rw [this]; simpa using h0
                    have H0 := Lib.hid h0
                    clear h0
                    by_cases hk7 : k = 7
                    · have dk : ((k : Int) == 7) = true := by simp; omega
                      have dk2 : ((k : Int) != 7) = false := by simp; omega
                      have hl7 : ns.length = 7 := by rw [HLN.out]; exact hk7
                      cases ns with
                      | nil => simp at hl7
                      | cons n0 ns' =>
                        have hl6 : ns'.length = 6 := by simpa using hl7
                        obtain ⟨bb, oo, rfl, hbb, hcc⟩ := HR5f.out.2 (by omega)
                        have y0 : Wf.cell? ⟨bb, oo, none⟩ = some (.int .u64 (n0 : Int)) := hcc 0 _ rfl
                        haveI : In bb Wf := ⟨hbb⟩
                        have q7 : 0 < k := by omega
                        have q8 : (0 : Int) < (k : Int) := by omega
                        have HL6 := Lib.hid hl6
                        have HK7 := Lib.hid hk7
                        clear hcc hl7 hl6 hk7
                        by_cases hg : 255 < n0
                        · have d1 : decide ((255 : Int) < (n0 : Int)) = true := by rw [decide_eq_true_eq]; omega
                          have hres := Lib.hid (show rp s = (noOp, 4) by rw [HRP.out, cand_no HR.out HKN.out (fun h => by have := h.2.2; simp at this; omega)]; rfl)
                          clear hg
                          have q5 := HGA.out.nw HN5f.out
                          have p0 : Wf.cell? ⟨w.heap.size, 0, none⟩ = some (.int .u8 0) := q5.2.1
                          have p1 : Wf.cell? ⟨w.heap.size, 1, none⟩ = some (.int .u64 0) := q5.2.2 1 (by omega) (by omega)
                          have p2 : Wf.cell? ⟨w.heap.size, 2, none⟩ = some (.int .u64 0) := q5.2.2 2 (by omega) (by omega)
                          have p3 : Wf.cell? ⟨w.heap.size, 3, none⟩ = some (.int .u64 0) := q5.2.2 3 (by omega) (by omega)
                          have p4 : Wf.cell? ⟨w.heap.size, 4, none⟩ = some (.int .u64 0) := q5.2.2 4 (by omega) (by omega)
                          have p5 : Wf.cell? ⟨w.heap.size, 5, none⟩ = some (.int .u64 0) := q5.2.2 5 (by omega) (by omega)
                          have p6 : Wf.cell? ⟨w.heap.size, 6, none⟩ = some (.int .u64 0) := q5.2.2 6 (by omega) (by omega)
                          have z0 : Wf.frozen? ⟨w.heap.size, 0, none⟩ = false := (frozen_nw HGA.out.1 HN5f.out).trans (HGZ.out 0)
                          have z1 : Wf.frozen? ⟨w.heap.size, 1, none⟩ = false := (frozen_nw HGA.out.1 HN5f.out).trans (HGZ.out 1)
                          have z2 : Wf.frozen? ⟨w.heap.size, 2, none⟩ = false := (frozen_nw HGA.out.1 HN5f.out).trans (HGZ.out 2)
                          have z3 : Wf.frozen? ⟨w.heap.size, 3, none⟩ = false := (frozen_nw HGA.out.1 HN5f.out).trans (HGZ.out 3)
                          have z4 : Wf.frozen? ⟨w.heap.size, 4, none⟩ = false := (frozen_nw HGA.out.1 HN5f.out).trans (HGZ.out 4)
                          have z5 : Wf.frozen? ⟨w.heap.size, 5, none⟩ = false := (frozen_nw HGA.out.1 HN5f.out).trans (HGZ.out 5)
                          have z6 : Wf.frozen? ⟨w.heap.size, 6, none⟩ = false := (frozen_nw HGA.out.1 HN5f.out).trans (HGZ.out 6)
                          have HW5 := Lib.hid (HN1.out.trans HN5f.out)
                          clear q5
                          go_wp2
                          refine bodyPost_ret (v := .tuple #[ov noOp, .int .i64 4]) ?_ rfl ⟨by rw [hres.out], Nw.setCell (Nw.setCell (Nw.setCell (Nw.setCell (Nw.setCell (Nw.setCell (Nw.setCell (HW5.out) (p := ⟨w.heap.size, 0, none⟩) (Nat.le_refl _) _) (p := ⟨w.heap.size, 1, none⟩) (Nat.le_refl _) _) (p := ⟨w.heap.size, 2, none⟩) (Nat.le_refl _) _) (p := ⟨w.heap.size, 3, none⟩) (Nat.le_refl _) _) (p := ⟨w.heap.size, 4, none⟩) (Nat.le_refl _) _) (p := ⟨w.heap.size, 5, none⟩) (Nat.le_refl _) _) (p := ⟨w.heap.size, 6, none⟩) (Nat.le_refl _) _⟩
                          simp [results, Tryd.results9, go_sem, noOp, *]
                        · have d1 : decide ((255 : Int) < (n0 : Int)) = false := by rw [decide_eq_false_iff_not]; omega
                          have hgI : ¬ (255 : Int) < (n0 : Int) := by omega
                          have HCO := Lib.hid (cand_op HR.out HKN.out H0.out HL6.out (by omega))
                          have hkw : IntKind.u8.wrap (n0 : Int) = (n0 : Int) := by simp [IntKind.wrap, IntKind.bits, IntKind.signed]; omega
                          have q1 : (1 : Int) ≤ (k : Int) := by omega
                          have q4 : 1 ≤ k := by omega
                          have q2 : (k : Int) ≤ (c5 : Int) := by omega
                          have q3 : ¬ c5 ≤ 1 := by have := HK7.out; omega
                          have f0 : Wf.cell? ⟨g7, 0, none⟩ = some (.int .u8 kd) := HA7f.out.2.1
                          have f1 : Wf.frozen? ⟨g7, 0, none⟩ = false := HZf.out 0
                          clear hg
                          go_upto_region 18 with (fail)
                          go_region
                          go_wp2
                          go_meet
                          have hnw8 : Nw W5 (Wf.drew.setCell ⟨g7, 0, none⟩ (.int .u8 (n0 : Int))) := Nw.setCell (Nw.drew HNF.out) (p := ⟨g7, 0, none⟩) (by show W5.heap.size ≤ g7; rw [HG7.out]; exact Nat.le_refl _) _
                          exact ⟨some ⟨bb, oo + 1, none⟩, k - 1, _, _, 6, _, (n0 : Int), [1, 2, 3, 4, 5, 6], ns', rfl, rfl, ⟨AtO.setK (W := Wf.drew) HA7f.out (n0 : Int), fun o => (by rw [World.frozen?_setCell]; exact HZf.out o : (Wf.setCell ⟨g7, 0, none⟩ (.int .u8 (n0 : Int))).frozen? ⟨g7, o, none⟩ = false), hnw8, (rd_tailN HR5.out).nw hnw8, rd_set (w := Wf.drew) (HRF.out.nw (Nw.drew (Nw.refl _))) (fun b o e => by injection e with e; injection e with e1 e2; have := HGG.out; omega), fun _ b o e => by injection e with e; injection e with e1 e2; rw [← e1]; exact HAN.out (by have := HK7.out; omega) bb oo rfl, fun b o e => by injection e with e; injection e with e1 e2; have := HGG.out; omega, by decide, by omega, by decide, HCO.out⟩⟩
                    · have dk : ((k : Int) == 7) = false := by simp; omega
                      have dk2 : ((k : Int) != 7) = true := by simp; omega
                      have hres := Lib.hid (show rp s = (noOp, 4) by rw [HRP.out, cand_no HR.out HKN.out (fun h => hk7 (by rw [← HLN.out]; exact h.2.1))]; rfl)
                      clear hk7
                      have q5 := HGA.out.nw HN5f.out
                      have p0 : Wf.cell? ⟨w.heap.size, 0, none⟩ = some (.int .u8 0) := q5.2.1
                      have p1 : Wf.cell? ⟨w.heap.size, 1, none⟩ = some (.int .u64 0) := q5.2.2 1 (by omega) (by omega)
                      have p2 : Wf.cell? ⟨w.heap.size, 2, none⟩ = some (.int .u64 0) := q5.2.2 2 (by omega) (by omega)
                      have p3 : Wf.cell? ⟨w.heap.size, 3, none⟩ = some (.int .u64 0) := q5.2.2 3 (by omega) (by omega)
                      have p4 : Wf.cell? ⟨w.heap.size, 4, none⟩ = some (.int .u64 0) := q5.2.2 4 (by omega) (by omega)
                      have p5 : Wf.cell? ⟨w.heap.size, 5, none⟩ = some (.int .u64 0) := q5.2.2 5 (by omega) (by omega)
                      have p6 : Wf.cell? ⟨w.heap.size, 6, none⟩ = some (.int .u64 0) := q5.2.2 6 (by omega) (by omega)
                      have z0 : Wf.frozen? ⟨w.heap.size, 0, none⟩ = false := (frozen_nw HGA.out.1 HN5f.out).trans (HGZ.out 0)
                      have z1 : Wf.frozen? ⟨w.heap.size, 1, none⟩ = false := (frozen_nw HGA.out.1 HN5f.out).trans (HGZ.out 1)
                      have z2 : Wf.frozen? ⟨w.heap.size, 2, none⟩ = false := (frozen_nw HGA.out.1 HN5f.out).trans (HGZ.out 2)
                      have z3 : Wf.frozen? ⟨w.heap.size, 3, none⟩ = false := (frozen_nw HGA.out.1 HN5f.out).trans (HGZ.out 3)
                      have z4 : Wf.frozen? ⟨w.heap.size, 4, none⟩ = false := (frozen_nw HGA.out.1 HN5f.out).trans (HGZ.out 4)
                      have z5 : Wf.frozen? ⟨w.heap.size, 5, none⟩ = false := (frozen_nw HGA.out.1 HN5f.out).trans (HGZ.out 5)
                      have z6 : Wf.frozen? ⟨w.heap.size, 6, none⟩ = false := (frozen_nw HGA.out.1 HN5f.out).trans (HGZ.out 6)
                      have HW5 := Lib.hid (HN1.out.trans HN5f.out)
                      clear q5
                      go_wp2
                      refine bodyPost_ret (v := .tuple #[ov noOp, .int .i64 4]) ?_ rfl ⟨by rw [hres.out], Nw.setCell (Nw.setCell (Nw.setCell (Nw.setCell (Nw.setCell (Nw.setCell (Nw.setCell (HW5.out) (p := ⟨w.heap.size, 0, none⟩) (Nat.le_refl _) _) (p := ⟨w.heap.size, 1, none⟩) (Nat.le_refl _) _) (p := ⟨w.heap.size, 2, none⟩) (Nat.le_refl _) _) (p := ⟨w.heap.size, 3, none⟩) (Nat.le_refl _) _) (p := ⟨w.heap.size, 4, none⟩) (Nat.le_refl _) _) (p := ⟨w.heap.size, 5, none⟩) (Nat.le_refl _) _) (p := ⟨w.heap.size, 6, none⟩) (Nat.le_refl _) _⟩
                      simp [results, Tryd.results9, go_sem, noOp, *]
                  · have hne : (w0.toList == [111, 112]) = false := by
                      have := str_beq w0 ⟨#[111, 112]⟩
                      rw [show (⟨#[111, 112]⟩ : ByteArray).toList = [111, 112] by rw [ByteArray.toList_eq]] at this
                      rw [this]; simpa using h0
                    have hres := Lib.hid (show rp s = (noOp, 4) by rw [HRP.out, cand_no HR.out HKN.out (fun h => h0 h.1)]; rfl)
                    clear h0
                    have q5 := HGA.out.nw HN5f.out
                    have p0 : Wf.cell? ⟨w.heap.size, 0, none⟩ = some (.int .u8 0) := q5.2.1
                    have p1 : Wf.cell? ⟨w.heap.size, 1, none⟩ = some (.int .u64 0) := q5.2.2 1 (by omega) (by omega)
                    have p2 : Wf.cell? ⟨w.heap.size, 2, none⟩ = some (.int .u64 0) := q5.2.2 2 (by omega) (by omega)
                    have p3 : Wf.cell? ⟨w.heap.size, 3, none⟩ = some (.int .u64 0) := q5.2.2 3 (by omega) (by omega)
                    have p4 : Wf.cell? ⟨w.heap.size, 4, none⟩ = some (.int .u64 0) := q5.2.2 4 (by omega) (by omega)
                    have p5 : Wf.cell? ⟨w.heap.size, 5, none⟩ = some (.int .u64 0) := q5.2.2 5 (by omega) (by omega)
                    have p6 : Wf.cell? ⟨w.heap.size, 6, none⟩ = some (.int .u64 0) := q5.2.2 6 (by omega) (by omega)
                    have z0 : Wf.frozen? ⟨w.heap.size, 0, none⟩ = false := (frozen_nw HGA.out.1 HN5f.out).trans (HGZ.out 0)
                    have z1 : Wf.frozen? ⟨w.heap.size, 1, none⟩ = false := (frozen_nw HGA.out.1 HN5f.out).trans (HGZ.out 1)
                    have z2 : Wf.frozen? ⟨w.heap.size, 2, none⟩ = false := (frozen_nw HGA.out.1 HN5f.out).trans (HGZ.out 2)
                    have z3 : Wf.frozen? ⟨w.heap.size, 3, none⟩ = false := (frozen_nw HGA.out.1 HN5f.out).trans (HGZ.out 3)
                    have z4 : Wf.frozen? ⟨w.heap.size, 4, none⟩ = false := (frozen_nw HGA.out.1 HN5f.out).trans (HGZ.out 4)
                    have z5 : Wf.frozen? ⟨w.heap.size, 5, none⟩ = false := (frozen_nw HGA.out.1 HN5f.out).trans (HGZ.out 5)
                    have z6 : Wf.frozen? ⟨w.heap.size, 6, none⟩ = false := (frozen_nw HGA.out.1 HN5f.out).trans (HGZ.out 6)
                    have HW5 := Lib.hid (HN1.out.trans HN5f.out)
                    clear q5
                    go_wp2
                    refine bodyPost_ret (v := .tuple #[ov noOp, .int .i64 4]) ?_ rfl ⟨by rw [hres.out], Nw.setCell (Nw.setCell (Nw.setCell (Nw.setCell (Nw.setCell (Nw.setCell (Nw.setCell (HW5.out) (p := ⟨w.heap.size, 0, none⟩) (Nat.le_refl _) _) (p := ⟨w.heap.size, 1, none⟩) (Nat.le_refl _) _) (p := ⟨w.heap.size, 2, none⟩) (Nat.le_refl _) _) (p := ⟨w.heap.size, 3, none⟩) (Nat.le_refl _) _) (p := ⟨w.heap.size, 4, none⟩) (Nat.le_refl _) _) (p := ⟨w.heap.size, 5, none⟩) (Nat.le_refl _) _) (p := ⟨w.heap.size, 6, none⟩) (Nat.le_refl _) _⟩
                    simp [results, Tryd.results9, go_sem, noOp, *]
              case rest =>
                obtain ⟨A, n, c, F, m, cf, kd, l, ns2, rfl, rfl, hrd⟩ := hcut
                obtain ⟨W6, hW6⟩ : ∃ W6, W6 = wc := ⟨_, rfl⟩
                subst hW6
                have HRD := Lib.hid hrd
                have hn201 := hrd.hn
                have hm6 := hrd.hm
                have hln2 : ns2.length = n := by have := hrd.rn.1; simpa [nums] using this
                have hll : l.length = m := by have := hrd.rf.1; simpa [ptrs] using this
                have HL2 := Lib.hid hln2
                have HLL := Lib.hid hll
                have HWF := Lib.hid (cand_wf hrd.eq)
                have hRPX := hrd.eq
                have hrpx : rp s = rpT s (some (fillW ⟨kd, 0, 0, 0, 0, 0, 0⟩ l ns2)) := by rw [← hRPX]; exact HRP.out
                have HRX := Lib.hid hrpx
                clear hrd hln2 hll hRPX hrpx
                go_wp2_with fail
                go_loopw [10] (fun a wr => ∃ i : Nat, i ≤ n ∧ i ≤ m ∧ a = .int .i64 i ∧ Hid (AtO wr g7 (fillW ⟨kd, 0, 0, 0, 0, 0, 0⟩ (l.take i) (ns2.take i))) ∧ Hid (∀ o, wr.frozen? ⟨g7, o, none⟩ = false) ∧ Hid (W6.grownBy wr (some g7))) (fun a _ => n - (intOf a).toNat)
                case atStart => exact ⟨0, by omega, by omega, rfl, HRD.out.at7, HRD.out.fz, gref _ _⟩
                case round =>
                  obtain ⟨i, hi, him, rfl, hat, hfz, hgr⟩ := hrel
                  by_cases hin : i < n ∧ i < m
                  · obtain ⟨bt, ot, p, rfl, hbt, hp, hct⟩ := Is_ptr HRD.out.rf hin.2
                    obtain ⟨bf, of, rfl, hbf, hcf2⟩ := HRD.out.rn.2 (by omega)
                    have hni : i < ns2.length := by have := HL2.out; omega
                    obtain ⟨v, hv⟩ : ∃ v, ns2[i]? = some v := ⟨_, List.getElem?_eq_getElem hni⟩
                    have hcf3 := hcf2 i (.int .u64 (v : Int)) (by rw [nums, List.getElem?_map, hv]; rfl)
                    have hpr := HRD.out.lr p (List.mem_of_getElem? hp)
                    have hnt : bt ≠ g7 := by have := HRD.out.af _ _ rfl; omega
                    have hnf : bf ≠ g7 := by have := HRD.out.an (by omega) bf of rfl; have := HG7.out; omega
                    have f1 : wr.cell? ⟨bt, ot + i, none⟩ = some (.pointer (some ⟨g7, p, none⟩)) := (World.cell?_of_block (hgr.out.block bt hbt (by simpa using hnt))).trans hct
                    have f2 : wr.cell? ⟨bf, of + i, none⟩ = some (.int .u64 (v : Int)) := (World.cell?_of_block (hgr.out.block bf hbf (by simpa using hnf))).trans hcf3
                    have f4 := hat.out.2.2 p hpr.1 hpr.2
                    have f5 := hfz.out p
                    have hin1 : (i : Int) < (n : Int) := by omega
                    have hin2 : (i : Int) < (m : Int) := by omega
                    have HIN := Lib.hid hin
                    have HQ := Lib.hid hp
                    have HV2 := Lib.hid hv
                    have HQR := Lib.hid hpr
                    clear hct hp hcf2 hcf3 hpr hv hin
                    generalize sel (fillW ⟨kd, 0, 0, 0, 0, 0, 0⟩ (List.take i l) (List.take i ns2)) p = sp at f4
                    go_upto_region 29 with (fail)
                    go_still_tail 9, (by kernel_rfl)
                    change wpList _ _ _ _ _ wr.drew
                    go_wp2
                    refine ⟨⟨i + 1, by have := HIN.out; omega, by have := HIN.out; omega, by go_num, ?_, ?_, ?_⟩, by first | (simp [intOf]; omega) | omega⟩
                    · show AtO _ _ _
                      obtain ⟨p1, q1⟩ := List.getElem?_eq_some_iff.1 HQ.out
                      obtain ⟨p2, q2⟩ := List.getElem?_eq_some_iff.1 HV2.out
                      rw [List.take_succ_eq_append_getElem p1, q1, List.take_succ_eq_append_getElem p2, q2, fillW_snoc _ _ _ _ _ (by rw [List.length_take, List.length_take]; omega)]
                      exact AtO.setV (W := wr.drew) hat.out (v : Int) HQR.out.1 HQR.out.2
                    · show ∀ o, _
                      intro o
                      show (wr.setCell _ _).frozen? _ = false
                      rw [World.frozen?_setCell]; exact hfz.out o
                    · show World.grownBy _ _ _
                      have hs := set_grown (o := p) (v := .int .u64 (v : Int)) (⟨hgr.out.os, hgr.out.tape, hgr.out.output, hgr.out.size, hgr.out.block⟩ : W6.grownBy wr (some g7))
                      exact ⟨hs.os, hs.tape, hs.output, hs.size, hs.block⟩
                  · go_upto_region 27 with (fail)
                    obtain ⟨W7, hW7⟩ : ∃ W7, W7 = wr := ⟨_, rfl⟩
                    go_cut [101] (fun v wx => v = .bool false ∧ wx = W7)
                    case first =>
                      rw [← hW7]
                      by_cases h1 : (i : Int) < (n : Int)
                      · have h2 : ¬ (i : Int) < (m : Int) := by omega
                        go_wp2
                        go_meet
                        exact ⟨rfl, hW7.symm⟩
                      · go_wp2
                        go_meet
                        exact ⟨rfl, hW7.symm⟩
                    case rest =>
                      obtain ⟨rfl, hwc⟩ := hcut
                      rw [hwc, hW7]
                      clear hwc hW7
                      obtain ⟨X, hX⟩ : ∃ X, X = fillW ⟨kd, 0, 0, 0, 0, 0, 0⟩ l ns2 := ⟨_, rfl⟩
                      have hful : AtO wr g7 X := by
                        have h := hat.out
                        rw [fillW_take _ _ _ _ (by have := HL2.out; have := HLL.out; omega), ← hX] at h
                        exact h
                      have hrx := HRX.out
                      rw [← hX] at hrx
                      have hwf : WfO X := by rw [hX]; exact HWF.out
                      have HWX := Lib.hid hwf
                      have hgl : W6.grownBy wr (some g7) := hgr.out
                      have HN6 := Lib.hid (HN5.out.trans HRD.out.nw)
                      have hG6 := HGA.out.nw HN6.out
                      have hg1 : w.heap.size < g7 := by
                        have h1 := HGA.out.1
                        have h2 := HN5.out.grown.size
                        have h3 := HG7.out
                        omega
                      have e2 : wr.heap[w.heap.size]? = W6.heap[w.heap.size]? := hgl.block _ hG6.1 (by have := hg1; simp; omega)
                      have hwr : w.grownBy wr none := ⟨hgl.os.trans (HN1.out.trans HN6.out).grown.os, hgl.tape.trans (HN1.out.trans HN6.out).grown.tape, hgl.output.trans (HN1.out.trans HN6.out).grown.output, Nat.le_trans (HN1.out.trans HN6.out).grown.size hgl.size, fun k hk _ => (hgl.block k (Nat.lt_of_lt_of_le hk (HN1.out.trans HN6.out).grown.size) (by simp; omega)).trans ((HN1.out.trans HN6.out).grown.block k hk (by simp))⟩
                      have HWR := Lib.hid (Nw.of hwr)
                      have hres0 : wr.heap.size ≥ 0 := Nat.zero_le _
                      have hGr : AtO wr w.heap.size noOp := ⟨Nat.lt_of_lt_of_le hG6.1 hgl.size, (World.cell?_of_block e2).trans hG6.2.1, fun o h1 h2 => (World.cell?_of_block e2).trans (hG6.2.2 o h1 h2)⟩
                      have hZr : ∀ o, wr.frozen? ⟨w.heap.size, o, none⟩ = false := fun o => (World.frozen?_of_block e2).trans ((frozen_nw HGA.out.1 HN6.out).trans (HGZ.out o))
                      have HGR := Lib.hid hGr
                      have HZR := Lib.hid hZr
                      have HFU := Lib.hid hful
                      have HRX2 := Lib.hid hrx
                      clear hX hrx hwf hgl hG6 hg1 e2 hwr hres0 hGr hZr hful hat hfz hgr hin
                      have r0 : wr.cell? ⟨g7, 0, none⟩ = some (.int .u8 X.kd) := HFU.out.2.1
                      have r1 : wr.cell? ⟨g7, 1, none⟩ = some (.int .u64 X.ky) := HFU.out.2.2 1 (by omega) (by omega)
                      have r2 : wr.cell? ⟨g7, 2, none⟩ = some (.int .u64 X.hi) := HFU.out.2.2 2 (by omega) (by omega)
                      have r3 : wr.cell? ⟨g7, 3, none⟩ = some (.int .u64 X.vl) := HFU.out.2.2 3 (by omega) (by omega)
                      have r4 : wr.cell? ⟨g7, 4, none⟩ = some (.int .u64 X.od) := HFU.out.2.2 4 (by omega) (by omega)
                      have r5 : wr.cell? ⟨g7, 5, none⟩ = some (.int .u64 X.bt) := HFU.out.2.2 5 (by omega) (by omega)
                      have r6 : wr.cell? ⟨g7, 6, none⟩ = some (.int .u64 X.dr) := HFU.out.2.2 6 (by omega) (by omega)
                      haveI : In g7 wr := ⟨HFU.out.1⟩
                      obtain ⟨t, ht⟩ : ∃ t : ByteArray, t = ⟨(lineO X).toArray⟩ := ⟨_, rfl⟩
                      have hop := (fun W => rop_any X W HWX.out)
                      rw [← ht] at hop
                      have HOP := Lib.hid hop
                      have HT := Lib.hid ht
                      clear hop ht
                      go_wp2_with fail
                      refine (HOP.out wr).mono ?_
                      rintro e W8 ⟨rfl, hn8⟩
                      have y0 : W8.cell? ⟨g7, 0, none⟩ = some (.int .u8 X.kd) := cell_nw r0 hn8
                      have y1 : W8.cell? ⟨g7, 1, none⟩ = some (.int .u64 X.ky) := cell_nw r1 hn8
                      have y2 : W8.cell? ⟨g7, 2, none⟩ = some (.int .u64 X.hi) := cell_nw r2 hn8
                      have y3 : W8.cell? ⟨g7, 3, none⟩ = some (.int .u64 X.vl) := cell_nw r3 hn8
                      have y4 : W8.cell? ⟨g7, 4, none⟩ = some (.int .u64 X.od) := cell_nw r4 hn8
                      have y5 : W8.cell? ⟨g7, 5, none⟩ = some (.int .u64 X.bt) := cell_nw r5 hn8
                      have y6 : W8.cell? ⟨g7, 6, none⟩ = some (.int .u64 X.dr) := cell_nw r6 hn8
                      have q5 := HGR.out.nw hn8
                      have p0 : W8.cell? ⟨w.heap.size, 0, none⟩ = some (.int .u8 0) := q5.2.1
                      have p1 : W8.cell? ⟨w.heap.size, 1, none⟩ = some (.int .u64 0) := q5.2.2 1 (by omega) (by omega)
                      have p2 : W8.cell? ⟨w.heap.size, 2, none⟩ = some (.int .u64 0) := q5.2.2 2 (by omega) (by omega)
                      have p3 : W8.cell? ⟨w.heap.size, 3, none⟩ = some (.int .u64 0) := q5.2.2 3 (by omega) (by omega)
                      have p4 : W8.cell? ⟨w.heap.size, 4, none⟩ = some (.int .u64 0) := q5.2.2 4 (by omega) (by omega)
                      have p5 : W8.cell? ⟨w.heap.size, 5, none⟩ = some (.int .u64 0) := q5.2.2 5 (by omega) (by omega)
                      have p6 : W8.cell? ⟨w.heap.size, 6, none⟩ = some (.int .u64 0) := q5.2.2 6 (by omega) (by omega)
                      have z0 : W8.frozen? ⟨w.heap.size, 0, none⟩ = false := (frozen_nw HGR.out.1 hn8).trans (HZR.out 0)
                      have z1 : W8.frozen? ⟨w.heap.size, 1, none⟩ = false := (frozen_nw HGR.out.1 hn8).trans (HZR.out 1)
                      have z2 : W8.frozen? ⟨w.heap.size, 2, none⟩ = false := (frozen_nw HGR.out.1 hn8).trans (HZR.out 2)
                      have z3 : W8.frozen? ⟨w.heap.size, 3, none⟩ = false := (frozen_nw HGR.out.1 hn8).trans (HZR.out 3)
                      have z4 : W8.frozen? ⟨w.heap.size, 4, none⟩ = false := (frozen_nw HGR.out.1 hn8).trans (HZR.out 4)
                      have z5 : W8.frozen? ⟨w.heap.size, 5, none⟩ = false := (frozen_nw HGR.out.1 hn8).trans (HZR.out 5)
                      have z6 : W8.frozen? ⟨w.heap.size, 6, none⟩ = false := (frozen_nw HGR.out.1 hn8).trans (HZR.out 6)
                      have HW5 := Lib.hid (HWR.out.trans hn8)
                      clear q5 hn8 r0 r1 r2 r3 r4 r5 r6
                      by_cases he : t = s
                      · have d3 : (t.toList == s.toList) = true := by rw [str_beq]; simpa using he
                        have d4 : (t.toList != s.toList) = false := by simp [bne, d3]
                        have hres := Lib.hid (show rp s = (X, 0) by
                          rw [HRX2.out, rpT, if_pos ((str_iff _ _).1 (HT.out ▸ he))])
                        clear he
                        go_wp2
                        refine bodyPost_ret (v := .tuple #[ov X, .int .i64 0]) ?_ rfl ⟨by rw [hres.out], Nw.setCell (Nw.setCell (Nw.setCell (Nw.setCell (Nw.setCell (Nw.setCell (Nw.setCell (HW5.out) (p := ⟨w.heap.size, 0, none⟩) (Nat.le_refl _) _) (p := ⟨w.heap.size, 1, none⟩) (Nat.le_refl _) _) (p := ⟨w.heap.size, 2, none⟩) (Nat.le_refl _) _) (p := ⟨w.heap.size, 3, none⟩) (Nat.le_refl _) _) (p := ⟨w.heap.size, 4, none⟩) (Nat.le_refl _) _) (p := ⟨w.heap.size, 5, none⟩) (Nat.le_refl _) _) (p := ⟨w.heap.size, 6, none⟩) (Nat.le_refl _) _⟩
                        simp [results, Tryd.results9, go_sem, *]
                      · have d3 : (t.toList == s.toList) = false := by rw [str_beq]; simpa using he
                        have d4 : (t.toList != s.toList) = true := by simp [bne, d3]
                        have hres := Lib.hid (show rp s = (noOp, 4) by
                          rw [HRX2.out, rpT, if_neg (fun h => he (HT.out ▸ (str_iff _ _).2 h))])
                        clear he
                        go_wp2
                        refine bodyPost_ret (v := .tuple #[ov noOp, .int .i64 4]) ?_ rfl ⟨by rw [hres.out], Nw.setCell (Nw.setCell (Nw.setCell (Nw.setCell (Nw.setCell (Nw.setCell (Nw.setCell (HW5.out) (p := ⟨w.heap.size, 0, none⟩) (Nat.le_refl _) _) (p := ⟨w.heap.size, 1, none⟩) (Nat.le_refl _) _) (p := ⟨w.heap.size, 2, none⟩) (Nat.le_refl _) _) (p := ⟨w.heap.size, 3, none⟩) (Nat.le_refl _) _) (p := ⟨w.heap.size, 4, none⟩) (Nat.le_refl _) _) (p := ⟨w.heap.size, 5, none⟩) (Nat.le_refl _) _) (p := ⟨w.heap.size, 6, none⟩) (Nat.le_refl _) _⟩
                        simp [results, Tryd.results9, go_sem, noOp, *]
end Go.Proofs.YtnldlkkmjabenaaDoor
