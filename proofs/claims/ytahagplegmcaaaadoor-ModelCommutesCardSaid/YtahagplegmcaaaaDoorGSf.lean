import Derived.Test.YtahagplegmcaaaaDoorGSe
import Derived.Test.YtahagplegmcaaaaDoorGSc
set_option linter.unusedVariables false
set_option linter.unusedSimpArgs false
set_option linter.unnecessarySimpa false
namespace Go.Proofs.YtahagplegmcaaaaDoor
open Go.RowKit Go.Xt
/-! Laws' parts: played, equal, quiet. -/
theorem Lw.nil {w W : World} (h : Nw w W) (N : Nat) : Lw w N [] [] W :=
  ⟨h, [], rfl, fun i p m hp _ => (by simp at hp), fun i j p q hp _ _ => (by simp at hp), fun x hx => (by simp at hx)⟩
theorem Lw.mono {w W : World} {N N' : Nat} {ms : List (Nat × Md)} {K : List (Nat × Obj)} (h : Lw w N ms K W) (hN : N ≤ N') : Lw w N' ms K W := by
  obtain ⟨h0, ps, hl, hA, hD, hK⟩ := h
  exact ⟨h0, ps, hl, fun i p m hp hm => by
    obtain ⟨a, b, c, d, e, f⟩ := hA i p m hp hm
    exact ⟨a, b, c.mono hN, d, e, f⟩, hD, hK⟩
theorem new_Lw (n : Nat) (sl : Int) (w W : World) (hw : Nw w W) (hn : 1 ≤ n ∧ n ≤ 8) (hs : 1 ≤ sl ∧ sl ≤ 64) :
    Calls Tryd.prog 13 #[cfgV n sl] W fun e W' => ∃ gm, e = .returned (.tuple #[.pointer (some ⟨gm, 0, none⟩), .int .i64 0]) ∧ Lw w 0 [(gm, ⟨sl, [], List.replicate n Th0⟩)] [] W' := by
  refine (new_M n sl W hn hs).mono ?_
  rintro e W' ⟨⟨p, rfl, h1, h2⟩, hn2⟩
  refine ⟨p.gm, rfl, (Lw.nil hw 0).add hn2 h1 h2 ⟨Nat.le_refl _, List.Pairwise.nil, fun _ h => (by cases h), (by simp; omega), fun x hx => (by rw [List.eq_of_mem_replicate hx]; exact ⟨fun h => (by cases h), fun h => (by cases h), fun h => (by cases h)⟩)⟩ ⟨by show 0 ≤ sl ∧ sl < _; omega, fun x hx => (by rw [List.eq_of_mem_replicate hx]; exact ⟨by simp [Th0], by simp [Th0]⟩)⟩ (by simp; omega)⟩
set_option maxRecDepth 20000 in
set_option maxHeartbeats 8000000 in
theorem played_L (A : Option Addr) (n c : Nat) (ds : List Dd) (w : World) (hr : Rd w 15 A n (dcells ds)) (hn : n ≤ 80) (hw : ∀ d ∈ ds, d.o.Wf) :
    Calls Tryd.prog 7 #[.slice A n c] w fun e w' => ∃ gm s, e = .returned (.pointer (some ⟨gm, 0, none⟩)) ∧ Lw w 100 [(gm, s)] [] w' ∧ s.th.length = 3 := by
  have HD := Lib.hid (fun (W : World) gm s N (h : Lw w N [(gm, s)] [] W) (hN : N ≤ 500000) (t : Int) (o : Ox) (hw : o.Wf) => do_Lw (i := 0) h hN rfl t o hw)
  unfold opV resV at HD
  have HRD := Lib.hid hr
  have HWF := Lib.hid hw
  have hlen : ds.length = n := by have := hr.1; rw [dcells_len] at this; omega
  have HLEN := Lib.hid hlen
  have HNN := Lib.hid hn
  clear hr hw hlen hn
  go_enter Tryd.func7, Tryd.ntmps7
  go_wp2_with fail
  refine (fixed_any 3 2 _).mono ?_
  rintro e w' ⟨rfl, dF, rfl⟩
  go_wp2_with fail
  refine (new_Lw 3 2 w _ ((by repeat (first | exact Xt.Nw.refl _ | refine Xt.Nw.drew ?_ | refine Xt.Nw.drewN ?_ _ | refine Xt.Nw.alloc ?_ _ | refine Xt.Nw.joined ?_ | refine Xt.Nw.drewd ?_ | refine Xt.Nw.drewdN ?_ | refine Xt.Nw.ext ?_ | refine Xt.Nw.ext_some ?_ (by assumption) | refine Xt.Nw.setCell ?_ (by simp [go_sem] <;> omega) _))) (by omega) (by omega)).mono ?_
  rintro e W3 ⟨gm, rfl, h3⟩
  have H3 := Lib.hid h3
  clear h3
  go_wp2_with fail
  have c4 := HD.out W3 gm _ 0 H3.out (by omega) 0 oOpen (by constructor <;> simp)
  rw [pl_1] at c4
  refine c4.mono ?_
  rintro e W4 ⟨rfl, h4⟩
  have H4 := Lib.hid h4
  clear h4 c4
  go_wp2_with fail
  go_loopw [5] (fun a wr => ∃ (i : Nat) (s : Md), i ≤ n ∧ a = .int .i64 i ∧ Hid (Lw w (i + 1) [(gm, s)] [] wr ∧ s.th.length = 3)) (fun a _ => n - (intOf a).toNat)
  case atStart => exact ⟨0, _, Nat.zero_le _, rfl, Lib.hid ⟨H4.out, rfl⟩⟩
  case round =>
    obtain ⟨i, s, hi, rfl, HL⟩ := hrel
    by_cases hin : i < n
    · obtain ⟨gA, oA, rfl, hgA, hcA⟩ := HRD.out.2 (by omega)
      obtain ⟨d, hd⟩ : ∃ d, ds[i]? = some d := ⟨_, List.getElem?_eq_getElem (by have := HLEN.out; omega)⟩
      have hwf := HWF.out d (List.mem_of_getElem? hd)
      have hg := dcells_get ds i d hd
      have HWD := Lib.hid hwf
      have x0 : w.cell? ⟨gA, oA + i * 15, none⟩ = some (.int .i64 d.t) := by
        have := hcA _ _ (hg 0 _ rfl)
        rw [← Nat.add_assoc] at this
        exact this
      have x1 : w.cell? ⟨gA, oA + i * 15 + 1, none⟩ = some (.int .u8 d.o.k) := by
        have := hcA _ _ (hg 1 _ rfl)
        rw [← Nat.add_assoc] at this
        exact this
      have x2 : w.cell? ⟨gA, oA + i * 15 + 1 + 1, none⟩ = some (.int .u64 d.o.key) := by
        have := hcA _ _ (hg 2 _ rfl)
        rw [← Nat.add_assoc] at this
        exact this
      have x3 : w.cell? ⟨gA, oA + i * 15 + 1 + 2, none⟩ = some (.int .u64 d.o.hi) := by
        have := hcA _ _ (hg 3 _ rfl)
        rw [← Nat.add_assoc] at this
        exact this
      have x4 : w.cell? ⟨gA, oA + i * 15 + 1 + 3, none⟩ = some (.int .u64 d.o.val) := by
        have := hcA _ _ (hg 4 _ rfl)
        rw [← Nat.add_assoc] at this
        exact this
      have x5 : w.cell? ⟨gA, oA + i * 15 + 1 + 4, none⟩ = some (.int .u64 d.o.old) := by
        have := hcA _ _ (hg 5 _ rfl)
        rw [← Nat.add_assoc] at this
        exact this
      have x6 : w.cell? ⟨gA, oA + i * 15 + 1 + 5, none⟩ = some (.int .u64 d.o.by_) := by
        have := hcA _ _ (hg 6 _ rfl)
        rw [← Nat.add_assoc] at this
        exact this
      have x7 : w.cell? ⟨gA, oA + i * 15 + 1 + 6, none⟩ = some (.int .u64 d.o.draw) := by
        have := hcA _ _ (hg 7 _ rfl)
        rw [← Nat.add_assoc] at this
        exact this
      obtain ⟨⟨dt, ⟨dk, da, db, dC, dd, de, df⟩, dj, dby, dr⟩, rfl⟩ : ∃ d', d = d' := ⟨d, rfl⟩
      simp only at x0 x1 x2 x3 x4 x5 x6 x7
      have hw0 := HL.out.1.nw
      haveI : In gA w := ⟨hgA⟩
      haveI : In gA wr := ⟨Nat.lt_of_lt_of_le hgA hw0.grown.size⟩
      haveI : In gm wr := ⟨HL.out.1.im (i := 0) rfl⟩
      have i1 : (i : Int) < (n : Int) := by omega
      have i0 : (0 : Int) ≤ (i : Int) := by omega
      have i2 : i < 1000 := by have := HNN.out; omega
      have HIN := Lib.hid hin
      clear hd hg hcA hwf
      go_upto_region 7 with (fail)
      go_region_held3 (fun w' => w'.cell? ⟨gA, oA + i * 15, none⟩ = some (.int .i64 dt) ∧ w'.cell? ⟨gA, oA + i * 15 + 1, none⟩ = some (.int .u8 dk) ∧ w'.cell? ⟨gA, oA + i * 15 + 1 + 1, none⟩ = some (.int .u64 da) ∧ w'.cell? ⟨gA, oA + i * 15 + 1 + 2, none⟩ = some (.int .u64 db) ∧ w'.cell? ⟨gA, oA + i * 15 + 1 + 3, none⟩ = some (.int .u64 dC) ∧ w'.cell? ⟨gA, oA + i * 15 + 1 + 4, none⟩ = some (.int .u64 dd) ∧ w'.cell? ⟨gA, oA + i * 15 + 1 + 5, none⟩ = some (.int .u64 de) ∧ w'.cell? ⟨gA, oA + i * 15 + 1 + 6, none⟩ = some (.int .u64 df)) (first | exact ⟨cell_nw x0 (Xt.Nw.drew hw0), cell_nw x1 (Xt.Nw.drew hw0), cell_nw x2 (Xt.Nw.drew hw0), cell_nw x3 (Xt.Nw.drew hw0), cell_nw x4 (Xt.Nw.drew hw0), cell_nw x5 (Xt.Nw.drew hw0), cell_nw x6 (Xt.Nw.drew hw0), cell_nw x7 (Xt.Nw.drew hw0)⟩ | exact ⟨cell_nw x0 hwk, cell_nw x1 hwk, cell_nw x2 hwk, cell_nw x3 hwk, cell_nw x4 hwk, cell_nw x5 hwk, cell_nw x6 hwk, cell_nw x7 hwk⟩ | exact ⟨cell_nw x0 hls.nw, cell_nw x1 hls.nw, cell_nw x2 hls.nw, cell_nw x3 hls.nw, cell_nw x4 hls.nw, cell_nw x5 hls.nw, cell_nw x6 hls.nw, cell_nw x7 hls.nw⟩)
        ((first | (go_at_call 4; refine (index_any _ _).mono ?_; rintro r Wk ⟨rfl, hnk0⟩; have hwk : Nw w Wk := (Nw.drew hw0).trans hnk0) | (go_at_call 9; refine (HD.out _ gm s (i + 1) (Lw.grow HL.out.1 ((Nw.drew (Nw.refl wr)).trans hnk0)) (by have := HNN.out; omega) (idxI dt) ⟨dk, da, db, dC, dd, de, df⟩ HWD.out).mono ?_; rintro r W5 ⟨rfl, hls⟩)))
      have HLS := Lib.hid (⟨hls, (doM_len s (idxI dt) ⟨dk, da, db, dC, dd, de, df⟩).1.trans HL.out.2⟩ : Lw w (i + 1 + 1) [(gm, (doM s (idxI dt) ⟨dk, da, db, dC, dd, de, df⟩).2)] [] W5 ∧ (doM s (idxI dt) ⟨dk, da, db, dC, dd, de, df⟩).2.th.length = 3)
      clear hls hwk hnk0
      go_wp2
      exact ⟨⟨i + 1, _, by have := HIN.out; omega, by go_num, HLS⟩, by have := HIN.out; simp [intOf]; omega⟩
    · have i1 : ¬ (i : Int) < (n : Int) := by omega
      go_wp2
      exact bodyPost_ret (results_tmp rfl _ _ _) rfl ⟨gm, rfl, s, HL.out.1.mono (by have := HNN.out; omega), HL.out.2⟩
set_option maxHeartbeats 4000000 in
theorem quiet_any (k : Int) (w : World) : Calls Tryd.prog 5 #[.int .u8 k] w fun e w' => e = .returned (.bool (quietK k)) ∧ Nw w w' := by
  have h1 : quietK k = (decide (k = 3) || (decide (10 ≤ k) && decide (k ≤ 15))) := rfl
  rw [h1]
  clear h1
  by_cases k3 : k = 3
  · subst k3
    go_enter Tryd.func5, Tryd.ntmps5
    go_wp2
    go_ret
    exact ⟨rfl, (by repeat (first | exact Xt.Nw.refl _ | refine Xt.Nw.drew ?_ | refine Xt.Nw.drewN ?_ _ | refine Xt.Nw.alloc ?_ _ | refine Xt.Nw.joined ?_ | refine Xt.Nw.drewd ?_ | refine Xt.Nw.drewdN ?_ | refine Xt.Nw.ext ?_ | refine Xt.Nw.ext_some ?_ (by assumption) | refine Xt.Nw.setCell ?_ (by simp [go_sem] <;> omega) _))⟩
  have e3 : (k == 3) = false := by simpa using k3
  rw [decide_eq_false k3]
  by_cases k10 : 10 ≤ k
  · by_cases k15 : k ≤ 15
    · have d1 := decide_eq_true k10
      have d2 := decide_eq_true k15
      rw [d1, d2]
      go_enter Tryd.func5, Tryd.ntmps5
      go_wp2
      go_ret
      exact ⟨rfl, (by repeat (first | exact Xt.Nw.refl _ | refine Xt.Nw.drew ?_ | refine Xt.Nw.drewN ?_ _ | refine Xt.Nw.alloc ?_ _ | refine Xt.Nw.joined ?_ | refine Xt.Nw.drewd ?_ | refine Xt.Nw.drewdN ?_ | refine Xt.Nw.ext ?_ | refine Xt.Nw.ext_some ?_ (by assumption) | refine Xt.Nw.setCell ?_ (by simp [go_sem] <;> omega) _))⟩
    · have d1 := decide_eq_true k10
      have d2 := decide_eq_false k15
      rw [d1, d2]
      go_enter Tryd.func5, Tryd.ntmps5
      go_wp2
      go_ret
      exact ⟨rfl, (by repeat (first | exact Xt.Nw.refl _ | refine Xt.Nw.drew ?_ | refine Xt.Nw.drewN ?_ _ | refine Xt.Nw.alloc ?_ _ | refine Xt.Nw.joined ?_ | refine Xt.Nw.drewd ?_ | refine Xt.Nw.drewdN ?_ | refine Xt.Nw.ext ?_ | refine Xt.Nw.ext_some ?_ (by assumption) | refine Xt.Nw.setCell ?_ (by simp [go_sem] <;> omega) _))⟩
  · have d1 := decide_eq_false k10
    rw [d1]
    go_enter Tryd.func5, Tryd.ntmps5
    go_wp2
    go_ret
    exact ⟨rfl, (by repeat (first | exact Xt.Nw.refl _ | refine Xt.Nw.drew ?_ | refine Xt.Nw.drewN ?_ _ | refine Xt.Nw.alloc ?_ _ | refine Xt.Nw.joined ?_ | refine Xt.Nw.drewd ?_ | refine Xt.Nw.drewdN ?_ | refine Xt.Nw.ext ?_ | refine Xt.Nw.ext_some ?_ (by assumption) | refine Xt.Nw.setCell ?_ (by simp [go_sem] <;> omega) _))⟩
set_option maxRecDepth 20000 in
@[go_sem high] theorem neqPair (a b c d : Int) (w : World) : (Op.equalIn 10000 78 (.agg #[.int .u64 a, .int .u64 b]) (.agg #[.int .u64 c, .int .u64 d])).run Tryd.prog w = .ok (decide (a = c) && decide (b = d)) w := by
  have hS : Tryd.prog.underlying 78 = some (.struct (Tryd.prog.fieldsOf 78)) := by kernel_rfl
  have hp : Tryd.prog.stoodInHeld 78 = false := by kernel_rfl
  rw [show (10000 : Nat) = 9999 + 1 from rfl, run_equalIn_agg w 9999 78 _ _ hS hp]
  simp only [Program.fieldsOf, Tryd.underlying78]
  go_simp
  simp only [ite_ok0, ite_ok]
  simp only [Bool.decide_and]
set_option maxRecDepth 20000 in
set_option maxHeartbeats 4000000 in
theorem equal_any (A B : Option Addr) (n m ca cb : Nat) (l k : List (Int × Int)) (w : World) (ha : Rd w 2 A n (pcells l)) (hb : Rd w 2 B m (pcells k)) (hn : n ≤ 1000000) (hm : m ≤ 1000000) :
    Calls Tryd.prog 11 #[.slice A n ca, .slice B m cb] w fun e w' => e = .returned (.bool (decide (l = k))) ∧ Nw w w' := by
  have hln : l.length = n := by have := ha.1; rw [pcells_len] at this; omega
  have hkm : k.length = m := by have := hb.1; rw [pcells_len] at this; omega
  by_cases hnm : n = m
  · subst hnm
    have d0 : ((n : Int) != (n : Int)) = false := by simp
    have HA := Lib.hid ha
    have HB := Lib.hid hb
    have HL := Lib.hid hln
    have HK := Lib.hid hkm
    have HN := Lib.hid hn
    clear ha hb hln hkm hm hn
    go_enter Tryd.func11, Tryd.ntmps11
    go_wp2_with fail
    go_loopw [4, 5] (fun _ a wr => ∃ i : Nat, i ≤ n ∧ a = .int .i64 i ∧ Nw w wr ∧ Hid (l.take i = k.take i)) (fun _ a _ => n - (intOf a).toNat)
    case atStart => exact ⟨0, Nat.zero_le _, rfl, (by repeat (first | exact Xt.Nw.refl _ | refine Xt.Nw.drew ?_ | refine Xt.Nw.drewN ?_ _ | refine Xt.Nw.alloc ?_ _ | refine Xt.Nw.joined ?_ | refine Xt.Nw.drewd ?_ | refine Xt.Nw.drewdN ?_ | refine Xt.Nw.ext ?_ | refine Xt.Nw.ext_some ?_ (by assumption) | refine Xt.Nw.setCell ?_ (by simp [go_sem] <;> omega) _)), Lib.hid (by simp)⟩
    case round =>
      obtain ⟨i, hi, rfl, ⟨d, rfl⟩, HT⟩ := hrel
      by_cases hin : i < n
      · obtain ⟨ga, oa, rfl, hga, hca⟩ := HA.out.2 (by omega)
        obtain ⟨gb, ob, rfl, hgb, hcb⟩ := HB.out.2 (by omega)
        haveI : In ga w := ⟨hga⟩
        haveI : In gb w := ⟨hgb⟩
        obtain ⟨⟨x1, x2⟩, hx⟩ : ∃ x, l[i]? = some x := ⟨_, List.getElem?_eq_getElem (by have := HL.out; omega)⟩
        obtain ⟨⟨y1, y2⟩, hy⟩ : ∃ x, k[i]? = some x := ⟨_, List.getElem?_eq_getElem (by have := HK.out; omega)⟩
        obtain ⟨g0, g1⟩ := pcells_get l i _ hx
        obtain ⟨g2, g3⟩ := pcells_get k i _ hy
        have a0 : w.cell? ⟨ga, oa + i * 2, none⟩ = some (.int .u64 x1) := hca _ _ g0
        have a1 : w.cell? ⟨ga, oa + i * 2 + 1, none⟩ = some (.int .u64 x2) := by have := hca _ _ g1; rw [← Nat.add_assoc] at this; exact this
        have b0 : w.cell? ⟨gb, ob + i * 2, none⟩ = some (.int .u64 y1) := hcb _ _ g2
        have b1 : w.cell? ⟨gb, ob + i * 2 + 1, none⟩ = some (.int .u64 y2) := by have := hcb _ _ g3; rw [← Nat.add_assoc] at this; exact this
        have HX := Lib.hid hx
        have HY := Lib.hid hy
        have i1 : (i : Int) < (n : Int) := by omega
        have i0 : (0 : Int) ≤ (i : Int) := by omega
        have i2 : i < 1000000 := by have := HN.out; omega
        have HIN := Lib.hid hin
        clear hx hy g0 g1 g2 g3 hca hcb hin hi
        by_cases heq : x1 = y1 ∧ x2 = y2
        · obtain ⟨rfl, rfl⟩ := heq
          go_upto_region 6 with (fail)
          go_region
          go_wp2
          refine ⟨⟨i + 1, by have := HIN.out; omega, by go_num, (by repeat (first | exact Xt.Nw.refl _ | refine Xt.Nw.drew ?_ | refine Xt.Nw.drewN ?_ _ | refine Xt.Nw.alloc ?_ _ | refine Xt.Nw.joined ?_ | refine Xt.Nw.drewd ?_ | refine Xt.Nw.drewdN ?_ | refine Xt.Nw.ext ?_ | refine Xt.Nw.ext_some ?_ (by assumption) | refine Xt.Nw.setCell ?_ (by simp [go_sem] <;> omega) _)), Lib.hid ?_⟩, by have := HIN.out; simp [intOf]; omega⟩
          obtain ⟨p1, p2⟩ := List.getElem?_eq_some_iff.1 HX.out
          obtain ⟨p3, p4⟩ := List.getElem?_eq_some_iff.1 HY.out
          rw [List.take_succ_eq_append_getElem p1, List.take_succ_eq_append_getElem p3, p2, p4, HT.out]
        · have e0 : (decide (x1 = y1) && decide (x2 = y2)) = false := by
            cases h1 : (decide (x1 = y1) && decide (x2 = y2)) with
            | false => rfl
            | true => exfalso; simp at h1; exact heq h1
          have hne : ¬ l = k := by
            intro h
            have hx := HX.out
            rw [h, HY.out] at hx
            simp at hx
            exact heq ⟨hx.1.symm, hx.2.symm⟩
          go_upto_region 6 with (fail)
          go_region
          go_wp2
          go_ret
          refine ⟨?_, (by repeat (first | exact Xt.Nw.refl _ | refine Xt.Nw.drew ?_ | refine Xt.Nw.drewN ?_ _ | refine Xt.Nw.alloc ?_ _ | refine Xt.Nw.joined ?_ | refine Xt.Nw.drewd ?_ | refine Xt.Nw.drewdN ?_ | refine Xt.Nw.ext ?_ | refine Xt.Nw.ext_some ?_ (by assumption) | refine Xt.Nw.setCell ?_ (by simp [go_sem] <;> omega) _))⟩
          rw [decide_eq_false hne]; try rfl
      · have ei : i = n := by omega
        subst ei
        have hlk : l = k := by
          have h := HT.out
          rw [List.take_of_length_le (by have := HL.out; omega), List.take_of_length_le (by have := HK.out; omega)] at h
          exact h
        go_wp2_with fail
        go_ret
        refine ⟨?_, (by repeat (first | exact Xt.Nw.refl _ | refine Xt.Nw.drew ?_ | refine Xt.Nw.drewN ?_ _ | refine Xt.Nw.alloc ?_ _ | refine Xt.Nw.joined ?_ | refine Xt.Nw.drewd ?_ | refine Xt.Nw.drewdN ?_ | refine Xt.Nw.ext ?_ | refine Xt.Nw.ext_some ?_ (by assumption) | refine Xt.Nw.setCell ?_ (by simp [go_sem] <;> omega) _))⟩
        rw [decide_eq_true hlk]; try rfl
  · have d0 : ((n : Int) != (m : Int)) = true := by simp; omega
    have hne : ¬ l = k := by intro h; rw [h] at hln; omega
    clear ha hb hln hkm
    go_enter Tryd.func11, Tryd.ntmps11
    go_wp2
    go_ret
    refine ⟨?_, (by repeat (first | exact Xt.Nw.refl _ | refine Xt.Nw.drew ?_ | refine Xt.Nw.drewN ?_ _ | refine Xt.Nw.alloc ?_ _ | refine Xt.Nw.joined ?_ | refine Xt.Nw.drewd ?_ | refine Xt.Nw.drewdN ?_ | refine Xt.Nw.ext ?_ | refine Xt.Nw.ext_some ?_ (by assumption) | refine Xt.Nw.setCell ?_ (by simp [go_sem] <;> omega) _))⟩
    rw [decide_eq_false hne]; try rfl
end Go.Proofs.YtahagplegmcaaaaDoor
namespace Go.Proofs.YtahagplegmcaaaaDoor
open Go.RowKit Go.Xt
/-! Key and ModelRefuses, plain. -/
theorem key_beq (a b : List UInt8) : ((⟨a.toArray⟩ : ByteArray).toList == (⟨b.toArray⟩ : ByteArray).toList) = decide (a = b) := by
  rw [ByteArray.toList_eq, ByteArray.toList_eq, Bool.eq_iff_iff]; simp
/-- An iterator that ends shows in the key. -/
theorem key_fin {s : Md} {t : Nat} {x : Th} (hx : s.th[t]? = some x) (hm : x.mo = true) : keyB { s with th := s.th.set t x.fin } ≠ keyB s := by
  obtain ⟨sl, l, th⟩ := s
  obtain ⟨xo, xm, xl, xh, xs⟩ := x
  simp only at hx hm
  subst hm
  obtain ⟨p, e⟩ := List.getElem?_eq_some_iff.1 hx
  obtain ⟨A, B, hA, hl⟩ : ∃ A B, th = A ++ (⟨xo, true, xl, xh, xs⟩ : Th) :: B ∧ A.length = t :=
    ⟨th.take t, th.drop (t + 1), by rw [← e]; simp, by rw [List.length_take]; omega⟩
  subst hl hA
  intro h
  unfold keyB at h
  simp only [List.length_set, List.set_append_right _ _ (Nat.le_refl _), Nat.sub_self, List.set_cons_zero, List.flatMap_append, List.flatMap_cons, List.append_assoc, List.append_cancel_left_eq, Th.fin, thK] at h
  simp [boolK, strB] at h
/-- ErrRetry is accepted exactly of an operation that uses the map and is done. -/
def usesK (k : Int) : Bool := decide (k = 3) || (decide (4 ≤ k) && decide (k ≤ 9)) || decide (k = 10) || decide (k = 12)
def doneM (s : Md) (t : Int) (o : Ox) : Bool := decide ((doM s t o).1.err = 0) || (decide ((doM s t o).1.err = 14) && decide (keyB (doM s t o).2 ≠ keyB s))
theorem doneM_eq (s : Md) (t : Int) (o : Ox) : doneM s t o = (decide ((doM s t o).1.err = 0) || (decide ((doM s t o).1.err = 14) && decide (keyB (doM s t o).2 ≠ keyB s))) := rfl
theorem refuses_eq (s : Md) (t : Int) (o : Ox) : (acceptM s t o rRetry).1 = (usesK o.k && doneM s t o) := by
  rw [acc_retry]
  have hu : usesK o.k = ((decide (3 ≤ o.k) && decide (o.k ≤ 10)) || decide (o.k = 12)) := by
    unfold usesK
    rw [Bool.eq_iff_iff]; simp; omega
  rw [hu]
  simp only
  by_cases hr : refM s t o = 0
  · obtain ⟨t, x, rfl, hx, hc, hre, hd⟩ := refM_zero hr
    rw [decide_eq_true hr]
    cases hk : ((decide (3 ≤ o.k) && decide (o.k ≤ 10)) || decide (o.k = 12)) with
    | false => simp
    | true =>
      have h1 : doneM s t o = true := by
        unfold doneM
        rw [hd]
        rcases perf_err s t x o with h0 | ⟨k1, hp⟩ | ⟨k12, hp⟩
        · simp [h0]
        · exfalso; rw [k1] at hk; simp at hk
        · have hm : x.mo = true := by
            cases hm : x.mo with
            | true => rfl
            | false =>
              exfalso
              unfold refE at hre
              simp only [k12, hm] at hre
              revert hre
              cases x.se <;> cases x.op <;> simp
          have h2 := key_fin hx hm
          rw [hp]
          simp [h2]
      rw [h1]
  · have e : doM s t o = (⟨refM s t o, false, 0, 0, 0⟩, s) := by unfold doM; rw [if_pos hr]
    have h1 : doneM s t o = false := by
      unfold doneM
      rw [e]
      simp [hr]
    rw [h1, decide_eq_false hr]; simp
end Go.Proofs.YtahagplegmcaaaaDoor
namespace Go.Proofs.YtahagplegmcaaaaDoor
open Go.RowKit Go.Xt
/-! The laws' walks: parts; ModelAccepts. -/
section
variable {w W W' : World} {N : Nat} {ms : List (Nat × Md)} {K : List (Nat × Obj)}
theorem Lw.less (h : Lw w N ms K W) {K' : List (Nat × Obj)} (hs : ∀ x ∈ K', x ∈ K) : Lw w N ms K' W := by
  obtain ⟨h0, ps, hl, hA, hD, hK⟩ := h
  exact ⟨h0, ps, hl, hA, hD, fun x hx => hK x (hs x hx)⟩
/-- The pairs of a model, their number under a name. -/
theorem pairs_Lv (h : Lw w N ms K W) (hN : N ≤ 500000) {i gm : Nat} {s : Md} (hi : ms[i]? = some (gm, s)) :
    Calls Tryd.prog 12 #[.pointer (some ⟨gm, 0, none⟩)] W fun e W' => ∃ A n c K', e = .returned (.slice A n c) ∧ n ≤ 500000 ∧ (∀ x ∈ K, x ∈ K') ∧ PV K' A n s.l ∧ Lw w N ms K' W' ∧ Nw W W' := by
  refine (pairs_Lw h hN hi).mono ?_
  rintro e W' ⟨A, c, K', rfl, h1, h2, h3, h4⟩
  obtain ⟨p, _, _, ho, _⟩ := h.at hi
  exact ⟨A, _, c, K', rfl, Nat.le_trans ho.len hN, h1, h2, h3, h4⟩
/-- Two lists of pairs that are kept. -/
theorem equal_Lw (h : Lw w N ms K W) {A B : Option Addr} {n m ca cb : Nat} {l k : List (Int × Int)} (ha : PV K A n l) (hb : PV K B m k) (hn : n ≤ 500000) (hm : m ≤ 500000) {b : Bool} (hd : decide (l = k) = b) :
    Calls Tryd.prog 11 #[.slice A n ca, .slice B m cb] W fun e W' => e = .returned (.bool b) ∧ Nw W W' := by
  rw [← hd]
  exact equal_any A B n m ca cb l k W (ha.rd h) (hb.rd h) (by omega) (by omega)
theorem key_Lv (h : Lw w N ms K W) (hN : N ≤ 500000) (H : FmtAt w) {i gm : Nat} {s : Md} (hi : ms[i]? = some (gm, s)) {z : ByteArray} (hz : z = ⟨(keyB s).toArray⟩) :
    Calls Tryd.prog 10 #[.pointer (some ⟨gm, 0, none⟩)] W fun e W' => e = .returned (.string z) ∧ Nw W W' := by
  rw [hz]
  exact key_Lw h hN H hi
end
theorem perf_key {s : Md} {N : Nat} (hok : s.Ok N) (t : Nat) (x : Th) (o : Ox) : 0 ≤ (perfM s t x o).1.key ∧ (perfM s t x o).1.key < 18446744073709551616 := by
  by_cases k12 : o.k = 12
  · cases hq : nextL x.lo x.hi s.l with
    | none => unfold perfM; simp [k12, hq]
    | some q =>
      have := (hok.u64 q (nextL_mem hq).1).1
      unfold perfM; simp [k12, hq]; omega
  have h0 : (perfM s t x o).1.key = 0 := by
    unfold perfM
    by_cases k1 : o.k = 1
    · rw [if_pos k1]
    rw [if_neg k1]
    by_cases k2 : o.k = 2
    · rw [if_pos k2]
    rw [if_neg k2]
    by_cases k3 : o.k = 3
    · rw [if_pos k3]
    rw [if_neg k3]
    by_cases k4 : o.k = 4
    · rw [if_pos k4]
    rw [if_neg k4]
    by_cases k5 : o.k = 5
    · rw [if_pos k5]
    rw [if_neg k5]
    by_cases k6 : o.k = 6
    · rw [if_pos k6]
    rw [if_neg k6]
    by_cases k7 : o.k = 7
    · rw [if_pos k7]
    rw [if_neg k7]
    by_cases k8 : o.k = 8
    · rw [if_pos k8]
    rw [if_neg k8]
    by_cases k9 : o.k = 9
    · rw [if_pos k9]
    rw [if_neg k9]
    by_cases k10 : o.k = 10
    · rw [if_pos k10]
    rw [if_neg k10]
    by_cases k11 : o.k = 11
    · rw [if_pos k11]
    rw [if_neg k11, if_neg k12]
    by_cases k13 : o.k = 13
    · rw [if_pos k13]
    rw [if_neg k13]
    by_cases k14 : o.k = 14
    · rw [if_pos k14]
    rw [if_neg k14]
  omega
theorem doM_key {s : Md} {N : Nat} (hok : s.Ok N) (t : Int) (o : Ox) : 0 ≤ (doM s t o).1.key ∧ (doM s t o).1.key < 18446744073709551616 := by
  unfold doM
  split
  · simp
  · split
    · exact perf_key hok _ _ _
    · simp
end Go.Proofs.YtahagplegmcaaaaDoor
