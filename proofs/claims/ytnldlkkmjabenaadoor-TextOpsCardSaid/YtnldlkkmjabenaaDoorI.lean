import Derived.Test.YtnldlkkmjabenaaDoorH
import Derived.Laws.StructEq
import Derived.Laws.Closers25
namespace Go.Proofs.YtnldlkkmjabenaaDoor
open Go.RowKit Go.Xt
theorem u64Info : (Tryd.prog.info? 22).map (fun i => (i.zero, i.size, i.bytes)) = some (some (.int .u64 0), 1, 8) := by kernel_rfl
structure WfO (x : Opn) : Prop where
  kd : 0 ≤ x.kd ∧ x.kd < 256
  ky : 0 ≤ x.ky ∧ x.ky < 18446744073709551616
  hi : 0 ≤ x.hi ∧ x.hi < 18446744073709551616
  vl : 0 ≤ x.vl ∧ x.vl < 18446744073709551616
  od : 0 ≤ x.od ∧ x.od < 18446744073709551616
  bt : 0 ≤ x.bt ∧ x.bt < 18446744073709551616
  dr : 0 ≤ x.dr ∧ x.dr < 18446744073709551616
theorem WfO.sel {x : Opn} (h : WfO x) : ∀ o, 0 ≤ sel x o ∧ sel x o < 18446744073709551616 := fun o => by
  match o with
  | 0 => exact ⟨by show (0 : Int) ≤ 0; omega, by show (0 : Int) < _; omega⟩
  | 1 => exact h.ky
  | 2 => exact h.hi
  | 3 => exact h.vl
  | 4 => exact h.od
  | 5 => exact h.bt
  | 6 => exact h.dr
  | n + 7 => exact ⟨by show (0 : Int) ≤ 0; omega, by show (0 : Int) < _; omega⟩
def allF (x : Opn) : List Nat := [x.kd.toNat, x.ky.toNat, x.hi.toNat, x.vl.toNat, x.od.toNat, x.bt.toNat, x.dr.toNat]
def useF (x : Opn) : List Nat := (offs x.kd).map fun o => (sel x o).toNat
/-- The line of an operation. -/
def lineO (x : Opn) : List UInt8 := if wordL x.kd = [] ∨ usedO x ≠ x then jn [111, 112] (allF x) else jn (wordL x.kd) (useF x)
theorem opn_eq (a b : Opn) : (a = b) ↔ (a.kd = b.kd ∧ a.ky = b.ky ∧ a.hi = b.hi ∧ a.vl = b.vl ∧ a.od = b.od ∧ a.bt = b.bt ∧ a.dr = b.dr) := by
  cases a; cases b; simp
theorem ite_ok0 (p : Prop) [Decidable p] (w : World) : (if p then Result.ok true w else Result.ok false w) = Result.ok (decide p) w := by split <;> simp_all
theorem ite_ok (p q : Prop) [Decidable p] [Decidable q] (w : World) : (if p then Result.ok (decide q) w else Result.ok false w) = Result.ok (decide (p ∧ q)) w := by split <;> simp_all
@[go_sem high] theorem eqOpn (a b : Opn) (w : World) : (Op.equalIn 10000 24 (ov a) (ov b)).run Tryd.prog w = .ok (decide (a = b)) w := by
  have hS : Tryd.prog.underlying 24 = some (.struct (Tryd.prog.fieldsOf 24)) := by kernel_rfl
  have hp : Tryd.prog.stoodInHeld 24 = false := by kernel_rfl
  rw [show (10000 : Nat) = 9999 + 1 from rfl, run_equalIn_agg w 9999 24 _ _ hS hp]
  simp only [Program.fieldsOf, Tryd.underlying24]
  go_simp
  have hd : decide (a = b) = decide (a.kd = b.kd ∧ a.ky = b.ky ∧ a.hi = b.hi ∧ a.vl = b.vl ∧ a.od = b.od ∧ a.bt = b.bt ∧ a.dr = b.dr) := by simp only [opn_eq]
  rw [hd]
  simp only [ite_ok0, ite_ok]
theorem nums_int {l : List Int} (h : ∀ z ∈ l, 0 ≤ z) : nums (l.map Int.toNat) = l.map fun z => Value.int .u64 z := by
  rw [nums, List.map_map]
  refine List.map_congr_left fun z hz => ?_
  simp [Function.comp, Int.toNat_of_nonneg (h z hz)]
theorem wordL_len (k : Int) : (wordL k).length ≤ 7 := by
  have h : ∀ w ∈ wtab, w.length ≤ 7 := by decide
  unfold wordL
  cases he : wtab[k.toNat]? with
  | none => simp
  | some v => exact h v (List.mem_of_getElem? he)
theorem allF_nums {x : Opn} (h : WfO x) : nums (allF x) = [.int .u64 x.kd, .int .u64 x.ky, .int .u64 x.hi, .int .u64 x.vl, .int .u64 x.od, .int .u64 x.bt, .int .u64 x.dr] := by
  have := nums_int (l := [x.kd, x.ky, x.hi, x.vl, x.od, x.bt, x.dr]) (by
    intro z hz
    simp only [List.mem_cons, List.not_mem_nil, or_false] at hz
    rcases hz with rfl | rfl | rfl | rfl | rfl | rfl | rfl
    · exact h.kd.1
    · exact h.ky.1
    · exact h.hi.1
    · exact h.vl.1
    · exact h.od.1
    · exact h.bt.1
    · exact h.dr.1)
  exact this
theorem allF_lt {x : Opn} (h : WfO x) : ∀ z ∈ allF x, z < 18446744073709551616 := by
  intro z hz
  have := h.kd; have := h.ky; have := h.hi; have := h.vl; have := h.od; have := h.bt; have := h.dr
  simp only [allF, List.mem_cons, List.not_mem_nil, or_false] at hz
  rcases hz with rfl | rfl | rfl | rfl | rfl | rfl | rfl <;> omega
theorem useF_nums {x : Opn} (h : WfO x) : nums (useF x) = (offs x.kd).map fun o => Value.int .u64 (sel x o) := by
  rw [nums, useF, List.map_map]
  refine List.map_congr_left fun o _ => ?_
  simp [Function.comp, Int.toNat_of_nonneg (h.sel o).1]
theorem useF_lt {x : Opn} (h : WfO x) : ∀ z ∈ useF x, z < 18446744073709551616 := by
  intro z hz
  rw [useF, List.mem_map] at hz
  obtain ⟨o, _, rfl⟩ := hz
  have := h.sel o; omega
theorem own_rd {W : World} {base : Nat} {e : TypeId} {v : Value} {n : Nat} {xs : List Value} (h : W.ownsRow base e 1 v n xs) : ∃ A c, v = .slice A n c ∧ Rd W 1 A n xs := by
  rcases h.2 with ⟨rfl, rfl⟩ | ⟨g, cap, cur, rfl, hb, hg, hn, hm, hcs, ht⟩
  · refine ⟨none, 0, rfl, h.1, fun hp => absurd hp (by omega)⟩
  · refine ⟨_, cap, rfl, h.1, fun _ => ⟨g, 0, rfl, (Array.getElem?_eq_some_iff.1 hg).1, fun j u hu => ?_⟩⟩
    have hj : j < n := by have := (List.getElem?_eq_some_iff.1 hu).1; have := h.1; omega
    rw [Nat.zero_add, World.ownsRow.cellAt h j (by omega)]; exact hu
set_option maxRecDepth 20000 in
set_option maxHeartbeats 4000000 in
theorem op_any (x : Opn) (w : World) (H : FmtAt w) (hx : WfO x) :
    Calls Tryd.prog 7 #[ov x] w fun e w' => e = .returned (.tuple #[.string ⟨(lineO x).toArray⟩, .int .i64 0]) ∧ Nw w w' := by
  obtain ⟨W1, hW1⟩ : ∃ W1, W1 = w.alloc (.cells #[.int .u8 x.kd, .int .u64 x.ky, .int .u64 x.hi, .int .u64 x.vl, .int .u64 x.od, .int .u64 x.bt, .int .u64 x.dr] 24) := ⟨_, rfl⟩
  have hN1 : Nw w W1 := by rw [hW1]; exact (by repeat (first | exact Xt.Nw.refl _ | refine Xt.Nw.drew ?_ | refine Xt.Nw.drewN ?_ _ | refine Xt.Nw.alloc ?_ _ | refine Xt.Nw.joined ?_ | refine Xt.Nw.drewd ?_ | refine Xt.Nw.drewdN ?_ | refine Xt.Nw.ext ?_ | refine Xt.Nw.ext_some ?_ (by assumption) | refine Xt.Nw.setCell ?_ (by simp [go_sem] <;> omega) _))
  have hA1 : AtO W1 w.heap.size x := by
    rw [hW1]; exact ⟨by simp, by simp [go_sem], sel_cases ⟨by simp [go_sem, sel], by simp [go_sem, sel], by simp [go_sem, sel], by simp [go_sem, sel], by simp [go_sem, sel], by simp [go_sem, sel]⟩⟩
  have HW1 := Lib.hid hW1
  have HN1 := Lib.hid hN1
  have HA1 := Lib.hid hA1
  have HX := Lib.hid hx
  have HF := Lib.hid H
  have hk := hx.kd
  have c0 : W1.cell? ⟨w.heap.size, 0, none⟩ = some (.int .u8 x.kd) := hA1.2.1
  have c1 : W1.cell? ⟨w.heap.size, 1, none⟩ = some (.int .u64 x.ky) := hA1.2.2 1 (by omega) (by omega)
  have c2 : W1.cell? ⟨w.heap.size, 2, none⟩ = some (.int .u64 x.hi) := hA1.2.2 2 (by omega) (by omega)
  have c3 : W1.cell? ⟨w.heap.size, 3, none⟩ = some (.int .u64 x.vl) := hA1.2.2 3 (by omega) (by omega)
  have c4 : W1.cell? ⟨w.heap.size, 4, none⟩ = some (.int .u64 x.od) := hA1.2.2 4 (by omega) (by omega)
  have c5 : W1.cell? ⟨w.heap.size, 5, none⟩ = some (.int .u64 x.bt) := hA1.2.2 5 (by omega) (by omega)
  have c6 : W1.cell? ⟨w.heap.size, 6, none⟩ = some (.int .u64 x.dr) := hA1.2.2 6 (by omega) (by omega)
  haveI : In w.heap.size W1 := ⟨hA1.1⟩
  clear hW1 hN1 hA1 hx H
  by_cases hw : wordL x.kd = []
  · have HL := Lib.hid (show lineO x = jn [111, 112] (allF x) by rw [lineO, if_pos (.inl hw)])
    have hwa := Lib.hid (fun W => word_any x.kd W hk.1 hk.2)
    rw [hw] at hwa
    clear hw
    go_enter Tryd.func7, Tryd.ntmps7
    go_wp2_with fail
    rw [← HW1.out]
    refine (hwa.out _).mono ?_
    rintro e w' ⟨rfl, dW, rfl⟩
    go_upto_region 2 with (fail)
    (refine wp_region_nw (by kernel_rfl) (by kernel_rfl) ?_; (repeat (go_big_quiet_step (fail))); refine wpQuiet_nil ?_; intro _ hreg; obtain ⟨dW, rfl⟩ : Nw _ _ := hreg)
    go_wp2_with fail
    refine (join_any [111, 112] _ 7 7 (allF x) _ (HF.out.nw (HN1.out.trans ((by repeat (first | exact Xt.Nw.refl _ | refine Xt.Nw.drew ?_ | refine Xt.Nw.drewN ?_ _ | refine Xt.Nw.alloc ?_ _ | refine Xt.Nw.joined ?_ | refine Xt.Nw.drewd ?_ | refine Xt.Nw.drewdN ?_ | refine Xt.Nw.ext ?_ | refine Xt.Nw.ext_some ?_ (by assumption) | refine Xt.Nw.setCell ?_ (by simp [go_sem] <;> omega) _))))) (by omega) (by simp) (allF_lt HX.out) (Rd_built _ _ _ 7 _ (by rw [allF_nums HX.out]) (by rfl))).mono ?_
    rintro e w' ⟨rfl, dY, rfl⟩
    go_wp2
    refine bodyPost_ret (results_tmp2 rfl _ _ _) rfl ⟨by rw [HL.out]; rfl, HN1.out.trans ((by repeat (first | exact Xt.Nw.refl _ | refine Xt.Nw.drew ?_ | refine Xt.Nw.drewN ?_ _ | refine Xt.Nw.alloc ?_ _ | refine Xt.Nw.joined ?_ | refine Xt.Nw.drewd ?_ | refine Xt.Nw.drewdN ?_ | refine Xt.Nw.ext ?_ | refine Xt.Nw.ext_some ?_ (by assumption) | refine Xt.Nw.setCell ?_ (by simp [go_sem] <;> omega) _)))⟩
  · obtain ⟨s, hs⟩ : ∃ s : ByteArray, s = ⟨(wordL x.kd).toArray⟩ := ⟨_, rfl⟩
    have hne : ¬ s = ⟨#[]⟩ := by
      rw [hs]; intro e
      injection e with e
      have := congrArg Array.toList e
      simp at this
      exact hw this
    have d1 : s.toList.isEmpty = false := by
      rw [← decide_eq_emptyBytes, decide_eq_false_iff_not]; exact hne
    have hwa := Lib.hid (fun W => word_any x.kd W hk.1 hk.2)
    rw [← hs] at hwa
    have HS := Lib.hid hs
    by_cases hu : usedO x = x
    · have du : decide (usedO x = x) = true := by simpa using hu
      have HL := Lib.hid (show lineO x = jn (wordL x.kd) (useF x) by rw [lineO, if_neg (by rintro (h | h); exact hw h; exact h hu)])
      have hua := Lib.hid (fun W => used_any x W)
      rw [hu] at hua
      clear hw hs hu du hne
      go_enter Tryd.func7, Tryd.ntmps7
      go_wp2_with fail
      rw [← HW1.out]
      refine (hwa.out _).mono ?_
      rintro e w' ⟨rfl, d0, rfl⟩
      go_upto_region 2 with (fail)
      (refine wp_region_nw (by kernel_rfl) (by kernel_rfl) ?_; (repeat (go_big_quiet_step ((go_at_call 13; exact quiet_of (hua.out _))))); refine wpQuiet_nil ?_; intro _ hreg; obtain ⟨dW, rfl⟩ : Nw _ _ := hreg)
      go_wp2_with fail
      have hA3 := HA1.out.nw (show Nw W1 ((W1.ext none d0).ext none dW) from (by repeat (first | exact Xt.Nw.refl _ | refine Xt.Nw.drew ?_ | refine Xt.Nw.drewN ?_ _ | refine Xt.Nw.alloc ?_ _ | refine Xt.Nw.joined ?_ | refine Xt.Nw.drewd ?_ | refine Xt.Nw.drewdN ?_ | refine Xt.Nw.ext ?_ | refine Xt.Nw.ext_some ?_ (by assumption) | refine Xt.Nw.setCell ?_ (by simp [go_sem] <;> omega) _)))
      refine (fields_any x.kd w.heap.size _ hA3.1 hA3.2.1).mono ?_
      rintro e W3 ⟨A, cA, rfl, ⟨hr, -⟩, hn3⟩
      have hn13 : Nw W1 W3 := Nw.trans ((by repeat (first | exact Xt.Nw.refl _ | refine Xt.Nw.drew ?_ | refine Xt.Nw.drewN ?_ _ | refine Xt.Nw.alloc ?_ _ | refine Xt.Nw.joined ?_ | refine Xt.Nw.drewd ?_ | refine Xt.Nw.drewdN ?_ | refine Xt.Nw.ext ?_ | refine Xt.Nw.ext_some ?_ (by assumption) | refine Xt.Nw.setCell ?_ (by simp [go_sem] <;> omega) _))) hn3
      obtain ⟨l, hl⟩ : ∃ l, offs x.kd = l := ⟨_, rfl⟩
      obtain ⟨n, hn⟩ : ∃ n, l.length = n := ⟨_, rfl⟩
      have hn4 : n ≤ 4 := by rw [← hn, ← hl]; exact offs_len _
      rw [hl, hn] at hr ⊢
      have hrng : ∀ o ∈ l, 1 ≤ o ∧ o ≤ 6 := by rw [← hl]; exact offs_rng _
      have HR := Lib.hid hrng
      have HP := Lib.hid hr
      have HA3 := Lib.hid (HA1.out.nw hn13)
      have HN3 := Lib.hid (HN1.out.trans hn13)
      have HLO := Lib.hid hl
      have HNL := Lib.hid hn
      haveI : In w.heap.size W3 := ⟨HA3.out.1⟩
      clear hr hn13 hn3 hA3 hrng hl hn c0 c1 c2 c3 c4 c5 c6
      go_wp2_with fail
      go_loopw [5, 7, 38] (fun a _ b wr => ∃ i : Nat, i ≤ n ∧ b = .int .i64 i ∧ wr.ownsRow W3.heap.size 22 1 a i ((l.take i).map fun o => Value.int .u64 (sel x o)) ∧ Nw W3 wr) (fun _ _ b _ => n - (intOf b).toNat)
      case atStart => exact ⟨0, by omega, rfl, World.ownsRow_nil _ _ _ _, Nw.refl _⟩
      case round =>
        obtain ⟨i, hi, rfl, hown, d, rfl⟩ := hrel
        by_cases hlt : i < n
        · obtain ⟨bf, of, q, rfl, hbf, hq, hcf⟩ := Is_ptr HP.out hlt
          haveI : In bf W3 := ⟨hbf⟩
          have hqr := HR.out q (List.mem_of_getElem? hq)
          obtain ⟨sq, hsq⟩ : ∃ sq, sq = sel x q := ⟨_, rfl⟩
          have f3 : W3.cell? ⟨w.heap.size, q, none⟩ = some (.int .u64 sq) := by rw [hsq]; exact HA3.out.2.2 q hqr.1 hqr.2
          have hin : (i : Int) < (n : Int) := by omega
          have HQ := Lib.hid hq
          have HSQ := Lib.hid hsq
          clear hq hqr hsq
          go_wp2_with (at_builtin; refine wpList_app1 rfl _ _ 41 rfl 22 (.int .u64 0) 1 8 Tryd.underlying41 u64Info rfl (by decide) (W3) _ (by repeat (first | exact Xt.Nw.refl _ | refine Xt.Nw.drew ?_ | refine Xt.Nw.drewN ?_ _ | refine Xt.Nw.alloc ?_ _ | refine Xt.Nw.joined ?_ | refine Xt.Nw.drewd ?_ | refine Xt.Nw.drewdN ?_ | refine Xt.Nw.ext ?_ | refine Xt.Nw.ext_some ?_ (by assumption) | refine Xt.Nw.setCell ?_ (by simp [go_sem] <;> omega) _)) _ _ _ rfl (by first | assumption | exact own_nw (by assumption) (by repeat (first | exact Xt.Nw.refl _ | refine Xt.Nw.drew ?_ | refine Xt.Nw.drewN ?_ _ | refine Xt.Nw.alloc ?_ _ | refine Xt.Nw.joined ?_ | refine Xt.Nw.drewd ?_ | refine Xt.Nw.drewdN ?_ | refine Xt.Nw.ext ?_ | refine Xt.Nw.ext_some ?_ (by assumption) | refine Xt.Nw.setCell ?_ (by simp [go_sem] <;> omega) _))) _ 1 1 _ _ rfl (by first | rfl | simp) rfl (by intro u hu; simp at hu; (repeat' rcases hu with rfl | hu) <;> first | rfl | (subst hu; rfl)) (by unfold maxLen; omega) (by omega) ?_; intro vA dA hownA)
          refine ⟨⟨i + 1, by omega, by go_num, ?_, ⟨_, rfl⟩⟩, by first | (simp [intOf]; omega) | omega⟩
          obtain ⟨p1, q1⟩ := List.getElem?_eq_some_iff.1 HQ.out
          rw [List.take_succ_eq_append_getElem p1, q1, List.map_append]
          rw [HSQ.out] at hownA
          exact hownA
        · have hin : ¬ (i : Int) < (n : Int) := by omega
          have hi2 : i = n := by omega
          have hown2 : (W3.ext none d).ownsRow W3.heap.size 22 1 u5 n (nums (useF x)) := by
            rw [useF_nums HX.out, HLO.out]
            rw [hi2, List.take_of_length_le (by have := HNL.out; omega)] at hown
            exact hown
          obtain ⟨A5, c5, rfl, hr5⟩ := own_rd hown2
          have HR5 := Lib.hid hr5
          clear hown hown2 hr5 hi2
          go_wp2_with fail
          rw [HS.out]
          refine (join_any (wordL x.kd) A5 n c5 (useF x) _ (HF.out.nw (HN3.out.trans ((by repeat (first | exact Xt.Nw.refl _ | refine Xt.Nw.drew ?_ | refine Xt.Nw.drewN ?_ _ | refine Xt.Nw.alloc ?_ _ | refine Xt.Nw.joined ?_ | refine Xt.Nw.drewd ?_ | refine Xt.Nw.drewdN ?_ | refine Xt.Nw.ext ?_ | refine Xt.Nw.ext_some ?_ (by assumption) | refine Xt.Nw.setCell ?_ (by simp [go_sem] <;> omega) _))))) (by omega) (by have := wordL_len x.kd; omega) (useF_lt HX.out) HR5.out).mono ?_
          rintro e w' ⟨rfl, dY, rfl⟩
          go_wp2
          refine bodyPost_ret (results_tmp2 rfl _ _ _) rfl ⟨by rw [HL.out]; rfl, HN3.out.trans ((by repeat (first | exact Xt.Nw.refl _ | refine Xt.Nw.drew ?_ | refine Xt.Nw.drewN ?_ _ | refine Xt.Nw.alloc ?_ _ | refine Xt.Nw.joined ?_ | refine Xt.Nw.drewd ?_ | refine Xt.Nw.drewdN ?_ | refine Xt.Nw.ext ?_ | refine Xt.Nw.ext_some ?_ (by assumption) | refine Xt.Nw.setCell ?_ (by simp [go_sem] <;> omega) _)))⟩
    · have du : decide (usedO x = x) = false := by simpa using hu
      have HL := Lib.hid (show lineO x = jn [111, 112] (allF x) by rw [lineO, if_pos (.inr hu)])
      have hua := Lib.hid (fun W => used_any x W)
      obtain ⟨y, hy⟩ : ∃ y, usedO x = y := ⟨_, rfl⟩
      rw [hy] at hua du
      clear hw hs hu hy hne
      go_enter Tryd.func7, Tryd.ntmps7
      go_wp2_with fail
      rw [← HW1.out]
      refine (hwa.out _).mono ?_
      rintro e w' ⟨rfl, d0, rfl⟩
      go_upto_region 2 with (fail)
      (refine wp_region_nw (by kernel_rfl) (by kernel_rfl) ?_; (repeat (go_big_quiet_step ((go_at_call 13; exact quiet_of (hua.out _))))); refine wpQuiet_nil ?_; intro _ hreg; obtain ⟨dW, rfl⟩ : Nw _ _ := hreg)
      go_wp2_with fail
      refine (join_any [111, 112] _ 7 7 (allF x) _ (HF.out.nw (HN1.out.trans ((by repeat (first | exact Xt.Nw.refl _ | refine Xt.Nw.drew ?_ | refine Xt.Nw.drewN ?_ _ | refine Xt.Nw.alloc ?_ _ | refine Xt.Nw.joined ?_ | refine Xt.Nw.drewd ?_ | refine Xt.Nw.drewdN ?_ | refine Xt.Nw.ext ?_ | refine Xt.Nw.ext_some ?_ (by assumption) | refine Xt.Nw.setCell ?_ (by simp [go_sem] <;> omega) _))))) (by omega) (by simp) (allF_lt HX.out) (Rd_built _ _ _ 7 _ (by rw [allF_nums HX.out]) (by rfl))).mono ?_
      rintro e w' ⟨rfl, dY, rfl⟩
      go_wp2
      refine bodyPost_ret (results_tmp2 rfl _ _ _) rfl ⟨by rw [HL.out]; rfl, HN1.out.trans ((by repeat (first | exact Xt.Nw.refl _ | refine Xt.Nw.drew ?_ | refine Xt.Nw.drewN ?_ _ | refine Xt.Nw.alloc ?_ _ | refine Xt.Nw.joined ?_ | refine Xt.Nw.drewd ?_ | refine Xt.Nw.drewdN ?_ | refine Xt.Nw.ext ?_ | refine Xt.Nw.ext_some ?_ (by assumption) | refine Xt.Nw.setCell ?_ (by simp [go_sem] <;> omega) _)))⟩
end Go.Proofs.YtnldlkkmjabenaaDoor
