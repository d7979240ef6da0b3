import Derived.Test.YtkikdpdainmlcaaGreatGA2
import Derived.StillTailTactics
import Derived.Shelf.Abstract
set_option linter.unusedVariables false
set_option linter.unusedSimpArgs false
set_option linter.unnecessarySimpa false
namespace Go.Proofs.YtkikdpdainmlcaaGreat
open Go.RowKit Go.Xt
attribute [local go_sem] Oper.semAt_some
def ord1 (p : List Cl) (x : Cl) : Bool := decide (0 ≤ x.th) && (decide (x.th < 64) && (decide (0 ≤ x.inv) && match p.getLast? with | some z => decide (z.inv < x.inv) | none => true))
theorem heap_set (W : World) (p : Addr) (v : Value) (k : Nat) (h : p.block ≠ k) : (W.setCell p v).heap[k]? = W.heap[k]? := by
  simp only [World.setCell, Array.getElem?_modify]; rw [if_neg h]
theorem ordF_eq (p : List Cl) (x : Cl) : ordF p x = (ord1 p x && decide (x.ix = ((ofT x.th p).length : Nat))) := by
  unfold ordF ord1
  cases decide (0 ≤ x.th) <;> cases decide (x.th < 64) <;> cases decide (x.ix = ((ofT x.th p).length : Nat)) <;> cases decide (0 ≤ x.inv) <;> first | rfl | (simp; done) | (simp; rfl)
set_option maxRecDepth 100000 in
set_option maxHeartbeats 8000000 in
theorem order_any (kb m cap : Nat) (A : Option Addr) (L : List Cl) (x : Cl) (w : World) (hm : m ≤ 1000) (hk : w.cell? ⟨kb, 0, none⟩ = some (.slice A (m + 1) cap)) (hl : Cs w A (m + 1) L) (hx : L[m]? = some x) (hcap : m + 1 ≤ cap) (hcapm : cap ≤ 9223372036854775807) (hw : WfC x) :
    Calls Tryz.prog 40 #[.pointer (some ⟨kb, 0, none⟩), cv x] w fun e w' => e = .returned (.bool (ordF (L.take m) x)) ∧ Nw w w' := by
  have hkb := World.block_lt_of_cell? w _ hk
  haveI : In kb w := ⟨hkb⟩
  obtain ⟨b, o, y, rfl, hb, hy, hcy⟩ := hl.get (show m < m + 1 by omega)
  haveI : In b w := ⟨hb⟩
  have HL := Lib.hid hl
  have HX := Lib.hid hx
  have HWf := Lib.hid hw
  clear hl hx hy hcy hw
  refine (callsIn_wide (n := 9)).1 ?_
  refine callsIn_of_wp_marks Tryz.func40 rfl trivial ?_ rfl
  refine wpIn_wide.2 ?_
  simp only [Tryz.ntmps40, List.size_toArray, List.length_cons, List.length_nil, Nat.reduceAdd, Nat.reduceSub, Array.replicate_succ, Array.replicate_zero, List.push_toArray, List.append_toArray, List.nil_append, List.cons_append]
  go_upto_region 2 with fail
  go_cut [43] from 13 to 43 (fun v wx => v = .bool (!ord1 (L.take m) x) ∧ Nw (w.alloc (.cells #[.int .i64 x.th, .int .i64 x.ix, .int .u8 x.kd, .int .u64 x.ka, .int .u64 x.kb, .int .u64 x.kc, .int .u64 x.kx, .int .u64 x.ky, .int .u64 x.kz, .int .i64 x.inv, .int .i64 x.took, .int .i64 x.ans, .int .i64 x.st, .int .i64 x.re, .bool x.rf, .int .u64 x.rk, .int .u64 x.rv, .int .i64 x.rc] 45)) wx)
  case first =>
    have hpl : m = 0 ∨ ∃ (j : Nat) (z : Cl), m = j + 1 ∧ (L.take m).getLast? = some z ∧ w.cell? ⟨b, o + j * 18 + 9, none⟩ = some (.int .i64 z.inv) := by
      rcases Nat.eq_zero_or_pos m with h | h
      · exact .inl h
      · obtain ⟨j, rfl⟩ : ∃ j, m = j + 1 := ⟨m - 1, by omega⟩
        obtain ⟨b', o', z, e1, _, hz, hcz⟩ := HL.out.get (show j < j + 1 + 1 by omega)
        obtain ⟨rfl, rfl⟩ : b = b' ∧ o = o' := by simpa using e1
        obtain ⟨_, _, _, _, _, _, _, _, _, h9, _⟩ := hcz
        exact .inr ⟨j, z, rfl, take_last hz, h9⟩
    by_cases g1 : x.th < 0
    · have d1 : decide (x.th < 0) = true := by simpa using g1
      (refine wp_region_nw (by kernel_rfl) (by kernel_rfl) ?_; (repeat (go_big_quiet_step (fail))); refine wpQuiet_nil ?_; intro _ hreg; obtain ⟨dW, rfl⟩ : Nw _ _ := hreg)
      go_wp2
      go_meet
      exact ⟨by simp [ord1, show ¬ 0 ≤ x.th by omega], (Nw.refl _).ext⟩
    · have d1 : decide (x.th < 0) = false := by simpa using g1
      by_cases g2 : 64 ≤ x.th
      · have d2 : decide (64 ≤ x.th) = true := by simpa using g2
        (refine wp_region_nw (by kernel_rfl) (by kernel_rfl) ?_; (repeat (go_big_quiet_step (fail))); refine wpQuiet_nil ?_; intro _ hreg; obtain ⟨dW, rfl⟩ : Nw _ _ := hreg)
        go_wp2
        go_meet
        exact ⟨by simp [ord1, show ¬ x.th < 64 by omega], (Nw.refl _).ext⟩
      · have d2 : decide (64 ≤ x.th) = false := by simp; omega
        by_cases g4 : x.inv < 0
        · have d4 : decide (x.inv < 0) = true := by simpa using g4
          (refine wp_region_nw (by kernel_rfl) (by kernel_rfl) ?_; (repeat (go_big_quiet_step (fail))); refine wpQuiet_nil ?_; intro _ hreg; obtain ⟨dW, rfl⟩ : Nw _ _ := hreg)
          go_wp2
          go_meet
          exact ⟨by simp [ord1, show ¬ 0 ≤ x.inv by omega], (Nw.refl _).ext⟩
        · have d4 : decide (x.inv < 0) = false := by simp; omega
          rcases hpl with rfl | ⟨j, z, hij, hz, hcz⟩
          · (refine wp_region_nw (by kernel_rfl) (by kernel_rfl) ?_; (repeat (go_big_quiet_step (fail))); refine wpQuiet_nil ?_; intro _ hreg; obtain ⟨dW, rfl⟩ : Nw _ _ := hreg)
            go_wp2
            go_meet
            refine ⟨?_, (Nw.refl _).ext⟩
            rw [ord1]; simp; omega
          · have hji : IntKind.i64.wrap ((m : Int) - 1) = (j : Int) := by rw [IntKind.wrap_i64] <;> omega
            have di2 : 0 < m := by omega
            have hji2 : (m : Int) - 1 = (j : Int) := by omega
            have hjn : (j : Int) < (m : Int) + 1 := by omega
            have HIJ := Lib.hid hij
            clear hij
            by_cases g5 : x.inv ≤ z.inv
            · have d5 : decide (x.inv ≤ z.inv) = true := by simpa using g5
              (refine wp_region_nw (by kernel_rfl) (by kernel_rfl) ?_; (repeat (go_big_quiet_step (fail))); refine wpQuiet_nil ?_; intro _ hreg; obtain ⟨dW, rfl⟩ : Nw _ _ := hreg)
              go_wp2
              go_meet
              refine ⟨?_, (Nw.refl _).ext⟩
              rw [ord1, hz]; simp; omega
            · have d5 : decide (x.inv ≤ z.inv) = false := by simp; omega
              (refine wp_region_nw (by kernel_rfl) (by kernel_rfl) ?_; (repeat (go_big_quiet_step (fail))); refine wpQuiet_nil ?_; intro _ hreg; obtain ⟨dW, rfl⟩ : Nw _ _ := hreg)
              go_wp2
              go_meet
              refine ⟨?_, (Nw.refl _).ext⟩
              rw [ord1, hz]; simp; omega
  case rest =>
    obtain ⟨hv, dW, rfl⟩ := hcut
    subst hv
    cases ho : ord1 (L.take m) x with
    | false =>
      have HO := Lib.hid ho
      clear ho
      go_wp2
      refine ⟨_, results_tmp rfl _ _ _, ?_, nwa⟩
      rw [ordF_eq, HO.out]; rfl
    | true =>
      have HO := Lib.hid ho
      clear ho
      go_upto_region 5 with fail
      have f1 : (((w.alloc (.cells #[.int .i64 x.th, .int .i64 x.ix, .int .u8 x.kd, .int .u64 x.ka, .int .u64 x.kb, .int .u64 x.kc, .int .u64 x.kx, .int .u64 x.ky, .int .u64 x.kz, .int .i64 x.inv, .int .i64 x.took, .int .i64 x.ans, .int .i64 x.st, .int .i64 x.re, .bool x.rf, .int .u64 x.rk, .int .u64 x.rv, .int .i64 x.rc] 45)).ext none dW).alloc (.cells #[.int .i64 0] 3)).cell? ⟨w.heap.size, 0, none⟩ = some (.int .i64 x.th) := by simp [go_sem]
      have f1b : (((w.alloc (.cells #[.int .i64 x.th, .int .i64 x.ix, .int .u8 x.kd, .int .u64 x.ka, .int .u64 x.kb, .int .u64 x.kc, .int .u64 x.kx, .int .u64 x.ky, .int .u64 x.kz, .int .i64 x.inv, .int .i64 x.took, .int .i64 x.ans, .int .i64 x.st, .int .i64 x.re, .bool x.rf, .int .u64 x.rk, .int .u64 x.rv, .int .i64 x.rc] 45)).ext none dW).alloc (.cells #[.int .i64 0] 3)).cell? ⟨w.heap.size, 1, none⟩ = some (.int .i64 x.ix) := by simp [go_sem]
      have f2 : (((w.alloc (.cells #[.int .i64 x.th, .int .i64 x.ix, .int .u8 x.kd, .int .u64 x.ka, .int .u64 x.kb, .int .u64 x.kc, .int .u64 x.kx, .int .u64 x.ky, .int .u64 x.kz, .int .i64 x.inv, .int .i64 x.took, .int .i64 x.ans, .int .i64 x.st, .int .i64 x.re, .bool x.rf, .int .u64 x.rk, .int .u64 x.rv, .int .i64 x.rc] 45)).ext none dW).alloc (.cells #[.int .i64 0] 3)).cell? ⟨kb, 0, none⟩ = some (.slice (some ⟨b, o, none⟩) (m + 1) cap) := by simp [go_sem, hk]
      have f3 : Nw w (((w.alloc (.cells #[.int .i64 x.th, .int .i64 x.ix, .int .u8 x.kd, .int .u64 x.ka, .int .u64 x.kb, .int .u64 x.kc, .int .u64 x.kx, .int .u64 x.ky, .int .u64 x.kz, .int .i64 x.inv, .int .i64 x.took, .int .i64 x.ans, .int .i64 x.st, .int .i64 x.re, .bool x.rf, .int .u64 x.rk, .int .u64 x.rv, .int .i64 x.rc] 45)).ext none dW).alloc (.cells #[.int .i64 0] 3)) := nwa
      have f4 : (((w.alloc (.cells #[.int .i64 x.th, .int .i64 x.ix, .int .u8 x.kd, .int .u64 x.ka, .int .u64 x.kb, .int .u64 x.kc, .int .u64 x.kx, .int .u64 x.ky, .int .u64 x.kz, .int .i64 x.inv, .int .i64 x.took, .int .i64 x.ans, .int .i64 x.st, .int .i64 x.re, .bool x.rf, .int .u64 x.rk, .int .u64 x.rv, .int .i64 x.rc] 45)).ext none dW).alloc (.cells #[.int .i64 0] 3)).cell? ⟨((w.alloc (.cells #[.int .i64 x.th, .int .i64 x.ix, .int .u8 x.kd, .int .u64 x.ka, .int .u64 x.kb, .int .u64 x.kc, .int .u64 x.kx, .int .u64 x.ky, .int .u64 x.kz, .int .i64 x.inv, .int .i64 x.took, .int .i64 x.ans, .int .i64 x.st, .int .i64 x.re, .bool x.rf, .int .u64 x.rk, .int .u64 x.rv, .int .i64 x.rc] 45)).ext none dW).heap.size, 0, none⟩ = some (.int .i64 0) ∧ (((w.alloc (.cells #[.int .i64 x.th, .int .i64 x.ix, .int .u8 x.kd, .int .u64 x.ka, .int .u64 x.kb, .int .u64 x.kc, .int .u64 x.kx, .int .u64 x.ky, .int .u64 x.kz, .int .i64 x.inv, .int .i64 x.took, .int .i64 x.ans, .int .i64 x.st, .int .i64 x.re, .bool x.rf, .int .u64 x.rk, .int .u64 x.rv, .int .i64 x.rc] 45)).ext none dW).alloc (.cells #[.int .i64 0] 3)).frozen? ⟨((w.alloc (.cells #[.int .i64 x.th, .int .i64 x.ix, .int .u8 x.kd, .int .u64 x.ka, .int .u64 x.kb, .int .u64 x.kc, .int .u64 x.kx, .int .u64 x.ky, .int .u64 x.kz, .int .i64 x.inv, .int .i64 x.took, .int .i64 x.ans, .int .i64 x.st, .int .i64 x.re, .bool x.rf, .int .u64 x.rk, .int .u64 x.rv, .int .i64 x.rc] 45)).ext none dW).heap.size, 0, none⟩ = false := by simp [go_sem]
      have f5 : (((w.alloc (.cells #[.int .i64 x.th, .int .i64 x.ix, .int .u8 x.kd, .int .u64 x.ka, .int .u64 x.kb, .int .u64 x.kc, .int .u64 x.kx, .int .u64 x.ky, .int .u64 x.kz, .int .i64 x.inv, .int .i64 x.took, .int .i64 x.ans, .int .i64 x.st, .int .i64 x.re, .bool x.rf, .int .u64 x.rk, .int .u64 x.rv, .int .i64 x.rc] 45)).ext none dW).alloc (.cells #[.int .i64 0] 3)).heap.size = ((w.alloc (.cells #[.int .i64 x.th, .int .i64 x.ix, .int .u8 x.kd, .int .u64 x.ka, .int .u64 x.kb, .int .u64 x.kc, .int .u64 x.kx, .int .u64 x.ky, .int .u64 x.kz, .int .i64 x.inv, .int .i64 x.took, .int .i64 x.ans, .int .i64 x.st, .int .i64 x.re, .bool x.rf, .int .u64 x.rk, .int .u64 x.rv, .int .i64 x.rc] 45)).ext none dW).heap.size + 1 := by simp
      have f6 : w.heap.size + 1 ≤ ((w.alloc (.cells #[.int .i64 x.th, .int .i64 x.ix, .int .u8 x.kd, .int .u64 x.ka, .int .u64 x.kb, .int .u64 x.kc, .int .u64 x.kx, .int .u64 x.ky, .int .u64 x.kz, .int .i64 x.inv, .int .i64 x.took, .int .i64 x.ans, .int .i64 x.st, .int .i64 x.re, .bool x.rf, .int .u64 x.rk, .int .u64 x.rv, .int .i64 x.rc] 45)).ext none dW).heap.size := by have := le_size (w.alloc (.cells #[.int .i64 x.th, .int .i64 x.ix, .int .u8 x.kd, .int .u64 x.ka, .int .u64 x.kb, .int .u64 x.kc, .int .u64 x.kx, .int .u64 x.ky, .int .u64 x.kz, .int .i64 x.inv, .int .i64 x.took, .int .i64 x.ans, .int .i64 x.st, .int .i64 x.re, .bool x.rf, .int .u64 x.rk, .int .u64 x.rv, .int .i64 x.rc] 45)) none dW; simp at this; exact this
      obtain ⟨Bi, hBi⟩ : ∃ Bi, Bi = ((w.alloc (.cells #[.int .i64 x.th, .int .i64 x.ix, .int .u8 x.kd, .int .u64 x.ka, .int .u64 x.kb, .int .u64 x.kc, .int .u64 x.kx, .int .u64 x.ky, .int .u64 x.kz, .int .i64 x.inv, .int .i64 x.took, .int .i64 x.ans, .int .i64 x.st, .int .i64 x.re, .bool x.rf, .int .u64 x.rk, .int .u64 x.rv, .int .i64 x.rc] 45)).ext none dW).heap.size := ⟨_, rfl⟩
      rw [← hBi] at f4 f5 f6 ⊢
      generalize (((w.alloc (.cells #[.int .i64 x.th, .int .i64 x.ix, .int .u8 x.kd, .int .u64 x.ka, .int .u64 x.kb, .int .u64 x.kc, .int .u64 x.kx, .int .u64 x.ky, .int .u64 x.kz, .int .i64 x.inv, .int .i64 x.took, .int .i64 x.ans, .int .i64 x.st, .int .i64 x.re, .bool x.rf, .int .u64 x.rk, .int .u64 x.rv, .int .i64 x.rc] 45)).ext none dW).alloc (.cells #[.int .i64 0] 3)) = W5 at f1 f1b f2 f3 f4 f5 ⊢
      clear hBi
      have hmc : (m : Int) ≤ (cap : Int) := by omega
      haveI : In w.heap.size W5 := ⟨by omega⟩
      haveI : In kb W5 := ⟨Nat.lt_of_lt_of_le hkb f3.grown.size⟩
      go_still_tail 8, (by kernel_rfl)
      change wpList _ _ _ _ _ W5.drew
      have g1 : W5.drew.cell? ⟨w.heap.size, 1, none⟩ = some (.int .i64 x.ix) := f1b
      have g3 : Nw w W5.drew := f3.drew
      have g4 : W5.drew.cell? ⟨Bi, 0, none⟩ = some (.int .i64 0) ∧ W5.drew.frozen? ⟨Bi, 0, none⟩ = false := f4
      have g5 : W5.drew.heap.size = Bi + 1 := f5
      generalize W5.drew = W6 at g1 g3 g4 g5 ⊢
      clear f1 f1b f2 f3 f4 f5
      go_wp2_with (go_at_call 62; refine (hof_any _ _ _ _ _).mono ?_; rintro e w' ⟨rfl, rfl⟩)
      have hB6 : Below w.heap.size w W6 := g3.below
      have hsz6 := hB6.size
      have hW7 : ((W6.alloc (.cells #[.int .i64 x.th] 3)).alloc (.cells #[.slice (some ⟨b, o, none⟩) m cap] 28)).heap.size = W6.heap.size + 1 + 1 := by simp
      have hCs := (HL.out.take (show m ≤ m + 1 by omega)).nw (((Nw.of_below hB6).alloc (.cells #[.int .i64 x.th] 3)).alloc (.cells #[.slice (some ⟨b, o, none⟩) m cap] 28))
      have c1 : ((W6.alloc (.cells #[.int .i64 x.th] 3)).alloc (.cells #[.slice (some ⟨b, o, none⟩) m cap] 28)).cell? ⟨W6.heap.size + 1, 0, none⟩ = some (.slice (some ⟨b, o, none⟩) m cap) := by simp [go_sem]
      have c2 : ((W6.alloc (.cells #[.int .i64 x.th] 3)).alloc (.cells #[.slice (some ⟨b, o, none⟩) m cap] 28)).cell? ⟨W6.heap.size, 0, none⟩ = some (.int .i64 x.th) := by simp [go_sem]
      haveI : In Bi W6 := ⟨by omega⟩
      haveI : In w.heap.size W6 := ⟨by omega⟩
      have k1 : ((W6.alloc (.cells #[.int .i64 x.th] 3)).alloc (.cells #[.slice (some ⟨b, o, none⟩) m cap] 28)).cell? ⟨Bi, 0, none⟩ = some (.int .i64 0) := by simp [go_sem, g4.1]
      have k2 : ((W6.alloc (.cells #[.int .i64 x.th] 3)).alloc (.cells #[.slice (some ⟨b, o, none⟩) m cap] 28)).frozen? ⟨Bi, 0, none⟩ = false := by simp [go_sem, g4.2]
      have k3 : ((W6.alloc (.cells #[.int .i64 x.th] 3)).alloc (.cells #[.slice (some ⟨b, o, none⟩) m cap] 28)).cell? ⟨w.heap.size, 1, none⟩ = some (.int .i64 x.ix) := by simp [go_sem, g1]
      have hB7 : Below w.heap.size w ((W6.alloc (.cells #[.int .i64 x.th] 3)).alloc (.cells #[.slice (some ⟨b, o, none⟩) m cap] 28)) := (hB6.alloc hsz6 _).alloc (by simp; omega) _
      have HO2 := HO
      generalize hW7e : (W6.alloc (.cells #[.int .i64 x.th] 3)).alloc (.cells #[.slice (some ⟨b, o, none⟩) m cap] 28) = W7 at hW7 hCs c1 c2 k1 k2 k3 hB7 ⊢
      rw [g5] at hW7 c1 c2
      clear hW7e g1 g3 g4 g5
      refine (wpIn_wide (n := 9)).1 ?_
      refine wpIn_rangeFunc_ownG (F := Fence.wide) (n := 9) rfl (by omega) (gf := 76) (lb := #[.pointer (some ⟨Bi + 1 + 1, 0, none⟩), .pointer (some ⟨Bi + 1, 0, none⟩)]) rfl trivial (Go.Proofs.enters_of Tryz.func76 (by kernel_rfl) rfl)
        (of_stops Fence.wide (9 - 1) trivial rfl (by omega) (Bi + 1 + 1) (Bi + 1) w.heap.size x.th (some ⟨b, o, none⟩) m cap (L.take m) (by omega) W7 (by omega) (fun _ b' o' e => by injection e with e; injection e with e1 e2; omega) c1 c2 hCs) KT.trans (KT.put (by omega) (by omega)) (Below.refl _ _) (fun _ => rfl)
        (fun pre W => (W.cell? ⟨Bi, 0, none⟩ = some (.int .i64 (pre.length : Int)) ∧ W.frozen? ⟨Bi, 0, none⟩ = false ∧ W.cell? ⟨w.heap.size, 1, none⟩ = some (.int .i64 x.ix)) ∧ Below w.heap.size w W)
        (fun _ _ _ => False)
        (OwnFrom.and (Own.from (fun s A B row hs hg hr => ⟨cell_kept hs.1 hg hr, (frozen_kept hs.1 hg hr).trans hs.2.1, cell_kept hs.2.2 hg hr⟩) _) (ownFrom_below (Nat.le_refl _) (by omega)))
        (fun _ _ _ _ _ hs _ _ => hs)
        ⟨⟨k1, k2, k3⟩, hB7⟩
        (fun z => { tmps := #[.pointer (some ⟨kb, 0, none⟩), cv x, undef, .pointer (some ⟨w.heap.size, 0, none⟩), .bool false, .int .i64 (m : Int), .pointer (some ⟨Bi, 0, none⟩), .pointer (some ⟨kb, 0, none⟩), .pointer (some ⟨kb, 0, none⟩), .pointer (some ⟨kb, 0, none⟩), .slice (some ⟨b, o, none⟩) (m + 1) cap, .int .i64 ((m : Int) + 1), .int .i64 (m : Int), u13, u14, u15, u16, u17, u18, u19, u20, u21, u22, u23, u24, u25, u26, u27, u28, u29, u30, u31, u32, u33, u34, u35, u36, u37, u38, u39, u40, u41, u42, .bool false, .pointer (some ⟨w.heap.size, 0, none⟩), .int .i64 x.th, .pointer (some ⟨kb, 0, none⟩), .pointer (some ⟨kb, 0, none⟩), .pointer (some ⟨kb, 0, none⟩), .slice (some ⟨b, o, none⟩) (m + 1) cap, .int .i64 (m : Int), .slice (some ⟨b, o, none⟩) m cap, .func (.func 76) #[] #[.pointer (some ⟨Bi + 1 + 1, 0, none⟩), .pointer (some ⟨Bi + 1, 0, none⟩)], .int .i64 (z.1 : Int), cv z.2, undef, undef, undef, undef, undef, undef], defers := [] }) ?assign ?body ?done ?stop
      case assign =>
        intro l z W K hK
        gi_wp2
        exact hK
      case body =>
        rintro l pre z W ⟨⟨hc, hf, hx1⟩, hB⟩ hlt
        have hlt' : (pre.length : Int) + 1 ≤ 9223372036854775807 := by omega
        gi_wp2
        have hs := World.cell?_setCell_same' W ⟨Bi, 0, none⟩ (.int .i64 ((pre.length : Int) + 1)) (by rw [hc]; rfl)
        have hne : (W.setCell ⟨Bi, 0, none⟩ (.int .i64 ((pre.length : Int) + 1))).cell? ⟨w.heap.size, 1, none⟩ = some (.int .i64 x.ix) := by
          rw [World.cell?_setCell_other _ _ _ _ (by simp <;> omega)]; exact hx1
        refine ⟨(KeepsOthers.setCell _ _ _).from _, ⟨(Below.refl _ W).setCell (p := ⟨Bi, 0, none⟩) (by show w.heap.size ≤ Bi; omega) _, heap_set _ _ _ _ (by show Bi ≠ Bi + 1; omega)⟩, ⟨?_, (World.frozen?_setCell ..).trans hf, hne⟩, hB.setCell (p := ⟨Bi, 0, none⟩) (by show w.heap.size ≤ Bi; omega) _⟩
        rw [hs]; simp
      case done =>
        rintro D ys W hD rfl ⟨⟨hc, hf, hx1⟩, hB⟩ hK
        go_wp2
        refine ⟨by simp, .inl ⟨_, _, rfl, run_takeDeferred hK, ?_⟩⟩
        refine ⟨_, results_tmp rfl _ _ _, ?_, Nw.of_below (hB.trans (belowK_b (w := w) (Nat.le_refl _) W D _ _ (by omega) hK rfl rfl))⟩
        have h1 : (ofK x.th (L.take m) m).length = (ofT x.th (L.take m)).length := by
          have h2 := ofK_of x.th (L.take m) m (by rw [List.length_take, HL.out.1]; omega)
          rw [List.take_take, Nat.min_self] at h2
          rw [← h2, List.length_map]
        rw [ordF_eq, HO2.out, ← h1, Bool.true_and]
        rfl
      case stop =>
        rintro D c pre W _ _ h _
        exact h.elim
end Go.Proofs.YtkikdpdainmlcaaGreat
namespace Go.Proofs.YtkikdpdainmlcaaGreat
open Go.RowKit Go.Xt
attribute [local go_sem] Oper.semAt_some
structure Wrote (b : Nat) (W W' : World) : Prop where
  os : W'.os = W.os
  tape : W'.tape = W.tape
  output : W'.output = W.output
  size : W'.heap.size = W.heap.size
  others : ∀ k, k ≠ b → W'.heap[k]? = W.heap[k]?
  keeps : KeepsOthers W W'
theorem Wrote.refl (b : Nat) (W : World) : Wrote b W W := ⟨rfl, rfl, rfl, rfl, fun _ _ => rfl, KeepsOthers.refl _⟩
theorem Wrote.setCell {b : Nat} {W W' : World} (h : Wrote b W W') (o : Nat) (v : Value) : Wrote b W (W'.setCell ⟨b, o, none⟩ v) :=
  ⟨h.os, h.tape, h.output, by simpa using h.size, fun k hk => (heap_set _ _ _ _ (fun e => hk e.symm)).trans (h.others k hk), h.keeps.trans (KeepsOthers.setCell _ _ _)⟩
theorem wrote_setCells (b : Nat) : ∀ (vs : List Value) (o : Nat) (W W' : World), Wrote b W W' → Wrote b W (W'.setCells b o vs)
  | [], _, _, _, h => h
  | v :: r, o, W, W', h => by rw [World.setCells]; exact wrote_setCells b r (o + 1) W _ (h.setCell o v)
theorem Wrote.below {b n₀ : Nat} {W W' : World} (h : Wrote b W W') (hb : n₀ ≤ b) : Below n₀ W W' :=
  ⟨h.os, h.tape, h.output, by rw [h.size]; exact Nat.le_refl _, fun k hk => h.others k (by omega)⟩
theorem Wrote.cell {b : Nat} {W W' : World} (h : Wrote b W W') {k i : Nat} (hk : k ≠ b) : W'.cell? ⟨k, i, none⟩ = W.cell? ⟨k, i, none⟩ := World.cell?_of_block (h.others k hk)
theorem Wrote.frozen {b : Nat} {W W' : World} (h : Wrote b W W') {k i : Nat} (hk : k ≠ b) : W'.frozen? ⟨k, i, none⟩ = W.frozen? ⟨k, i, none⟩ := World.frozen?_of_block (h.others k hk)
theorem AtC.same {W W' : World} {k o : Nat} {c : Cl} (h : AtC W k o c) (e : ∀ i, W'.cell? ⟨k, i, none⟩ = W.cell? ⟨k, i, none⟩) : AtC W' k o c := by
  simpa only [AtC, e] using h
theorem AtC.kept {A B : World} {row : Option Nat} {b o : Nat} {c : Cl} (h : AtC A b o c) (hg : A.grownBy B row) (hr : ∀ r, row = some r → ∃ o : Obj, A.heap[r]? = some o ∧ o.isCells = false) : AtC B b o c := by
  obtain ⟨a0, a1, a2, a3, a4, a5, a6, a7, a8, a9, a10, a11, a12, a13, a14, a15, a16, a17⟩ := h
  exact ⟨cell_kept a0 hg hr, cell_kept a1 hg hr, cell_kept a2 hg hr, cell_kept a3 hg hr, cell_kept a4 hg hr, cell_kept a5 hg hr, cell_kept a6 hg hr, cell_kept a7 hg hr, cell_kept a8 hg hr, cell_kept a9 hg hr, cell_kept a10 hg hr, cell_kept a11 hg hr, cell_kept a12 hg hr, cell_kept a13 hg hr, cell_kept a14 hg hr, cell_kept a15 hg hr, cell_kept a16 hg hr, cell_kept a17 hg hr⟩
theorem AtC.some {W : World} {b : Nat} {c : Cl} (h : AtC W b 0 c) (j : Nat) (hj : j < 18) : ∃ v, W.cell? ⟨b, 0 + j, none⟩ = some v :=
  ⟨(cl c)[j]'(by simpa using hj), h.range j _ (List.getElem?_eq_getElem (by simpa using hj))⟩
def Box (W : World) (b : Nat) (c : Cl) : Prop := AtC W b 0 c ∧ ∀ j, j < 18 → W.frozen? ⟨b, 0 + j, none⟩ = false
theorem Box.kept {A B : World} {row : Option Nat} {b : Nat} {c : Cl} (h : Box A b c) (hg : A.grownBy B row) (hr : ∀ r, row = some r → ∃ o : Obj, A.heap[r]? = some o ∧ o.isCells = false) : Box B b c :=
  ⟨h.1.kept hg hr, fun j hj => by obtain ⟨v, hv⟩ := h.1.some j hj; exact (frozen_kept hv hg hr).trans (h.2 j hj)⟩
theorem Box.same {W W' : World} {k : Nat} {c : Cl} (h : Box W k c) (e : W'.heap[k]? = W.heap[k]?) : Box W' k c :=
  ⟨h.1.same fun _ => World.cell?_of_block e, fun j hj => (World.frozen?_of_block e).trans (h.2 j hj)⟩
theorem Box.there {W : World} {b : Nat} {c : Cl} (h : Box W b c) : W.there b 0 18 := fun j hj => ⟨by obtain ⟨v, hv⟩ := h.1.some j hj; rw [hv]; rfl, h.2 j hj⟩
theorem AtC.of_range {w : World} {b o : Nat} {c : Cl} (h : w.rangeAt b o (cl c)) : AtC w b o c :=
  ⟨h 0 _ rfl, h 1 _ rfl, h 2 _ rfl, h 3 _ rfl, h 4 _ rfl, h 5 _ rfl, h 6 _ rfl, h 7 _ rfl, h 8 _ rfl, h 9 _ rfl, h 10 _ rfl, h 11 _ rfl, h 12 _ rfl, h 13 _ rfl, h 14 _ rfl, h 15 _ rfl, h 16 _ rfl, h 17 _ rfl⟩
theorem store_box {W : World} {b : Nat} {c0 : Cl} (h : Box W b c0) (c : Cl) : ∃ W', (storeCall (.pointer (some ⟨b, 0, none⟩)) (cv c)).run Tryz.prog W = .ok () W' ∧ Box W' b c ∧ Wrote b W W' := by
  refine ⟨_, run_storeAt_mid W b 0 45 (cl c).toArray h.there sizeCall (all_oneCell_toArray (by intro v hv; simp at hv; rcases hv with rfl | rfl | rfl | rfl | rfl | rfl | rfl | rfl | rfl | rfl | rfl | rfl | rfl | rfl | rfl | rfl | rfl | rfl <;> rfl)), ⟨AtC.of_range (World.rangeAt_setCells_same W b 0 (cl c) h.there), fun j hj => ?_⟩, wrote_setCells b _ _ _ _ (Wrote.refl _ _)⟩
  rw [World.frozen?_setCells]; exact h.2 j hj
theorem newBox (w : World) (c : Cl) : Box (w.alloc (.cells #[.int .i64 c.th, .int .i64 c.ix, .int .u8 c.kd, .int .u64 c.ka, .int .u64 c.kb, .int .u64 c.kc, .int .u64 c.kx, .int .u64 c.ky, .int .u64 c.kz, .int .i64 c.inv, .int .i64 c.took, .int .i64 c.ans, .int .i64 c.st, .int .i64 c.re, .bool c.rf, .int .u64 c.rk, .int .u64 c.rv, .int .i64 c.rc] 45)) w.heap.size c := ⟨boxed w c _, fun j hj => World.frozen?_alloc_new _ _ _ _⟩
end Go.Proofs.YtkikdpdainmlcaaGreat
