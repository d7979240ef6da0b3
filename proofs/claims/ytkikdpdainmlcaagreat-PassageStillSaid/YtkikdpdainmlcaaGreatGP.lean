import Derived.Test.YtkikdpdainmlcaaGreatGM
import Derived.Laws.StructEq
set_option linter.unusedVariables false
set_option linter.unusedSimpArgs false
set_option linter.unnecessarySimpa false
namespace Go.Proofs.YtkikdpdainmlcaaGreat
open Go.RowKit Go.Xt
theorem callInfo : (Tryz.prog.info? 45).map (fun i => (i.zero, i.size, i.bytes)) = some (some (cv zc), 18, 144) := by kernel_rfl
def cells (l : List Cl) : List Value := l.flatMap cl
theorem cells_len (l : List Cl) : (cells l).length = l.length * 18 := by
  induction l with
  | nil => rfl
  | cons x l ih => simp only [cells, List.flatMap_cons, List.length_append] at ih ⊢; rw [ih]; simp only [List.length_cons, List.length_nil]; omega
theorem cells_get : ∀ (l : List Cl) (i : Nat) (c : Cl), l[i]? = some c → ∀ j u, (cl c)[j]? = some u → (cells l)[i * 18 + j]? = some u
  | [], i, c, h => by simp at h
  | y :: l, 0, c, h => fun j u hu => by
    simp at h; subst h
    have hj : j < 18 := (List.getElem?_eq_some_iff.1 hu).1
    rw [Nat.zero_mul, Nat.zero_add]
    show (cl y ++ cells l)[j]? = some u
    rw [List.getElem?_append_left (by exact hj)]; exact hu
  | y :: l, i + 1, c, h => fun j u hu => by
    have := cells_get l i c (by simpa using h) j u hu
    rw [show (i + 1) * 18 + j = 18 + (i * 18 + j) by omega]
    show (cl y ++ cells l)[18 + (i * 18 + j)]? = some u
    rw [List.getElem?_append_right (show (cl y).length ≤ _ by show 18 ≤ _; omega)]
    show (cells l)[18 + (i * 18 + j) - 18]? = some u
    rw [Nat.add_sub_cancel_left]; exact this
theorem cl_one (c : Cl) : ∀ u ∈ cl c, u.oneCell' = true := by
  intro v hv; simp at hv; rcases hv with rfl | rfl | rfl | rfl | rfl | rfl | rfl | rfl | rfl | rfl | rfl | rfl | rfl | rfl | rfl | rfl | rfl | rfl <;> rfl
theorem cells_one (l : List Cl) : ∀ u ∈ cells l, u.oneCell' = true := by
  intro u hu
  simp only [cells, List.mem_flatMap] at hu
  obtain ⟨x, _, hx⟩ := hu
  exact cl_one x u hx
def OwnC (w : World) (base : Nat) (v : Value) (l : List Cl) : Prop := w.ownsRow base 45 18 v l.length (cells l)
theorem OwnC.form {w : World} {base : Nat} {v : Value} {l : List Cl} (h : OwnC w base v l) : ∃ A c, v = .slice A l.length c ∧ Cs w A l.length l ∧ l.length ≤ c ∧ c ≤ 9223372036854775807 ∧ (∀ b o, A = some ⟨b, o, none⟩ → base ≤ b ∧ o = 0) := by
  rcases h.2 with ⟨rfl, h0⟩ | ⟨g, cap, cur, rfl, hb, hg, hn, hm, hcs, ht⟩
  · exact ⟨none, 0, by rw [h0], ⟨rfl, fun hp => absurd hp (by omega)⟩, by omega, by omega, fun b o e => by cases e⟩
  · refine ⟨_, cap, rfl, ⟨rfl, fun _ => ⟨g, 0, rfl, (Array.getElem?_eq_some_iff.1 hg).1, fun i x hx => ?_⟩⟩, hn, hm, fun b o e => by injection e with e; injection e with e1 e2; exact ⟨by omega, by omega⟩⟩
    refine AtC.of_range fun j u hu => ?_
    have hi : i < l.length := (List.getElem?_eq_some_iff.1 hx).1
    have hj : j < 18 := (List.getElem?_eq_some_iff.1 hu).1
    have k0 := World.ownsRow.cellAt h (i * 18 + j) (by omega)
    rw [cells_get l i x hx j u hu] at k0
    rw [show 0 + i * 18 + j = i * 18 + j by omega]
    exact k0
theorem OwnC.cast {w : World} {base : Nat} {v : Value} {l' : List Cl} {n : Nat} {xs : List Value} (h : w.ownsRow base 45 18 v n xs) (hl : l'.length = n) (hx : cells l' = xs) : OwnC w base v l' := by
  subst hl hx; exact h
theorem run_build1' (w : World) (c : Cl) : (Instr.buildSlice 28 1 #[(0, cv c)]).run Tryz.prog w = .ok (.slice (some ⟨w.heap.size, 0, none⟩) 1 1) (w.alloc (.cells #[.int .i64 c.th, .int .i64 c.ix, .int .u8 c.kd, .int .u64 c.ka, .int .u64 c.kb, .int .u64 c.kc, .int .u64 c.kx, .int .u64 c.ky, .int .u64 c.kz, .int .i64 c.inv, .int .i64 c.took, .int .i64 c.ans, .int .i64 c.st, .int .i64 c.re, .bool c.rf, .int .u64 c.rk, .int .u64 c.rv, .int .i64 c.rc] 45)) := by
  simp [go_sem, Tryz.underlying28, Tryz.sizeOf45, Tryz.zeroValue45]
def buildCalls (n : Nat) (ps : Array (Nat × Value)) : Sem Value := Instr.buildSlice 28 n ps
@[go_sem ↓] theorem buildCalls_in (n : Nat) (ps : Array (Nat × Value)) : Instr.buildSlice 28 n ps = buildCalls n ps := rfl
@[go_sem] theorem run_build1 (w : World) (c : Cl) : (buildCalls 1 #[(0, cv c)]).run Tryz.prog w = .ok (.slice (some ⟨w.heap.size, 0, none⟩) 1 1) (w.alloc (.cells #[.int .i64 c.th, .int .i64 c.ix, .int .u8 c.kd, .int .u64 c.ka, .int .u64 c.kb, .int .u64 c.kc, .int .u64 c.kx, .int .u64 c.ky, .int .u64 c.kz, .int .i64 c.inv, .int .i64 c.took, .int .i64 c.ans, .int .i64 c.st, .int .i64 c.re, .bool c.rf, .int .u64 c.rk, .int .u64 c.rv, .int .i64 c.rc] 45)) := run_build1' w c
theorem Cs.rd {w : World} {A : Option Addr} {n : Nat} {l : List Cl} (h : Cs w A n l) : Rd w 18 A n (cells l) :=
  ⟨by rw [cells_len, h.1], fun hn => by
    obtain ⟨b, o, rfl, hb, hc⟩ := h.2 hn
    refine ⟨b, o, rfl, hb, fun j u hu => ?_⟩
    have hj : j < n * 18 := by have := (List.getElem?_eq_some_iff.1 hu).1; rw [cells_len, h.1] at this; exact this
    have hi : j / 18 < l.length := by rw [h.1]; omega
    have hr := (hc (j / 18) _ (List.getElem?_eq_getElem hi)).range
    have hjm : j % 18 < 18 := Nat.mod_lt _ (by omega)
    have hx := cells_get l (j / 18) _ (List.getElem?_eq_getElem hi) (j % 18) _ (List.getElem?_eq_getElem (show j % 18 < (cl l[j / 18]).length from hjm))
    rw [show j / 18 * 18 + j % 18 = j by omega] at hx
    rw [hu] at hx
    have := hr (j % 18) u (by rw [List.getElem?_eq_getElem (show j % 18 < (cl l[j / 18]).length from hjm)]; exact hx.symm)
    rw [show o + j / 18 * 18 + j % 18 = o + j by omega] at this
    exact this⟩
end Go.Proofs.YtkikdpdainmlcaaGreat
namespace Go.Proofs.YtkikdpdainmlcaaGreat
open Go.RowKit Go.Xt
theorem hite_ok0 (p : Prop) [Decidable p] (w : World) : (if p then Result.ok true w else Result.ok false w) = Result.ok (decide p) w := by split <;> simp_all
theorem hite_ok (p q : Prop) [Decidable p] [Decidable q] (w : World) : (if p then Result.ok (decide q) w else Result.ok false w) = Result.ok (decide (p ∧ q)) w := by split <;> simp_all
theorem cl_eq (a b : Cl) : (a = b) ↔ (a.th = b.th ∧ a.ix = b.ix ∧ a.kd = b.kd ∧ a.ka = b.ka ∧ a.kb = b.kb ∧ a.kc = b.kc ∧ a.kx = b.kx ∧ a.ky = b.ky ∧ a.kz = b.kz ∧ a.inv = b.inv ∧ a.took = b.took ∧ a.ans = b.ans ∧ a.st = b.st ∧ a.re = b.re ∧ a.rf = b.rf ∧ a.rk = b.rk ∧ a.rv = b.rv ∧ a.rc = b.rc) := by
  cases a; cases b; simp
set_option maxHeartbeats 1000000 in
@[go_sem high] theorem eqCall (a b : Cl) (w : World) : (Op.equalIn 10000 45 (cv a) (cv b)).run Tryz.prog w = .ok (decide (a = b)) w := by
  have hS : Tryz.prog.underlying 45 = some (.struct (Tryz.prog.fieldsOf 45)) := by kernel_rfl
  have hp : Tryz.prog.stoodInHeld 45 = false := by kernel_rfl
  rw [show (10000 : Nat) = 9999 + 1 from rfl, run_equalIn_agg w 9999 45 _ _ hS hp]
  simp only [Program.fieldsOf, Tryz.underlying45]
  go_simp
  have hd : decide (a = b) = decide (a.th = b.th ∧ a.ix = b.ix ∧ a.kd = b.kd ∧ a.ka = b.ka ∧ a.kb = b.kb ∧ a.kc = b.kc ∧ a.kx = b.kx ∧ a.ky = b.ky ∧ a.kz = b.kz ∧ a.inv = b.inv ∧ a.took = b.took ∧ a.ans = b.ans ∧ a.st = b.st ∧ a.re = b.re ∧ a.rf = b.rf ∧ a.rk = b.rk ∧ a.rv = b.rv ∧ a.rc = b.rc) := by simp only [cl_eq]
  rw [hd]
  simp only [hite_ok0, hite_ok]
end Go.Proofs.YtkikdpdainmlcaaGreat
namespace Go.Proofs.YtkikdpdainmlcaaGreat
open Go.RowKit Go.Xt
end Go.Proofs.YtkikdpdainmlcaaGreat
namespace Go.Proofs.YtkikdpdainmlcaaGreat
open Go.RowKit Go.Xt
def pendK (l : List Cl) : Nat → List Int
  | 0 => []
  | k + 1 => match l[k]? with
    | some x => if x.ans < 0 then pendK l k ++ [(k : Int)] else pendK l k
    | none => pendK l k
set_option maxHeartbeats 2000000 in
theorem copyCalls_any (A : Option Addr) (n c : Nat) (l : List Cl) (w : World) (hn : n ≤ 1000) (hl : Cs w A n l) :
    Calls Tryz.prog 21 #[.slice A n c] w fun e w' => ∃ v, e = .returned v ∧ OwnC w' w.heap.size v l ∧ Nw w w' := by
  have HL := Lib.hid hl
  have hlen := hl.1
  clear hl
  go_enter Tryz.func21, Tryz.ntmps21
  go_wp2_with (at_builtin; refine wpList_appS rfl _ _ 28 rfl 45 (cv zc) 18 144 Tryz.underlying28 callInfo rfl (by decide) w _ (Nw.refl w) _ 0 [] rfl (World.ownsRow_nil _ _ _ _) _ n c (cells l) rfl HL.out.rd (cells_one l) (by unfold maxLen; omega) (by omega) ?_; intro vA dA hownA hnil)
  have h' : OwnC (w.ext none dA) w.heap.size vA l := OwnC.cast hownA (by omega) (by simp)
  refine bodyPost_ret (results_tmp rfl _ _ _) rfl ⟨vA, rfl, h', nwa⟩
end Go.Proofs.YtkikdpdainmlcaaGreat
namespace Go.Proofs.YtkikdpdainmlcaaGreat
open Go.RowKit Go.Xt
theorem ints_len (l : List Int) : (ints l).length = l.length := by simp [ints]
theorem Is.rd {w : World} {A : Option Addr} {n : Nat} {l : List Int} (h : Is w A n l) : Rd w 1 A n (ints l) :=
  ⟨by rw [ints_len, h.1]; omega, fun hn => by
    obtain ⟨b, o, rfl, hb, hc⟩ := h.2 hn
    refine ⟨b, o, rfl, hb, fun j u hu => ?_⟩
    simp only [ints, List.getElem?_map, Option.map_eq_some_iff] at hu
    obtain ⟨x, hx, rfl⟩ := hu
    exact hc j x hx⟩
set_option maxRecDepth 20000 in
set_option maxHeartbeats 4000000 in
theorem equalInts_any (A B : Option Addr) (n m c c' : Nat) (l r : List Int) (w : World) (hn : n ≤ 1000) (hm : m ≤ 1000) (hl : Is w A n l) (hr : Is w B m r) :
    Calls Tryz.prog 53 #[.slice A n c, .slice B m c'] w fun e w' => e = .returned (.bool (decide (l = r))) ∧ Nw w w' := by
  have HL := Lib.hid hl
  have HR := Lib.hid hr
  have hln := hl.1
  have hrn := hr.1
  clear hl hr
  by_cases hnm : n = m
  · subst hnm
    go_enter Tryz.func53, Tryz.ntmps53
    go_wp2
    go_loopw [5] (fun i wr => ∃ k : Nat, k ≤ n ∧ i = .int .i64 k ∧ Hid (l.take k = r.take k) ∧ Nw w wr) (fun i _ => n - (intOf i).toNat)
    case atStart => exact ⟨0, by omega, rfl, rfl, Nw.refl _⟩
    case round =>
      obtain ⟨k, hk, rfl, heq, d, rfl⟩ := hrel
      by_cases hlt : k < n
      · obtain ⟨b, o, x, rfl, hb, hx, hcx⟩ := HL.out.get hlt
        obtain ⟨b', o', y, rfl, hb', hy, hcy⟩ := HR.out.get hlt
        haveI : In b w := ⟨hb⟩
        haveI : In b' w := ⟨hb'⟩
        have HX := Lib.hid hx
        have HY := Lib.hid hy
        have hkn : (k : Int) < (n : Int) := by omega
        clear hx hy
        by_cases he : x = y
        · have hd : (x != y) = false := by simpa using he
          have HE := Lib.hid he
          clear he
          go_wp2
          (refine wp_region_nw (by kernel_rfl) (by kernel_rfl) ?_; (repeat (go_big_quiet_step (fail))); refine wpQuiet_nil ?_; intro _ hreg; obtain ⟨dW, rfl⟩ : Nw _ _ := hreg)
          go_wp2
          refine ⟨⟨k + 1, by omega, by go_num, ?_, nwa⟩, by simp [intOf]; omega⟩
          show _ = _
          obtain ⟨p1, q1⟩ := List.getElem?_eq_some_iff.1 HX.out
          obtain ⟨p2, q2⟩ := List.getElem?_eq_some_iff.1 HY.out
          rw [List.take_succ_eq_append_getElem p1, List.take_succ_eq_append_getElem p2, q1, q2, heq.out, HE.out]
        · have hd : (x != y) = true := by simpa using he
          have HE := Lib.hid he
          clear he
          go_wp2
          (refine wp_region_nw (by kernel_rfl) (by kernel_rfl) ?_; (repeat (go_big_quiet_step (fail))); refine wpQuiet_nil ?_; intro _ hreg; obtain ⟨dW, rfl⟩ : Nw _ _ := hreg)
          go_wp2
          go_ret
          refine ⟨ret_bool ?_, nwa⟩
          symm
          rw [decide_eq_false_iff_not]
          intro e
          have h1 := HX.out
          rw [e, HY.out] at h1
          injection h1 with h1
          exact HE.out h1.symm
      · have hkn : k = n := by omega
        go_wp2
        go_ret
        refine ⟨ret_bool ?_, nwa⟩
        have h1 := heq.out
        rw [hkn, List.take_of_length_le (by omega), List.take_of_length_le (by omega)] at h1
        simp [h1]
  · have hd2 : ((n : Int) != (m : Int)) = true := by simp; omega
    go_enter Tryz.func53, Tryz.ntmps53
    go_wp2
    all_goals first
      | (exfalso; omega)
      | (go_ret; refine ⟨ret_bool ?_, nwa⟩; symm; rw [decide_eq_false_iff_not]; intro e; exact hnm (by rw [← hln, ← hrn, e]))
def plF : List Int → Int → Nat → Int
  | [], _, _ => -1
  | y :: l, i, k => if y = i then (k : Int) else plF l i (k + 1)
end Go.Proofs.YtkikdpdainmlcaaGreat
namespace Go.Proofs.YtkikdpdainmlcaaGreat
open Go.RowKit Go.Xt
attribute [local go_sem] Oper.semAt_some
def OfI (w : World) (t : Int) (pre : List (Nat × Cl)) (W : World) : Prop :=
  (∃ v, Boxed W w.heap.size 28 v ∧ W.ownsRow w.heap.size 45 18 v pre.length (cells (pre.map (·.2))) ∧ True) ∧ (Boxed W (w.heap.size + 1) 3 (.int .i64 t) ∧ Below w.heap.size w W)
theorem boxed_own {β : Type} (B : Nat) (t : TypeId) (v : Value) : Own (fun (_ : β) W => Boxed W B t v) := by
  rintro s X Y row hv hg hrow
  refine Boxed.kept hv hg (fun e' => ?_)
  obtain ⟨o, ho, hc⟩ := hrow B e'.symm
  rw [show X.heap[B]? = _ from hv] at ho; cases ho; cases hc
end Go.Proofs.YtkikdpdainmlcaaGreat
namespace Go.Proofs.YtkikdpdainmlcaaGreat
open Go.RowKit Go.Xt
instance callAt_gen {w : World} {T : TypeId} (a0 a1 a2 a3 a4 a5 a6 a7 a8 a9 a10 a11 a12 a13 : Int) (a14 : Bool) (a15 a16 a17 : Int) : CallAt (w.alloc (.cells #[.int .i64 a0, .int .i64 a1, .int .u8 a2, .int .u64 a3, .int .u64 a4, .int .u64 a5, .int .u64 a6, .int .u64 a7, .int .u64 a8, .int .i64 a9, .int .i64 a10, .int .i64 a11, .int .i64 a12, .int .i64 a13, .bool a14, .int .u64 a15, .int .u64 a16, .int .i64 a17] T)) w.heap.size 0 ⟨a0, a1, a2, a3, a4, a5, a6, a7, a8, a9, a10, a11, a12, a13, a14, a15, a16, a17⟩ :=
  ⟨boxed w ⟨a0, a1, a2, a3, a4, a5, a6, a7, a8, a9, a10, a11, a12, a13, a14, a15, a16, a17⟩ T, by simp⟩
@[go_sem] theorem run_build1g (a0 a1 a2 a3 a4 a5 a6 a7 a8 a9 a10 a11 a12 a13 : Int) (a14 : Bool) (a15 a16 a17 : Int) (w : World) : (buildCalls 1 #[(0, .agg #[.int .i64 a0, .int .i64 a1, .int .u8 a2, .int .u64 a3, .int .u64 a4, .int .u64 a5, .int .u64 a6, .int .u64 a7, .int .u64 a8, .int .i64 a9, .int .i64 a10, .int .i64 a11, .int .i64 a12, .int .i64 a13, .bool a14, .int .u64 a15, .int .u64 a16, .int .i64 a17])]).run Tryz.prog w = .ok (.slice (some ⟨w.heap.size, 0, none⟩) 1 1) (w.alloc (.cells #[.int .i64 a0, .int .i64 a1, .int .u8 a2, .int .u64 a3, .int .u64 a4, .int .u64 a5, .int .u64 a6, .int .u64 a7, .int .u64 a8, .int .i64 a9, .int .i64 a10, .int .i64 a11, .int .i64 a12, .int .i64 a13, .bool a14, .int .u64 a15, .int .u64 a16, .int .i64 a17] 45)) :=
  run_build1 w ⟨a0, a1, a2, a3, a4, a5, a6, a7, a8, a9, a10, a11, a12, a13, a14, a15, a16, a17⟩
theorem chk_cases (l : List Cl) : (bad l = none ∧ chkV l = .tuple #[.int .i64 0, .int .i64 0]) ∨ (∃ i : Nat, bad l = some i ∧ chkV l = .tuple #[.int .i64 (i : Int), .int .i64 15]) := by
  cases h : bad l with
  | none => exact .inl ⟨rfl, by rw [chkV, h]⟩
  | some i => exact .inr ⟨i, rfl, by rw [chkV, h]⟩
def pfx (s : Int) (x : Cl) : Cl :=
  let y : Cl := if s < x.took then { x with took := -1 } else x
  if s < x.ans then { y with ans := -1, st := 0, re := 0, rf := false, rk := 0, rv := 0, rc := 0 } else y
def preE (s : Int) (l : List Cl) : Int := if bad l = none then (if s < -1 then 3 else 0) else 15
def pres (s : Int) (l : List Cl) : List Cl := (l.takeWhile fun x => decide (x.inv ≤ s)).map (pfx s)
def preW (s : Int) (l : List Cl) : List Cl := if preE s l = 0 then pres s l else []
end Go.Proofs.YtkikdpdainmlcaaGreat
namespace Go.Proofs.YtkikdpdainmlcaaGreat
open Go.RowKit Go.Xt
def prer (s : Int) (l : List Cl) : List Cl := (l.filter fun x => decide (x.inv ≤ s)).map (pfx s)
def preR (s : Int) (l : List Cl) : List Cl := if preE s l = 0 then prer s l else []
end Go.Proofs.YtkikdpdainmlcaaGreat
