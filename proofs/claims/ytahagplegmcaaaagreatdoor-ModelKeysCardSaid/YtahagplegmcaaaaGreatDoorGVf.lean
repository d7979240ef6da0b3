import Derived.Test.YtahagplegmcaaaaGreatDoorGVd
import Derived.Test.YtahagplegmcaaaaGreatDoorGPm
set_option linter.unusedVariables false
set_option linter.unusedSimpArgs false
set_option linter.unnecessarySimpa false
namespace Go.Proofs.YtahagplegmcaaaaGreatDoor
open Go.RowKit Go.Xt
/-! The reference's map: Next; Same. -/
set_option maxRecDepth 20000 in
@[go_sem high] theorem rneqPair (a b c d : Int) (w : World) : (Op.equalIn 10000 106 (.agg #[.int .u64 a, .int .u64 b]) (.agg #[.int .u64 c, .int .u64 d])).run Tryz.prog w = .ok (decide (a = c) && decide (b = d)) w := by
  have hS : Tryz.prog.underlying 106 = some (.struct (Tryz.prog.fieldsOf 106)) := by kernel_rfl
  have hp : Tryz.prog.stoodInHeld 106 = false := by kernel_rfl
  rw [show (10000 : Nat) = 9999 + 1 from rfl, run_equalIn_agg w 9999 106 _ _ hS hp]
  simp only [Program.fieldsOf, Tryz.underlying106]
  go_simp
  simp only [ite_ok0, ite_ok]
  simp only [Bool.decide_and]
set_option maxRecDepth 20000 in
set_option maxHeartbeats 4000000 in
theorem rnext_om {w : World} {gp : Nat} {v : Value} {l : List (Int × Int)} (h : OM w gp v l) (hn : l.length ≤ 1000000) (lo hi : Int) (hlh : lo ≤ hi) :
    Calls Tryz.prog 68 #[.pointer (some ⟨gp, 0, none⟩), spV lo hi] w fun e w' => e = .returned (.tuple #[spV ((nextL lo hi l).getD (0, 0)).1 ((nextL lo hi l).getD (0, 0)).2, .bool (nextL lo hi l).isSome, .int .i64 0]) ∧ Nw w w' := by
  haveI : In gp w := ⟨h.lt⟩
  have HR := Lib.hid (fun W (hw : Nw w W) => rrange_om (h.nw hw) hn lo hi hlh)
  unfold spV at HR ⊢
  have hml : (inR lo hi l).length ≤ l.length := List.length_filter_le _ _
  have hnx : nextL lo hi l = (inR lo hi l)[0]? := rfl
  rw [hnx]
  obtain ⟨R, hRR⟩ : ∃ R, R = inR lo hi l := ⟨_, rfl⟩
  rw [← hRR] at HR hml ⊢
  have HML := Lib.hid (Nat.le_trans hml hn)
  clear h hlh hn hml hnx hRR
  cases R with
  | nil =>
    simp only [List.getElem?_nil, Option.getD_none, Option.isSome_none]
    go_enter Tryz.func68, Tryz.ntmps68
    go_wp2_with fail
    refine (HR.out _ ((by repeat (first | exact Xt.Nw.refl _ | refine Xt.Nw.drew ?_ | refine Xt.Nw.drewN ?_ _ | refine Xt.Nw.alloc ?_ _ | refine Xt.Nw.joined ?_ | refine Xt.Nw.drewd ?_ | refine Xt.Nw.drewdN ?_ | refine Xt.Nw.ext ?_ | refine Xt.Nw.ext_some ?_ (by assumption) | refine Xt.Nw.setCell ?_ (by simp [go_sem] <;> omega) _)))).mono ?_
    rintro e W2 ⟨A, c, rfl, -, d2, rfl⟩
    go_wp2
    refine bodyPost_ret (v := .tuple #[.agg #[.int .u64 0, .int .u64 0], .bool false, .int .i64 0]) ?_ rfl ⟨rfl, (by repeat (first | exact Xt.Nw.refl _ | refine Xt.Nw.drew ?_ | refine Xt.Nw.drewN ?_ _ | refine Xt.Nw.alloc ?_ _ | refine Xt.Nw.joined ?_ | refine Xt.Nw.drewd ?_ | refine Xt.Nw.drewdN ?_ | refine Xt.Nw.ext ?_ | refine Xt.Nw.ext_some ?_ (by assumption) | refine Xt.Nw.setCell ?_ (by simp [go_sem] <;> omega) _))⟩
    simp [results, Tryz.results68, go_sem]
  | cons y R =>
    obtain ⟨yk, yx⟩ := y
    simp only [List.getElem?_cons_zero, Option.getD_some, Option.isSome_some]
    obtain ⟨w2, hw2⟩ : ∃ W, W = (w.alloc (.cells #[.int .u64 lo, .int .u64 hi] 71)).alloc (.cells #[.int .u64 0, .int .u64 0] 106) := ⟨_, rfl⟩
    obtain ⟨q, hq⟩ : ∃ q, q = w.heap.size + 1 := ⟨_, rfl⟩
    have hA : Nw w w2 := by rw [hw2]; exact ((Nw.refl _).alloc _).alloc _
    have b0 : w2.cell? ⟨q, 0, none⟩ = some (.int .u64 0) := by rw [hw2, hq]; simp [go_sem]
    have b1 : w2.cell? ⟨q, 1, none⟩ = some (.int .u64 0) := by rw [hw2, hq]; simp [go_sem]
    have z0 : ∀ i, w2.frozen? ⟨q, i, none⟩ = false := fun i => by rw [hw2, hq]; simp [go_sem]
    have HA := Lib.hid hA
    have HQ := Lib.hid (show w.heap.size ≤ q by omega)
    have HW := Lib.hid hw2
    have HQQ := Lib.hid hq
    haveI : In q w2 := ⟨World.block_lt_of_cell? _ _ b0⟩
    clear hA hw2 hq
    go_enter Tryz.func68, Tryz.ntmps68
    go_wp2_with fail
    rw [← HW.out, ← HQQ.out]
    refine (HR.out _ HA.out).mono ?_
    rintro e W2 ⟨A, c, rfl, hrow, hn2⟩
    obtain ⟨g, c', hA, hgw, hin, -, -⟩ : ∃ g c', A = some ⟨g, 0, none⟩ ∧ w2.heap.size ≤ g ∧ In g W2 ∧ True ∧ c' = c := by
      rcases own_forms hrow with ⟨h1, h2⟩ | ⟨g, c', h1, h2, h3, _⟩
      · simp at h2
      · injection h1 with h1 _ h4; exact ⟨g, c', h1, h2, h3, trivial, h4.symm⟩
    subst hA
    have y0 : W2.cell? ⟨g, 0, none⟩ = some (.int .u64 yk) := hrow.cellAt 0 (by simp)
    have y1 : W2.cell? ⟨g, 1, none⟩ = some (.int .u64 yx) := hrow.cellAt 1 (by simp; omega)
    obtain ⟨d2, rfl⟩ := hn2
    have hlen : (((yk, yx) :: R).length : Int) = ((R.length : Int) + 1) := by simp
    obtain ⟨m, hm⟩ : ∃ m, m = ((yk, yx) :: R).length := ⟨_, rfl⟩
    have hm0 : 0 < m := by rw [hm]; simp
    have HM := Lib.hid hm
    rw [← hm]
    have i0 : (0 : Int) < (m : Int) := by omega
    have d0 : ((m : Int) == 0) = false := by simp; omega
    have d3 : ((0 : Int) == (m : Int)) = false := by simp; omega
    have hne : g ≠ q := by have := World.block_lt_of_cell? _ _ b0; simp at this; omega
    clear hrow hlen hm hgw
    go_wp2
    refine bodyPost_ret (v := .tuple #[.agg #[.int .u64 yk, .int .u64 yx], .bool true, .int .i64 0]) ?_ rfl ⟨rfl, ?_⟩
    · simp [results, Tryz.results68, go_sem, b0, b1]
    · exact ((HA.out.setCell (p := ⟨q, 0, none⟩) HQ.out _).setCell (p := ⟨q, 1, none⟩) HQ.out _).ext
set_option maxRecDepth 20000 in
set_option maxHeartbeats 4000000 in
theorem rsame_any (A B : Option Addr) (n m ca cb : Nat) (l k : List (Int × Int)) (w : World) (ha : Rd w 2 A n (pcells l)) (hb : Rd w 2 B m (pcells k)) (hn : n ≤ 1000000) (hm : m ≤ 1000000) :
    Calls Tryz.prog 39 #[.slice A n ca, .slice B m cb] w fun e w' => e = .returned (.bool (decide (l = k))) ∧ Nw w w' := by
  have hln : l.length = n := by have := ha.1; rw [pcells_len] at this; omega
  have hkm : k.length = m := by have := hb.1; rw [pcells_len] at this; omega
  by_cases hnm : n = m
  · subst hnm
    have d0 : ((n : Int) != (n : Int)) = false := by simp
    have HA := Lib.hid ha
    have HB := Lib.hid hb
    have HL := Lib.hid hln
    have HK := Lib.hid hkm
    have HN := Lib.hid hn
    clear ha hb hln hkm hm hn
    go_enter Tryz.func39, Tryz.ntmps39
    go_wp2_with fail
    go_loopw [5] (fun a wr => ∃ i : Nat, i ≤ n ∧ a = .int .i64 i ∧ Nw w wr ∧ Hid (l.take i = k.take i)) (fun a _ => n - (intOf a).toNat)
    case atStart => exact ⟨0, Nat.zero_le _, rfl, (by repeat (first | exact Xt.Nw.refl _ | refine Xt.Nw.drew ?_ | refine Xt.Nw.drewN ?_ _ | refine Xt.Nw.alloc ?_ _ | refine Xt.Nw.joined ?_ | refine Xt.Nw.drewd ?_ | refine Xt.Nw.drewdN ?_ | refine Xt.Nw.ext ?_ | refine Xt.Nw.ext_some ?_ (by assumption) | refine Xt.Nw.setCell ?_ (by simp [go_sem] <;> omega) _)), Lib.hid (by simp)⟩
    case round =>
      obtain ⟨i, hi, rfl, ⟨d, rfl⟩, HT⟩ := hrel
      by_cases hin : i < n
      · obtain ⟨ga, oa, rfl, hga, hca⟩ := HA.out.2 (by omega)
        obtain ⟨gb, ob, rfl, hgb, hcb⟩ := HB.out.2 (by omega)
        haveI : In ga w := ⟨hga⟩
        haveI : In gb w := ⟨hgb⟩
        obtain ⟨⟨x1, x2⟩, hx⟩ : ∃ x, l[i]? = some x := ⟨_, List.getElem?_eq_getElem (by have := HL.out; omega)⟩
        obtain ⟨⟨y1, y2⟩, hy⟩ : ∃ x, k[i]? = some x := ⟨_, List.getElem?_eq_getElem (by have := HK.out; omega)⟩
        obtain ⟨g0, g1⟩ := pcells_get l i _ hx
        obtain ⟨g2, g3⟩ := pcells_get k i _ hy
        have a0 : w.cell? ⟨ga, oa + i * 2, none⟩ = some (.int .u64 x1) := hca _ _ g0
        have a1 : w.cell? ⟨ga, oa + i * 2 + 1, none⟩ = some (.int .u64 x2) := by have := hca _ _ g1; rw [← Nat.add_assoc] at this; exact this
        have b0 : w.cell? ⟨gb, ob + i * 2, none⟩ = some (.int .u64 y1) := hcb _ _ g2
        have b1 : w.cell? ⟨gb, ob + i * 2 + 1, none⟩ = some (.int .u64 y2) := by have := hcb _ _ g3; rw [← Nat.add_assoc] at this; exact this
        have HX := Lib.hid hx
        have HY := Lib.hid hy
        have i1 : (i : Int) < (n : Int) := by omega
        have i0 : (0 : Int) ≤ (i : Int) := by omega
        have i2 : i < 1000000 := by have := HN.out; omega
        have HIN := Lib.hid hin
        clear hx hy g0 g1 g2 g3 hca hcb hin hi
        by_cases heq : x1 = y1 ∧ x2 = y2
        · obtain ⟨rfl, rfl⟩ := heq
          go_upto_region 6 with (fail)
          go_region
          go_wp2
          refine ⟨⟨i + 1, by have := HIN.out; omega, by go_num, (by repeat (first | exact Xt.Nw.refl _ | refine Xt.Nw.drew ?_ | refine Xt.Nw.drewN ?_ _ | refine Xt.Nw.alloc ?_ _ | refine Xt.Nw.joined ?_ | refine Xt.Nw.drewd ?_ | refine Xt.Nw.drewdN ?_ | refine Xt.Nw.ext ?_ | refine Xt.Nw.ext_some ?_ (by assumption) | refine Xt.Nw.setCell ?_ (by simp [go_sem] <;> omega) _)), Lib.hid ?_⟩, by have := HIN.out; simp [intOf]; omega⟩
          obtain ⟨p1, p2⟩ := List.getElem?_eq_some_iff.1 HX.out
          obtain ⟨p3, p4⟩ := List.getElem?_eq_some_iff.1 HY.out
          rw [List.take_succ_eq_append_getElem p1, List.take_succ_eq_append_getElem p3, p2, p4, HT.out]
        · have e0 : (decide (x1 = y1) && decide (x2 = y2)) = false := by
            cases h1 : (decide (x1 = y1) && decide (x2 = y2)) with
            | false => rfl
            | true => exfalso; simp at h1; exact heq h1
          have hne : ¬ l = k := by
            intro h
            have hx := HX.out
            rw [h, HY.out] at hx
            simp at hx
            exact heq ⟨hx.1.symm, hx.2.symm⟩
          go_upto_region 6 with (fail)
          go_region
          go_wp2
          go_ret
          refine ⟨?_, (by repeat (first | exact Xt.Nw.refl _ | refine Xt.Nw.drew ?_ | refine Xt.Nw.drewN ?_ _ | refine Xt.Nw.alloc ?_ _ | refine Xt.Nw.joined ?_ | refine Xt.Nw.drewd ?_ | refine Xt.Nw.drewdN ?_ | refine Xt.Nw.ext ?_ | refine Xt.Nw.ext_some ?_ (by assumption) | refine Xt.Nw.setCell ?_ (by simp [go_sem] <;> omega) _))⟩
          rw [decide_eq_false hne]; try rfl
      · have ei : i = n := by omega
        subst ei
        have hlk : l = k := by
          have h := HT.out
          rw [List.take_of_length_le (by have := HL.out; omega), List.take_of_length_le (by have := HK.out; omega)] at h
          exact h
        go_wp2_with fail
        go_ret
        refine ⟨?_, (by repeat (first | exact Xt.Nw.refl _ | refine Xt.Nw.drew ?_ | refine Xt.Nw.drewN ?_ _ | refine Xt.Nw.alloc ?_ _ | refine Xt.Nw.joined ?_ | refine Xt.Nw.drewd ?_ | refine Xt.Nw.drewdN ?_ | refine Xt.Nw.ext ?_ | refine Xt.Nw.ext_some ?_ (by assumption) | refine Xt.Nw.setCell ?_ (by simp [go_sem] <;> omega) _))⟩
        rw [decide_eq_true hlk]; try rfl
  · have d0 : ((n : Int) != (m : Int)) = true := by simp; omega
    have hne : ¬ l = k := by intro h; rw [h] at hln; omega
    clear ha hb hln hkm
    go_enter Tryz.func39, Tryz.ntmps39
    go_wp2
    go_ret
    refine ⟨?_, (by repeat (first | exact Xt.Nw.refl _ | refine Xt.Nw.drew ?_ | refine Xt.Nw.drewN ?_ _ | refine Xt.Nw.alloc ?_ _ | refine Xt.Nw.joined ?_ | refine Xt.Nw.drewd ?_ | refine Xt.Nw.drewdN ?_ | refine Xt.Nw.ext ?_ | refine Xt.Nw.ext_some ?_ (by assumption) | refine Xt.Nw.setCell ?_ (by simp [go_sem] <;> omega) _))⟩
    rw [decide_eq_false hne]; try rfl
end Go.Proofs.YtahagplegmcaaaaGreatDoor
namespace Go.Proofs.YtahagplegmcaaaaGreatDoor
open Go.RowKit Go.Xt
/-! The model at any threads: what it is in memory. -/
/-- A thread: its iterator (open, more, what is left), its session. -/
structure Th where
  op : Bool
  mo : Bool
  lo : Int
  hi : Int
  se : Bool
deriving DecidableEq
def thc (x : Th) : List Value := [.bool x.op, .bool x.mo, .int .u64 x.lo, .int .u64 x.hi, .bool x.se]
def tcells (l : List Th) : List Value := l.flatMap thc
theorem tcells_len (l : List Th) : (tcells l).length = l.length * 5 := by
  induction l with
  | nil => rfl
  | cons x l ih => rw [tcells, List.flatMap_cons, List.length_append, ← tcells, ih, List.length_cons]; simp [thc]; omega
theorem tcells_cons (x : Th) (l : List Th) (k j : Nat) : (tcells (x :: l))[(k + 1) * 5 + j]? = (tcells l)[k * 5 + j]? := by
  rw [show (k + 1) * 5 + j = (k * 5 + j) + 5 by omega]; rfl
theorem tcells_get : ∀ (l : List Th) (k : Nat) (x : Th), l[k]? = some x → (tcells l)[k * 5]? = some (.bool x.op) ∧ (tcells l)[k * 5 + 1]? = some (.bool x.mo) ∧ (tcells l)[k * 5 + 2]? = some (.int .u64 x.lo) ∧ (tcells l)[k * 5 + 3]? = some (.int .u64 x.hi) ∧ (tcells l)[k * 5 + 4]? = some (.bool x.se)
  | [], k, s, h => by simp at h
  | x :: b, 0, s, h => by simp at h; subst h; exact ⟨rfl, rfl, rfl, rfl, rfl⟩
  | x :: b, k + 1, s, h => by
    have h2 := tcells_get b k s (by simpa using h)
    exact ⟨(tcells_cons x b k 0).trans h2.1, (tcells_cons x b k 1).trans h2.2.1, (tcells_cons x b k 2).trans h2.2.2.1, (tcells_cons x b k 3).trans h2.2.2.2.1, (tcells_cons x b k 4).trans h2.2.2.2.2⟩
theorem tcells_setj (j : Nat) (hj : j < 5) (f : Th → Th) (v : Value) (hf : ∀ x, thc (f x) = (thc x).set j v) : ∀ (l : List Th) (k : Nat) (x : Th), l[k]? = some x → tcells (l.set k (f x)) = (tcells l).set (k * 5 + j) v
  | [], k, s, h => by simp at h
  | x :: b, 0, s, h => by
    simp at h; subst h
    show thc (f x) ++ tcells b = (thc x ++ tcells b).set (0 * 5 + j) v
    rw [hf, List.set_append_left _ _ (by simp [thc]; omega)]; simp
  | x :: b, k + 1, s, h => by
    have h2 := tcells_setj j hj f v hf b k s (by simpa using h)
    show thc x ++ tcells (b.set k (f s)) = (thc x ++ tcells b).set ((k + 1) * 5 + j) v
    rw [h2, List.set_append_right _ _ (by simp [thc]; omega)]
    congr 2; simp [thc]; omega
/-- The row of the threads. -/
def ThR (W : World) (gt : Nat) (th : List Th) : Prop := ∃ c, W.ownsRow 0 101 5 (.slice (some ⟨gt, 0, none⟩) th.length c) th.length (tcells th)
theorem ThR.setj {W : World} {gt : Nat} {th : List Th} (h : ThR W gt th) {k : Nat} {x : Th} (hk : th[k]? = some x) (j : Nat) (hj : j < 5) (f : Th → Th) (v : Value) (hf : ∀ x, thc (f x) = (thc x).set j v) : ThR (W.setCell ⟨gt, k * 5 + j, none⟩ v) gt (th.set k (f x)) := by
  obtain ⟨c, h⟩ := h
  have h2 := (h.stored (k * 5 + j) v).1
  rw [← tcells_setj j hj f v hf th k x hk] at h2
  refine ⟨c, ?_⟩
  rw [List.length_set]; exact h2
theorem ThR.inn {W : World} {gt : Nat} {th : List Th} (h : ThR W gt th) : gt < W.heap.size := by
  obtain ⟨c, h⟩ := h; exact (World.ownsRow.lt h gt rfl).2
theorem ThR.frozen {W : World} {gt : Nat} {th : List Th} (h : ThR W gt th) (o : Nat) : W.frozen? ⟨gt, o, none⟩ = false := by
  obtain ⟨c, h⟩ := h; exact World.ownsRow.frozenAt h _
theorem ThR.op {W : World} {gt : Nat} {th : List Th} (h : ThR W gt th) {k : Nat} {x : Th} (hk : th[k]? = some x) (v : Bool) : ThR (W.setCell ⟨gt, k * 5, none⟩ (.bool v)) gt (th.set k { x with op := v }) := h.setj hk 0 (by omega) (fun x => { x with op := v }) _ (fun _ => rfl)
theorem ThR.mo {W : World} {gt : Nat} {th : List Th} (h : ThR W gt th) {k : Nat} {x : Th} (hk : th[k]? = some x) (v : Bool) : ThR (W.setCell ⟨gt, k * 5 + 1, none⟩ (.bool v)) gt (th.set k { x with mo := v }) := h.setj hk 1 (by omega) (fun x => { x with mo := v }) _ (fun _ => rfl)
theorem ThR.lo {W : World} {gt : Nat} {th : List Th} (h : ThR W gt th) {k : Nat} {x : Th} (hk : th[k]? = some x) (v : Int) : ThR (W.setCell ⟨gt, k * 5 + 2, none⟩ (.int .u64 v)) gt (th.set k { x with lo := v }) := h.setj hk 2 (by omega) (fun x => { x with lo := v }) _ (fun _ => rfl)
theorem ThR.hi {W : World} {gt : Nat} {th : List Th} (h : ThR W gt th) {k : Nat} {x : Th} (hk : th[k]? = some x) (v : Int) : ThR (W.setCell ⟨gt, k * 5 + 3, none⟩ (.int .u64 v)) gt (th.set k { x with hi := v }) := h.setj hk 3 (by omega) (fun x => { x with hi := v }) _ (fun _ => rfl)
theorem ThR.se {W : World} {gt : Nat} {th : List Th} (h : ThR W gt th) {k : Nat} {x : Th} (hk : th[k]? = some x) (v : Bool) : ThR (W.setCell ⟨gt, k * 5 + 4, none⟩ (.bool v)) gt (th.set k { x with se := v }) := h.setj hk 4 (by omega) (fun x => { x with se := v }) _ (fun _ => rfl)
theorem set_at {α : Type} {l : List α} {k : Nat} {x : α} (h : l[k]? = some x) (y : α) : (l.set k y)[k]? = some y := by
  rw [List.getElem?_set_self (List.getElem?_eq_some_iff.1 h).1]
theorem ThR.lt {W : World} {gt : Nat} {th : List Th} (h : ThR W gt th) {k : Nat} {x : Th} (_hk : th[k]? = some x) : gt < W.heap.size := h.inn
theorem ThR.cells {W : World} {gt : Nat} {th : List Th} (h : ThR W gt th) {k : Nat} {x : Th} (hk : th[k]? = some x) :
    W.cell? ⟨gt, k * 5, none⟩ = some (.bool x.op) ∧ W.cell? ⟨gt, k * 5 + 1, none⟩ = some (.bool x.mo) ∧ W.cell? ⟨gt, k * 5 + 2, none⟩ = some (.int .u64 x.lo) ∧ W.cell? ⟨gt, k * 5 + 3, none⟩ = some (.int .u64 x.hi) ∧ W.cell? ⟨gt, k * 5 + 4, none⟩ = some (.bool x.se) := by
  obtain ⟨p, _⟩ := List.getElem?_eq_some_iff.1 hk
  obtain ⟨c, h⟩ := h
  obtain ⟨g0, g1, g2, g3, g4⟩ := tcells_get th k x hk
  have hl := tcells_len th
  exact ⟨(World.ownsRow.cellAt h _ (by omega)).trans g0, (World.ownsRow.cellAt h _ (by omega)).trans g1, (World.ownsRow.cellAt h _ (by omega)).trans g2, (World.ownsRow.cellAt h _ (by omega)).trans g3, (World.ownsRow.cellAt h _ (by omega)).trans g4⟩
theorem ThR.chg {W W' : World} {gt : Nat} {th : List Th} {X : List Nat} (h : ThR W gt th) (hc : Chg X W W') (hx : gt ∉ X) : ThR W' gt th := by
  obtain ⟨c, h⟩ := h; exact ⟨c, own_chg h hc (fun g hg => by cases hg; exact hx)⟩
theorem ThR.nw {W W' : World} {gt : Nat} {th : List Th} (h : ThR W gt th) (hn : Nw W W') : ThR W' gt th := by
  obtain ⟨c, h⟩ := h; exact ⟨c, own_nw h hn⟩
/-- Where a model lies: itself, its threads, its map, the map's slice. -/
structure Pl where
  gm : Nat
  gt : Nat
  gp : Nat
  v : Value
def Pl.foot (p : Pl) : List Nat := p.gm :: p.gt :: Go.Proofs.YtahagplegmcaaaaGreatDoor.foot p.gp p.v
theorem Pl.mem {p : Pl} {g : Nat} : g ∈ p.foot ↔ g = p.gm ∨ g = p.gt ∨ g = p.gp ∨ p.v.ownBlock = some g := by
  simp [Pl.foot, mem_foot]
/-- A model's state. -/
structure Md where
  slots : Int
  l : List (Int × Int)
  th : List Th
structure MAt (W : World) (p : Pl) (s : Md) : Prop where
  m0 : W.cell? ⟨p.gm, 0, none⟩ = some (.int .i64 s.slots)
  m1 : W.cell? ⟨p.gm, 1, none⟩ = some (.pointer (some ⟨p.gp, 0, none⟩))
  m2 : ∃ c, W.cell? ⟨p.gm, 2, none⟩ = some (.slice (some ⟨p.gt, 0, none⟩) s.th.length c)
  mz : ∀ o, W.frozen? ⟨p.gm, o, none⟩ = false
  th : ThR W p.gt s.th
  om : OM W p.gp p.v s.l
  nmt : p.gm ≠ p.gt
  nmp : p.gm ≠ p.gp
  ntp : p.gt ≠ p.gp
  nmv : p.v.ownBlock ≠ some p.gm
  ntv : p.v.ownBlock ≠ some p.gt
theorem MAt.im {W : World} {p : Pl} {s : Md} (h : MAt W p s) : p.gm < W.heap.size := World.block_lt_of_cell? W _ h.m0
theorem MAt.it {W : World} {p : Pl} {s : Md} (h : MAt W p s) : p.gt < W.heap.size := h.th.inn
theorem MAt.lt {W : World} {p : Pl} {s : Md} (h : MAt W p s) {g : Nat} (hg : g ∈ p.foot) : g < W.heap.size := by
  rcases Pl.mem.1 hg with rfl | rfl | rfl | h1
  · exact h.im
  · exact h.it
  · exact h.om.lt
  · exact h.om.rlt h1
theorem MAt.chg {W W' : World} {p : Pl} {s : Md} {X : List Nat} (h : MAt W p s) (hc : Chg X W W') (hx : ∀ g ∈ p.foot, g ∉ X) : MAt W' p s :=
  { h with
    m0 := hc.cell h.m0 (hx _ (Pl.mem.2 (.inl rfl)))
    m1 := hc.cell h.m1 (hx _ (Pl.mem.2 (.inl rfl)))
    m2 := h.m2.imp fun _ e => hc.cell e (hx _ (Pl.mem.2 (.inl rfl)))
    mz := fun o => (hc.frozen h.im (hx _ (Pl.mem.2 (.inl rfl)))).trans (h.mz o)
    th := h.th.chg hc (hx _ (Pl.mem.2 (.inr (.inl rfl))))
    om := h.om.chg hc (hx _ (Pl.mem.2 (.inr (.inr (.inl rfl))))) (fun g hg => hx _ (Pl.mem.2 (.inr (.inr (.inr hg))))) }
theorem MAt.nw {W W' : World} {p : Pl} {s : Md} (h : MAt W p s) (hn : Nw W W') : MAt W' p s := h.chg (Chg.of_nw hn : Chg [] W W') (by simp)
/-- A model that has been worked on. -/
structure MUp (w : World) (p : Pl) (s : Md) (p' : Pl) (w' : World) : Prop where
  at' : MAt w' p' s
  chg : Chg p.foot w w'
  mv : ∀ y ∈ p'.foot, y ∈ p.foot ∨ w.heap.size ≤ y
  gm : p'.gm = p.gm
theorem MUp.same {w w' : World} {p : Pl} {s : Md} (h : MAt w p s) (hn : Nw w w') : MUp w p s p w' := ⟨h.nw hn, Chg.of_nw hn, fun y hy => .inl hy, rfl⟩
theorem MUp.after {w w2 w' : World} {p p' : Pl} {s : Md} (hn : Nw w w2) (h : MUp w2 p s p' w') : MUp w p s p' w' :=
  ⟨h.at', (Chg.of_nw hn).trans h.chg, fun y hy => (h.mv y hy).imp id fun h => Nat.le_trans hn.grown.size h, h.gm⟩
theorem MUp.nw {w w2 w' : World} {p p' : Pl} {s : Md} (h : MUp w p s p' w2) (hn : Nw w2 w') : MUp w p s p' w' :=
  ⟨h.at'.nw hn, h.chg.trans (Chg.of_nw hn), h.mv, h.gm⟩
theorem MUp.trans {w w1 w2 : World} {p p1 p2 : Pl} {s1 s2 : Md} (h : MUp w p s1 p1 w1) (k : MUp w1 p1 s2 p2 w2) : MUp w p s2 p2 w2 := by
  refine ⟨k.at', h.chg.then k.chg h.mv, fun y hy => ?_, k.gm.trans h.gm⟩
  rcases k.mv y hy with h1 | h1
  · exact h.mv y h1
  · exact .inr (Nat.le_trans h.chg.size h1)
/-- Stores into new memory after a change: they do not matter. -/
theorem MUp.new {w w2 w' : World} {p p' : Pl} {s : Md} {X : List Nat} (h : MUp w p s p' w2) (hc : Chg X w2 w') (hx : ∀ g ∈ X, w.heap.size ≤ g) (hd : ∀ g ∈ p'.foot, g ∉ X) : MUp w p s p' w' :=
  ⟨h.at'.chg hc hd, ⟨hc.os.trans h.chg.os, hc.tape.trans h.chg.tape, hc.output.trans h.chg.output, Nat.le_trans h.chg.size hc.size, fun k hk hk2 => (hc.block k (Nat.lt_of_lt_of_le hk h.chg.size) (fun e => by have := hx k e; omega)).trans (h.chg.block k hk hk2)⟩, h.mv, h.gm⟩
/-- The map has been worked on. -/
theorem MUp.map {w w' : World} {p : Pl} {s : Md} {l : List (Int × Int)} {v' : Value} (h : MAt w p s) (hu : Upd w p.gp p.v l v' w') : MUp w p { s with l := l } { p with v := v' } w' := by
  have hf : ∀ g, g ∈ foot p.gp p.v → g ∈ p.foot := fun g hg => by simp [Pl.foot, hg]
  have hmf : p.gm ∉ foot p.gp p.v := fun e => by
    rcases mem_foot.1 e with e | e
    · exact h.nmp e
    · exact h.nmv e
  have htf : p.gt ∉ foot p.gp p.v := fun e => by
    rcases mem_foot.1 e with e | e
    · exact h.ntp e
    · exact h.ntv e
  refine ⟨⟨hu.chg.cell h.m0 hmf, hu.chg.cell h.m1 hmf, h.m2.imp (fun _ e => hu.chg.cell e hmf), fun o => (hu.chg.frozen h.im hmf).trans (h.mz o), h.th.chg hu.chg htf, hu.om, h.nmt, h.nmp, h.ntp, ?_, ?_⟩, hu.chg.wide hf, ?_, rfl⟩
  · rcases hu.moved with e | ⟨q, e, hq⟩
    · show v'.ownBlock ≠ _; rw [e]; exact h.nmv
    · show v'.ownBlock ≠ _; rw [e]; intro he; cases he; have := h.im; simp at hq; omega
  · rcases hu.moved with e | ⟨q, e, hq⟩
    · show v'.ownBlock ≠ _; rw [e]; exact h.ntv
    · show v'.ownBlock ≠ _; rw [e]; intro he; cases he; have := h.it; simp at hq; omega
  · intro y hy
    rcases Pl.mem.1 hy with rfl | rfl | rfl | h1
    · exact .inl (Pl.mem.2 (.inl rfl))
    · exact .inl (Pl.mem.2 (.inr (.inl rfl)))
    · exact .inl (Pl.mem.2 (.inr (.inr (.inl rfl))))
    · have h1 : v'.ownBlock = some y := h1
      rcases hu.moved with e | ⟨q, e, hq⟩
      · exact .inl (Pl.mem.2 (.inr (.inr (.inr (e ▸ h1)))))
      · rw [e] at h1; cases h1; exact .inr hq
/-- The threads have been worked on. -/
theorem MUp.ths {w w' : World} {p : Pl} {s : Md} {th' : List Th} (h : MAt w p s) (hl : th'.length = s.th.length) (hr : ThR w' p.gt th') (hc : Chg [p.gt] w w') : MUp w p { s with th := th' } p w' := by
  have hmf : p.gm ∉ [p.gt] := by simpa using h.nmt
  refine ⟨⟨hc.cell h.m0 hmf, hc.cell h.m1 hmf, h.m2.imp (fun c e => by show w'.cell? _ = some (.slice _ th'.length c); rw [hl]; exact hc.cell e hmf), fun o => (hc.frozen h.im hmf).trans (h.mz o), hr, h.om.chg hc (by have := h.ntp; simp; omega) (fun g hg => by have := h.ntv; simp; rintro rfl; exact this hg), h.nmt, h.nmp, h.ntp, h.nmv, h.ntv⟩, hc.wide (fun y hy => by simp at hy; subst hy; exact Pl.mem.2 (.inr (.inl rfl))), fun y hy => .inl hy, rfl⟩
end Go.Proofs.YtahagplegmcaaaaGreatDoor
