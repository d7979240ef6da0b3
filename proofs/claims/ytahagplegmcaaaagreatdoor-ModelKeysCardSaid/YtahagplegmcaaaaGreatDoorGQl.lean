import Derived.Test.YtahagplegmcaaaaGreatDoorGQj
import Derived.Test.YtahagplegmcaaaaGreatDoorGVg
import Derived.Test.YtahagplegmcaaaaGreatDoorGQh
set_option linter.unusedVariables false
set_option linter.unusedSimpArgs false
set_option linter.unnecessarySimpa false
namespace Go.Proofs.YtahagplegmcaaaaGreatDoor
open Go.RowKit Go.Xt
/-! The model, plain: what every operation keeps; a scan. -/
theorem set_all {P : Th → Prop} {l : List Th} (h : ∀ x ∈ l, P x) {k : Nat} {y : Th} (hy : P y) : ∀ x ∈ l.set k y, P x := fun x hx => by
  rcases List.mem_or_eq_of_mem_set hx with h1 | rfl
  · exact h x h1
  · exact hy
theorem Md.Ok.mono {s : Md} {N N' : Nat} (h : s.Ok N) (hn : N ≤ N') : s.Ok N' := ⟨Nat.le_trans h.len hn, h.asc, h.u64, h.thn, h.th⟩
theorem Md.Ok.setT {s : Md} {N : Nat} (h : s.Ok N) (t : Nat) {y : Th} (hy : y.Ok) : Md.Ok { s with th := s.th.set t y } N :=
  ⟨h.len, h.asc, h.u64, by show (s.th.set t y).length ≤ 1000; rw [List.length_set]; exact h.thn, set_all h.th hy⟩
theorem Md.Ok.setL {s : Md} {N N' : Nat} (h : s.Ok N) {l : List (Int × Int)} (h1 : _root_.Go.Proofs.YtahagplegmcaaaaGreatDoor.asc l) (h2 : U64s l) (h3 : l.length ≤ N') : Md.Ok { s with l := l } N' :=
  ⟨h3, h1, h2, h.thn, h.th⟩
theorem Th.Ok.fin {x : Th} (h : x.Ok) : x.fin.Ok := ⟨fun h => (by cases h), h.2.1, fun h => (by cases h)⟩
theorem Th.Ok.from_ {x : Th} (h : x.Ok) (k : Int) (hk : 0 ≤ k) : (x.from_ k).Ok := by
  unfold Th.from_
  split
  · rename_i hc
    have h1 := h.1 hc.1
    exact ⟨fun _ => ⟨by show 0 ≤ max x.lo k; omega, by show max x.lo k ≤ x.hi; omega, h1.2.2⟩, h.2.1, h.2.2⟩
  · exact h.fin
theorem Th.Ok.after {x : Th} (h : x.Ok) (k : Int) (hk : 0 ≤ k) : (x.after k).Ok := by
  unfold Th.after
  split
  · exact h.fin
  · exact h.from_ _ (by omega)
theorem U64s.put {l : List (Int × Int)} (h : U64s l) {k x : Int} (hk : 0 ≤ k ∧ k < 18446744073709551616) (hx : 0 ≤ x ∧ x < 18446744073709551616) : U64s (putL k x l) := fun z hz => by
  rcases put_mem hz with h1 | rfl
  · exact h z h1
  · exact ⟨hk, hx⟩
theorem U64s.sub {l m : List (Int × Int)} (h : U64s l) (hs : m.Sublist l) : U64s m := fun z hz => h z (hs.subset hz)
theorem U64s.mv {b : Int} : ∀ (r : List (Int × Int)) {l : List (Int × Int)}, U64s l → (∀ p ∈ r, (0 ≤ p.1 + b ∧ p.1 + b < 18446744073709551616) ∧ 0 ≤ p.2 ∧ p.2 < 18446744073709551616) → U64s (mvL b r l)
  | [], l, h, _ => h
  | p :: r, l, h, hr => U64s.mv r (h.put (hr p (by simp)).1 (hr p (by simp)).2) (fun q hq => hr q (by simp [hq]))
theorem perfM_ok {s : Md} {N : Nat} (hok : s.Ok N) {t : Nat} {x : Th} (ht : s.th[t]? = some x) {o : Ox} (hw : o.Wf) (hc : chkO o = 0) (hr : refE x o = 0) : (perfM s t x o).2.Ok (N + 1) := by
  have hx := hok.th x (List.mem_of_getElem? ht)
  obtain ⟨hk, hab, hby⟩ := chk_formed hc
  have w1 := hw.key
  have w2 := hw.hi
  have w3 := hw.val
  have w5 := hw.by_
  have hl1 : s.l.length ≤ N + 1 := Nat.le_succ_of_le hok.len
  unfold perfM
  by_cases k1 : o.k = 1
  · rw [if_pos k1]
    show (openM s t x).Ok (N + 1)
    unfold openM
    split
    · exact hok.mono (Nat.le_succ N)
    · exact (hok.mono (Nat.le_succ N)).setT t ⟨hx.1, fun _ => rfl, hx.2.2⟩
  rw [if_neg k1]
  by_cases k2 : o.k = 2
  · rw [if_pos k2]
    have hop : x.op = false := by
      cases hop : x.op with
      | false => rfl
      | true =>
        exfalso
        unfold refE at hr
        rw [if_neg k1, if_neg (by rw [hx.2.1 hop]; simp), if_pos ⟨.inl k2, hop⟩] at hr
        cases hr
    refine (hok.mono (Nat.le_succ N)).setT t ⟨hx.1, fun h => ?_, hx.2.2⟩
    have h : x.op = true := h
    rw [hop] at h; cases h
  rw [if_neg k2]
  by_cases k3 : o.k = 3
  · rw [if_pos k3]; exact hok.mono (Nat.le_succ N)
  rw [if_neg k3]
  by_cases k4 : o.k = 4
  · rw [if_pos k4]
    exact hok.setL (put_asc _ _ hok.asc) (hok.u64.put w1 w3) (Nat.le_trans (put_le _ _ _) (Nat.succ_le_succ hok.len))
  rw [if_neg k4]
  by_cases k5 : o.k = 5
  · rw [if_pos k5]
    show Md.Ok { s with l := addL o.key o.val s.l } (N + 1)
    unfold addL
    split
    · exact hok.mono (Nat.le_succ N)
    · exact hok.setL (put_asc _ _ hok.asc) (hok.u64.put w1 w3) (Nat.le_trans (put_le _ _ _) (Nat.succ_le_succ hok.len))
  rw [if_neg k5]
  by_cases k6 : o.k = 6
  · rw [if_pos k6]
    exact hok.setL (asc_sub hok.asc (del_sub _ _)) (hok.u64.sub (del_sub _ _)) (Nat.le_trans (del_sub _ _).length_le hl1)
  rw [if_neg k6]
  by_cases k7 : o.k = 7
  · rw [if_pos k7]
    show Md.Ok { s with l := casL o.key o.old o.val s.l } (N + 1)
    unfold casL
    split
    · exact hok.setL (put_asc _ _ hok.asc) (hok.u64.put w1 w3) (Nat.le_trans (put_le _ _ _) (Nat.succ_le_succ hok.len))
    · exact hok.mono (Nat.le_succ N)
  rw [if_neg k7]
  by_cases k8 : o.k = 8
  · rw [if_pos k8]
    have hb := hby k8
    refine hok.setL (mvL_asc _ _ _ (asc_sub hok.asc (outR_sub _ _ _))) (U64s.mv _ (hok.u64.sub (outR_sub _ _ _)) fun q hq => ?_) ?_
    · have h1 := List.mem_filter.1 hq
      have h2 := hok.u64 q h1.1
      have h3 : o.key ≤ q.1 ∧ q.1 ≤ o.hi := by simpa using h1.2
      exact ⟨by omega, h2.2⟩
    · have h1 := mvL_len o.by_ (inR o.key o.hi s.l) (outR o.key o.hi s.l)
      have h2 := outR_inR o.key o.hi s.l
      exact Nat.le_trans h1 (by omega)
  rw [if_neg k8]
  by_cases k9 : o.k = 9
  · rw [if_pos k9]
    exact hok.setL (asc_sub hok.asc (outR_sub _ _ _)) (hok.u64.sub (outR_sub _ _ _)) (Nat.le_trans (outR_sub _ _ _).length_le hl1)
  rw [if_neg k9]
  by_cases k10 : o.k = 10
  · rw [if_pos k10]; exact hok.mono (Nat.le_succ N)
  rw [if_neg k10]
  by_cases k11 : o.k = 11
  · rw [if_pos k11]
    have hse : x.se = true := by
      cases hse : x.se with
      | true => rfl
      | false =>
        exfalso
        unfold refE at hr
        rw [if_neg k1, if_pos hse] at hr
        cases hr
    exact (hok.mono (Nat.le_succ N)).setT t ⟨fun _ => ⟨w1.1, hab (by unfold uH; simp [k11]), w2.2⟩, fun _ => hse, fun _ => rfl⟩
  rw [if_neg k11]
  by_cases k12 : o.k = 12
  · rw [if_pos k12]
    cases hq : nextL x.lo x.hi s.l with
    | none => exact (hok.mono (Nat.le_succ N)).setT t hx.fin
    | some q => exact (hok.mono (Nat.le_succ N)).setT t (hx.after _ (hok.u64 q (nextL_mem hq).1).1.1)
  rw [if_neg k12]
  by_cases k13 : o.k = 13
  · rw [if_pos k13]; exact (hok.mono (Nat.le_succ N)).setT t (hx.from_ _ w1.1)
  rw [if_neg k13]
  by_cases k14 : o.k = 14
  · rw [if_pos k14]
    exact (hok.mono (Nat.le_succ N)).setT t ⟨fun h => (by cases h), fun h => (by cases h), fun h => (by cases h)⟩
  rw [if_neg k14]
  exact hok.mono (Nat.le_succ N)
theorem refM_zero {s : Md} {t : Int} {o : Ox} (hr : refM s t o = 0) : ∃ (n : Nat) (x : Th), t = n ∧ s.th[n]? = some x ∧ chkO o = 0 ∧ refE x o = 0 ∧ doM s t o = perfM s n x o := by
  have h0 : ¬ (t < 0 ∨ (s.th.length : Int) ≤ t) := fun h0 => by unfold refM at hr; rw [if_pos h0] at hr; cases hr
  have hc : chkO o = 0 := by
    rcases Decidable.em (chkO o = 0) with h1 | h1
    · exact h1
    · unfold refM at hr; rw [if_neg h0, if_pos h1] at hr; exact hr
  obtain ⟨t, rfl⟩ : ∃ n : Nat, t = n := ⟨t.toNat, by omega⟩
  obtain ⟨x, hx⟩ : ∃ x, s.th[t]? = some x := ⟨_, List.getElem?_eq_getElem (by omega)⟩
  refine ⟨t, x, rfl, hx, hc, ?_, ?_⟩
  · unfold refM at hr; rw [if_neg h0, if_neg (by simpa using hc), Int.toNat_natCast, hx] at hr; exact hr
  · unfold doM; rw [if_neg (by simpa using hr), Int.toNat_natCast, hx]
theorem doM_ok {s : Md} {N : Nat} (hok : s.Ok N) (t : Int) {o : Ox} (hw : o.Wf) : (doM s t o).2.Ok (N + 1) := by
  by_cases hr : refM s t o = 0
  · obtain ⟨n, x, rfl, hx, hc, h2, e⟩ := refM_zero hr
    rw [e]; exact perfM_ok hok hx hw hc h2
  · unfold doM; rw [if_pos hr]; exact hok.mono (Nat.le_succ N)
theorem perfM_len (s : Md) (t : Nat) (x : Th) (o : Ox) : (perfM s t x o).2.th.length = s.th.length ∧ (perfM s t x o).2.slots = s.slots := by
  have hs : ∀ y : Th, (s.th.set t y).length = s.th.length := fun y => List.length_set ..
  unfold perfM
  by_cases k1 : o.k = 1
  · rw [if_pos k1]
    show (openM s t x).th.length = s.th.length ∧ (openM s t x).slots = s.slots
    unfold openM
    split
    · exact ⟨rfl, rfl⟩
    · exact ⟨hs _, rfl⟩
  rw [if_neg k1]
  by_cases k2 : o.k = 2
  · rw [if_pos k2]; first | exact ⟨rfl, rfl⟩ | exact ⟨hs _, rfl⟩
  rw [if_neg k2]
  by_cases k3 : o.k = 3
  · rw [if_pos k3]; first | exact ⟨rfl, rfl⟩ | exact ⟨hs _, rfl⟩
  rw [if_neg k3]
  by_cases k4 : o.k = 4
  · rw [if_pos k4]; first | exact ⟨rfl, rfl⟩ | exact ⟨hs _, rfl⟩
  rw [if_neg k4]
  by_cases k5 : o.k = 5
  · rw [if_pos k5]; first | exact ⟨rfl, rfl⟩ | exact ⟨hs _, rfl⟩
  rw [if_neg k5]
  by_cases k6 : o.k = 6
  · rw [if_pos k6]; first | exact ⟨rfl, rfl⟩ | exact ⟨hs _, rfl⟩
  rw [if_neg k6]
  by_cases k7 : o.k = 7
  · rw [if_pos k7]; first | exact ⟨rfl, rfl⟩ | exact ⟨hs _, rfl⟩
  rw [if_neg k7]
  by_cases k8 : o.k = 8
  · rw [if_pos k8]; first | exact ⟨rfl, rfl⟩ | exact ⟨hs _, rfl⟩
  rw [if_neg k8]
  by_cases k9 : o.k = 9
  · rw [if_pos k9]; first | exact ⟨rfl, rfl⟩ | exact ⟨hs _, rfl⟩
  rw [if_neg k9]
  by_cases k10 : o.k = 10
  · rw [if_pos k10]; first | exact ⟨rfl, rfl⟩ | exact ⟨hs _, rfl⟩
  rw [if_neg k10]
  by_cases k11 : o.k = 11
  · rw [if_pos k11]; first | exact ⟨rfl, rfl⟩ | exact ⟨hs _, rfl⟩
  rw [if_neg k11]
  by_cases k12 : o.k = 12
  · rw [if_pos k12]
    cases nextL x.lo x.hi s.l with
    | none => exact ⟨hs _, rfl⟩
    | some q => exact ⟨hs _, rfl⟩
  rw [if_neg k12]
  by_cases k13 : o.k = 13
  · rw [if_pos k13]; first | exact ⟨rfl, rfl⟩ | exact ⟨hs _, rfl⟩
  rw [if_neg k13]
  by_cases k14 : o.k = 14
  · rw [if_pos k14]; first | exact ⟨rfl, rfl⟩ | exact ⟨hs _, rfl⟩
  rw [if_neg k14]
  exact ⟨rfl, rfl⟩
theorem doM_len (s : Md) (t : Int) (o : Ox) : (doM s t o).2.th.length = s.th.length ∧ (doM s t o).2.slots = s.slots := by
  by_cases hr : refM s t o = 0
  · obtain ⟨n, x, rfl, hx, hc, h2, e⟩ := refM_zero hr
    rw [e]; exact perfM_len _ _ _ _
  · unfold doM; rw [if_pos hr]; exact ⟨rfl, rfl⟩
end Go.Proofs.YtahagplegmcaaaaGreatDoor
namespace Go.Proofs.YtahagplegmcaaaaGreatDoor
open Go.RowKit Go.Xt
/-! The reference's model in memory. -/
/-- A configuration. -/
structure Cf where
  thr : Int
  sl : Int
  eng : Int
  bk : Int
  dk : Int
  dn : Int
  cA : Option Addr
  cn : Nat
  cc : Nat
  t1 : Int
  t2 : Int
  t3 : Int
  t4 : Int
  t5 : Int
  t6 : Int
  lk : Int
  tr : Int
  ba : Int
def ccells (c : Cf) : List Value := [.int .i64 c.thr, .int .i64 c.sl, .int .u8 c.eng, .int .i64 c.bk, .int .u8 c.dk, .int .i64 c.dn, .slice c.cA c.cn c.cc, .int .i64 c.t1, .int .i64 c.t2, .int .i64 c.t3, .int .i64 c.t4, .int .i64 c.t5, .int .i64 c.t6, .int .i64 c.lk, .int .i64 c.tr, .int .i64 c.ba]
def confV (c : Cf) : Value := .agg #[.int .i64 c.thr, .int .i64 c.sl, .int .u8 c.eng, .int .i64 c.bk, .int .u8 c.dk, .int .i64 c.dn, .slice c.cA c.cn c.cc, .int .i64 c.t1, .int .i64 c.t2, .int .i64 c.t3, .int .i64 c.t4, .int .i64 c.t5, .int .i64 c.t6, .int .i64 c.lk, .int .i64 c.tr, .int .i64 c.ba]
def rthc (x : Th) : List Value := [.bool x.se, .bool x.op, .bool x.mo, .int .u64 x.lo, .int .u64 x.hi]
def rtcells (l : List Th) : List Value := l.flatMap rthc
theorem rtcells_len (l : List Th) : (rtcells l).length = l.length * 5 := by
  induction l with
  | nil => rfl
  | cons x l ih => rw [rtcells, List.flatMap_cons, List.length_append, ← rtcells, ih, List.length_cons]; simp [rthc]; omega
theorem rtcells_cons (x : Th) (l : List Th) (k j : Nat) : (rtcells (x :: l))[(k + 1) * 5 + j]? = (rtcells l)[k * 5 + j]? := by
  rw [show (k + 1) * 5 + j = (k * 5 + j) + 5 by omega]; rfl
theorem rtcells_get : ∀ (l : List Th) (k : Nat) (x : Th), l[k]? = some x → (rtcells l)[k * 5]? = some (.bool x.se) ∧ (rtcells l)[k * 5 + 1]? = some (.bool x.op) ∧ (rtcells l)[k * 5 + 2]? = some (.bool x.mo) ∧ (rtcells l)[k * 5 + 3]? = some (.int .u64 x.lo) ∧ (rtcells l)[k * 5 + 4]? = some (.int .u64 x.hi)
  | [], k, s, h => by simp at h
  | x :: b, 0, s, h => by simp at h; subst h; exact ⟨rfl, rfl, rfl, rfl, rfl⟩
  | x :: b, k + 1, s, h => by
    have h2 := rtcells_get b k s (by simpa using h)
    exact ⟨(rtcells_cons x b k 0).trans h2.1, (rtcells_cons x b k 1).trans h2.2.1, (rtcells_cons x b k 2).trans h2.2.2.1, (rtcells_cons x b k 3).trans h2.2.2.2.1, (rtcells_cons x b k 4).trans h2.2.2.2.2⟩
theorem rtcells_setj (j : Nat) (hj : j < 5) (f : Th → Th) (v : Value) (hf : ∀ x, rthc (f x) = (rthc x).set j v) : ∀ (l : List Th) (k : Nat) (x : Th), l[k]? = some x → rtcells (l.set k (f x)) = (rtcells l).set (k * 5 + j) v
  | [], k, s, h => by simp at h
  | x :: b, 0, s, h => by
    simp at h; subst h
    show rthc (f x) ++ rtcells b = (rthc x ++ rtcells b).set (0 * 5 + j) v
    rw [hf, List.set_append_left _ _ (by simp [rthc]; omega)]; simp
  | x :: b, k + 1, s, h => by
    have h2 := rtcells_setj j hj f v hf b k s (by simpa using h)
    show rthc x ++ rtcells (b.set k (f s)) = (rthc x ++ rtcells b).set ((k + 1) * 5 + j) v
    rw [h2, List.set_append_right _ _ (by simp [rthc]; omega)]
    congr 2; simp [rthc]; omega
/-- The row of the seats. -/
def RThR (W : World) (gt : Nat) (th : List Th) : Prop := ∃ c, W.ownsRow 0 73 5 (.slice (some ⟨gt, 0, none⟩) th.length c) th.length (rtcells th)
section
variable {W W' : World} {gt : Nat} {th : List Th}
theorem RThR.setj (h : RThR W gt th) {k : Nat} {x : Th} (hk : th[k]? = some x) (j : Nat) (hj : j < 5) (f : Th → Th) (v : Value) (hf : ∀ x, rthc (f x) = (rthc x).set j v) : RThR (W.setCell ⟨gt, k * 5 + j, none⟩ v) gt (th.set k (f x)) := by
  obtain ⟨c, h⟩ := h
  have h2 := (h.stored (k * 5 + j) v).1
  rw [← rtcells_setj j hj f v hf th k x hk] at h2
  refine ⟨c, ?_⟩
  rw [List.length_set]; exact h2
theorem RThR.inn (h : RThR W gt th) : gt < W.heap.size := by
  obtain ⟨c, h⟩ := h; exact (World.ownsRow.lt h gt rfl).2
theorem RThR.frozen (h : RThR W gt th) (o : Nat) : W.frozen? ⟨gt, o, none⟩ = false := by
  obtain ⟨c, h⟩ := h; exact World.ownsRow.frozenAt h _
theorem RThR.se (h : RThR W gt th) {k : Nat} {x : Th} (hk : th[k]? = some x) (v : Bool) : RThR (W.setCell ⟨gt, k * 5, none⟩ (.bool v)) gt (th.set k { x with se := v }) := h.setj hk 0 (by omega) (fun x => { x with se := v }) _ (fun _ => rfl)
theorem RThR.op (h : RThR W gt th) {k : Nat} {x : Th} (hk : th[k]? = some x) (v : Bool) : RThR (W.setCell ⟨gt, k * 5 + 1, none⟩ (.bool v)) gt (th.set k { x with op := v }) := h.setj hk 1 (by omega) (fun x => { x with op := v }) _ (fun _ => rfl)
theorem RThR.mo (h : RThR W gt th) {k : Nat} {x : Th} (hk : th[k]? = some x) (v : Bool) : RThR (W.setCell ⟨gt, k * 5 + 2, none⟩ (.bool v)) gt (th.set k { x with mo := v }) := h.setj hk 2 (by omega) (fun x => { x with mo := v }) _ (fun _ => rfl)
theorem RThR.lo (h : RThR W gt th) {k : Nat} {x : Th} (hk : th[k]? = some x) (v : Int) : RThR (W.setCell ⟨gt, k * 5 + 3, none⟩ (.int .u64 v)) gt (th.set k { x with lo := v }) := h.setj hk 3 (by omega) (fun x => { x with lo := v }) _ (fun _ => rfl)
theorem RThR.hi (h : RThR W gt th) {k : Nat} {x : Th} (hk : th[k]? = some x) (v : Int) : RThR (W.setCell ⟨gt, k * 5 + 4, none⟩ (.int .u64 v)) gt (th.set k { x with hi := v }) := h.setj hk 4 (by omega) (fun x => { x with hi := v }) _ (fun _ => rfl)
theorem RThR.cells (h : RThR W gt th) {k : Nat} {x : Th} (hk : th[k]? = some x) :
    W.cell? ⟨gt, k * 5, none⟩ = some (.bool x.se) ∧ W.cell? ⟨gt, k * 5 + 1, none⟩ = some (.bool x.op) ∧ W.cell? ⟨gt, k * 5 + 2, none⟩ = some (.bool x.mo) ∧ W.cell? ⟨gt, k * 5 + 3, none⟩ = some (.int .u64 x.lo) ∧ W.cell? ⟨gt, k * 5 + 3 + 1, none⟩ = some (.int .u64 x.hi) := by
  obtain ⟨p, _⟩ := List.getElem?_eq_some_iff.1 hk
  obtain ⟨c, h⟩ := h
  obtain ⟨g0, g1, g2, g3, g4⟩ := rtcells_get th k x hk
  have hl := rtcells_len th
  exact ⟨(World.ownsRow.cellAt h _ (by omega)).trans g0, (World.ownsRow.cellAt h _ (by omega)).trans g1, (World.ownsRow.cellAt h _ (by omega)).trans g2, (World.ownsRow.cellAt h _ (by omega)).trans g3, (World.ownsRow.cellAt h _ (by omega)).trans g4⟩
theorem RThR.chg {X : List Nat} (h : RThR W gt th) (hc : Chg X W W') (hx : gt ∉ X) : RThR W' gt th := by
  obtain ⟨c, h⟩ := h; exact ⟨c, own_chg h hc (fun g hg => by cases hg; exact hx)⟩
theorem RThR.nw (h : RThR W gt th) (hn : Nw W W') : RThR W' gt th := by
  obtain ⟨c, h⟩ := h; exact ⟨c, own_nw h hn⟩
end
/-- A model of the reference: itself, its seats, its map, the map's slice; c: its configuration. -/
structure RAt (W : World) (p : Pl) (c : Cf) (s : Md) : Prop where
  cf : ∀ i v, (ccells c)[i]? = some v → W.cell? ⟨p.gm, i, none⟩ = some v
  sl : c.sl = s.slots
  m1 : W.cell? ⟨p.gm, 16, none⟩ = some (.pointer (some ⟨p.gp, 0, none⟩))
  m2 : ∃ c, W.cell? ⟨p.gm, 17, none⟩ = some (.slice (some ⟨p.gt, 0, none⟩) s.th.length c)
  mz : ∀ o, W.frozen? ⟨p.gm, o, none⟩ = false
  th : RThR W p.gt s.th
  om : OM W p.gp p.v s.l
  nmt : p.gm ≠ p.gt
  nmp : p.gm ≠ p.gp
  ntp : p.gt ≠ p.gp
  nmv : p.v.ownBlock ≠ some p.gm
  ntv : p.v.ownBlock ≠ some p.gt
section
variable {W W' w w2 w' w1 : World} {p p' p1 p2 : Pl} {c : Cf} {s s1 s2 : Md} {X : List Nat}
theorem RAt.im (h : RAt W p c s) : p.gm < W.heap.size := World.block_lt_of_cell? W _ h.m1
theorem RAt.it (h : RAt W p c s) : p.gt < W.heap.size := h.th.inn
theorem RAt.lt (h : RAt W p c s) {g : Nat} (hg : g ∈ p.foot) : g < W.heap.size := by
  rcases Pl.mem.1 hg with rfl | rfl | rfl | h1
  · exact h.im
  · exact h.it
  · exact h.om.lt
  · exact h.om.rlt h1
theorem RAt.chg (h : RAt W p c s) (hc : Chg X W W') (hx : ∀ g ∈ p.foot, g ∉ X) : RAt W' p c s :=
  { h with
    cf := fun i v hv => hc.cell (h.cf i v hv) (hx _ (Pl.mem.2 (.inl rfl)))
    m1 := hc.cell h.m1 (hx _ (Pl.mem.2 (.inl rfl)))
    m2 := h.m2.imp fun _ e => hc.cell e (hx _ (Pl.mem.2 (.inl rfl)))
    mz := fun o => (hc.frozen h.im (hx _ (Pl.mem.2 (.inl rfl)))).trans (h.mz o)
    th := h.th.chg hc (hx _ (Pl.mem.2 (.inr (.inl rfl))))
    om := h.om.chg hc (hx _ (Pl.mem.2 (.inr (.inr (.inl rfl))))) (fun g hg => hx _ (Pl.mem.2 (.inr (.inr (.inr hg))))) }
theorem RAt.nw (h : RAt W p c s) (hn : Nw W W') : RAt W' p c s := h.chg (Chg.of_nw hn : Chg [] W W') (by simp)
/-- A model of the reference that has been worked on. -/
structure RMUp (w : World) (p : Pl) (c : Cf) (s : Md) (p' : Pl) (w' : World) : Prop where
  at' : RAt w' p' c s
  chg : Chg p.foot w w'
  mv : ∀ y ∈ p'.foot, y ∈ p.foot ∨ w.heap.size ≤ y
  gm : p'.gm = p.gm
theorem RMUp.same (h : RAt w p c s) (hn : Nw w w') : RMUp w p c s p w' := ⟨h.nw hn, Chg.of_nw hn, fun y hy => .inl hy, rfl⟩
theorem RMUp.after (hn : Nw w w2) (h : RMUp w2 p c s p' w') : RMUp w p c s p' w' :=
  ⟨h.at', (Chg.of_nw hn).trans h.chg, fun y hy => (h.mv y hy).imp id fun h => Nat.le_trans hn.grown.size h, h.gm⟩
theorem RMUp.nw (h : RMUp w p c s p' w2) (hn : Nw w2 w') : RMUp w p c s p' w' := ⟨h.at'.nw hn, h.chg.trans (Chg.of_nw hn), h.mv, h.gm⟩
theorem RMUp.trans (h : RMUp w p c s1 p1 w1) (k : RMUp w1 p1 c s2 p2 w2) : RMUp w p c s2 p2 w2 := by
  refine ⟨k.at', h.chg.then k.chg h.mv, fun y hy => ?_, k.gm.trans h.gm⟩
  rcases k.mv y hy with h1 | h1
  · exact h.mv y h1
  · exact .inr (Nat.le_trans h.chg.size h1)
theorem RMUp.new (h : RMUp w p c s p' w2) (hc : Chg X w2 w') (hx : ∀ g ∈ X, w.heap.size ≤ g) (hd : ∀ g ∈ p'.foot, g ∉ X) : RMUp w p c s p' w' :=
  ⟨h.at'.chg hc hd, ⟨hc.os.trans h.chg.os, hc.tape.trans h.chg.tape, hc.output.trans h.chg.output, Nat.le_trans h.chg.size hc.size, fun k hk hk2 => (hc.block k (Nat.lt_of_lt_of_le hk h.chg.size) (fun e => by have := hx k e; omega)).trans (h.chg.block k hk hk2)⟩, h.mv, h.gm⟩
/-- The map has been worked on. -/
theorem RMUp.map {l : List (Int × Int)} {v' : Value} (h : RAt w p c s) (hu : RUpd w p.gp p.v l v' w') : RMUp w p c { s with l := l } { p with v := v' } w' := by
  have hf : ∀ g, g ∈ foot p.gp p.v → g ∈ p.foot := fun g hg => by simp [Pl.foot, hg]
  have hmf : p.gm ∉ foot p.gp p.v := fun e => by
    rcases mem_foot.1 e with e | e
    · exact h.nmp e
    · exact h.nmv e
  have htf : p.gt ∉ foot p.gp p.v := fun e => by
    rcases mem_foot.1 e with e | e
    · exact h.ntp e
    · exact h.ntv e
  refine ⟨⟨fun i v hv => hu.chg.cell (h.cf i v hv) hmf, h.sl, hu.chg.cell h.m1 hmf, h.m2.imp (fun _ e => hu.chg.cell e hmf), fun o => (hu.chg.frozen h.im hmf).trans (h.mz o), h.th.chg hu.chg htf, hu.om, h.nmt, h.nmp, h.ntp, ?_, ?_⟩, hu.chg.wide hf, ?_, rfl⟩
  · intro e
    rcases hu.mv _ e with e2 | e2
    · exact h.nmv e2
    · have e2 : w.heap.size ≤ p.gm := e2; have := h.im; omega
  · intro e
    rcases hu.mv _ e with e2 | e2
    · exact h.ntv e2
    · have e2 : w.heap.size ≤ p.gt := e2; have := h.it; omega
  · intro y hy
    rcases Pl.mem.1 hy with rfl | rfl | rfl | h1
    · exact .inl (Pl.mem.2 (.inl rfl))
    · exact .inl (Pl.mem.2 (.inr (.inl rfl)))
    · exact .inl (Pl.mem.2 (.inr (.inr (.inl rfl))))
    · exact (hu.mv _ h1).imp (fun e => Pl.mem.2 (.inr (.inr (.inr e)))) id
/-- The seats have been worked on. -/
theorem RMUp.ths {th' : List Th} (h : RAt w p c s) (hl : th'.length = s.th.length) (hr : RThR w' p.gt th') (hc : Chg [p.gt] w w') : RMUp w p c { s with th := th' } p w' := by
  have hmf : p.gm ∉ [p.gt] := by simpa using h.nmt
  refine ⟨⟨fun i v hv => hc.cell (h.cf i v hv) hmf, h.sl, hc.cell h.m1 hmf, h.m2.imp (fun c e => by show w'.cell? _ = some (.slice _ th'.length c); rw [hl]; exact hc.cell e hmf), fun o => (hc.frozen h.im hmf).trans (h.mz o), hr, h.om.chg hc (by have := h.ntp; simp; omega) (fun g hg => by have := h.ntv; simp; rintro rfl; exact this hg), h.nmt, h.nmp, h.ntp, h.nmv, h.ntv⟩, hc.wide (fun y hy => by simp at hy; subst hy; exact Pl.mem.2 (.inr (.inl rfl))), fun y hy => .inl hy, rfl⟩
end
end Go.Proofs.YtahagplegmcaaaaGreatDoor
namespace Go.Proofs.YtahagplegmcaaaaGreatDoor
open Go.RowKit Go.Xt
/-! The reference's model: sessions; the seats' methods. -/
theorem RThR.fin {W : World} {gt : Nat} {th : List Th} (h : RThR W gt th) {k : Nat} {x : Th} (hk : th[k]? = some x) :
    RThR (((W.setCell ⟨gt, k * 5 + 2, none⟩ (.bool false)).setCell ⟨gt, k * 5 + 3, none⟩ (.int .u64 0)).setCell ⟨gt, k * 5 + 3 + 1, none⟩ (.int .u64 0)) gt (th.set k x.fin) := by
  have h3 := ((h.mo hk false).lo (set_at hk _) 0).hi (set_at (set_at hk _) _) 0
  rw [List.set_set, List.set_set] at h3
  exact h3
set_option maxRecDepth 20000 in
set_option maxHeartbeats 4000000 in
theorem rafter_any (w : World) (gt : Nat) (th : List Th) (h : RThR w gt th) (k : Nat) (x : Th) (hk : th[k]? = some x) (key : Int) (h0 : 0 ≤ key) (hhi : x.hi < 18446744073709551616) :
    Calls Tryz.prog 69 #[.pointer (some ⟨gt, k * 5, none⟩), .int .u64 key] w fun e w' => e = .returned (.tuple #[]) ∧ RThR w' gt (th.set k (if x.hi ≤ key then x.fin else { x with lo := key + 1 })) ∧ Chg [gt] w w' := by
  obtain ⟨c0, c1, c2, c3, c4⟩ := h.cells hk
  have z2 : w.frozen? ⟨gt, k * 5 + 2, none⟩ = false := h.frozen _
  have z3 : w.frozen? ⟨gt, k * 5 + 3, none⟩ = false := h.frozen _
  have z4 : w.frozen? ⟨gt, k * 5 + 3 + 1, none⟩ = false := h.frozen _
  haveI : In gt w := ⟨h.inn⟩
  by_cases hlt : x.hi ≤ key
  · rw [if_pos hlt]
    have HF := Lib.hid (h.fin hk)
    have d1 : decide (x.hi ≤ key) = true := by simpa using hlt
    obtain ⟨op, mo, lo, hi, se⟩ := x
    simp only at c0 c1 c2 c3 c4 d1
    clear h hk hlt hhi
    go_enter Tryz.func69, Tryz.ntmps69
    go_wp2
    exact bodyPost_ret (results_none rfl _ _ _) rfl ⟨rfl, HF.out, (((Chg.set1 w gt _ _).set2 _ _).set2 _ _)⟩
  · rw [if_neg hlt]
    have HF := Lib.hid (h.lo hk (key + 1))
    have d1 : decide (x.hi ≤ key) = false := by simpa using hlt
    have hw : IntKind.u64.wrap (key + 1) = key + 1 := by rw [IntKind.wrap_u64]; omega
    have hk1 : key + 1 < 18446744073709551616 := by omega
    obtain ⟨op, mo, lo, hi, se⟩ := x
    simp only at c0 c1 c2 c3 c4 d1
    clear h hk hlt hhi
    go_enter Tryz.func69, Tryz.ntmps69
    go_wp2
    go_end0
    exact ⟨rfl, HF.out, Chg.set1 w gt _ _⟩
set_option maxRecDepth 20000 in
set_option maxHeartbeats 4000000 in
theorem rat_any (w : World) (gt : Nat) (th : List Th) (h : RThR w gt th) (k : Nat) (x : Th) (hk : th[k]? = some x) (key : Int) :
    Calls Tryz.prog 30 #[.pointer (some ⟨gt, k * 5, none⟩), .int .u64 key] w fun e w' => e = .returned (.tuple #[]) ∧ RThR w' gt (th.set k (if x.hi < key then x.fin else { x with lo := key })) ∧ Chg [gt] w w' := by
  obtain ⟨c0, c1, c2, c3, c4⟩ := h.cells hk
  have z2 : w.frozen? ⟨gt, k * 5 + 2, none⟩ = false := h.frozen _
  have z3 : w.frozen? ⟨gt, k * 5 + 3, none⟩ = false := h.frozen _
  have z4 : w.frozen? ⟨gt, k * 5 + 3 + 1, none⟩ = false := h.frozen _
  haveI : In gt w := ⟨h.inn⟩
  by_cases hlt : x.hi < key
  · rw [if_pos hlt]
    have HF := Lib.hid (h.fin hk)
    have d1 : decide (x.hi < key) = true := by simpa using hlt
    obtain ⟨op, mo, lo, hi, se⟩ := x
    simp only at c0 c1 c2 c3 c4 d1
    clear h hk hlt
    go_enter Tryz.func30, Tryz.ntmps30
    go_wp2
    exact bodyPost_ret (results_none rfl _ _ _) rfl ⟨rfl, HF.out, (((Chg.set1 w gt _ _).set2 _ _).set2 _ _)⟩
  · rw [if_neg hlt]
    have HF := Lib.hid (h.lo hk key)
    have d1 : decide (x.hi < key) = false := by simpa using hlt
    obtain ⟨op, mo, lo, hi, se⟩ := x
    simp only at c0 c1 c2 c3 c4 d1
    clear h hk hlt
    go_enter Tryz.func30, Tryz.ntmps30
    go_wp2
    go_end0
    exact ⟨rfl, HF.out, Chg.set1 w gt _ _⟩
set_option maxRecDepth 20000 in
set_option maxHeartbeats 4000000 in
theorem rsess_any (w : World) (p : Pl) (c : Cf) (s : Md) (h : RAt w p c s) (hb : s.th.length ≤ 1000) :
    Calls Tryz.prog 21 #[.pointer (some ⟨p.gm, 0, none⟩)] w fun e w' => e = .returned (.int .i64 (cntS s.th : Nat)) ∧ Nw w w' := by
  obtain ⟨gm, gt, gp, v⟩ := p
  have H := Lib.hid h
  obtain ⟨ct, m2⟩ : ∃ ct, w.cell? ⟨gm, 17, none⟩ = some (.slice (some ⟨gt, 0, none⟩) s.th.length ct) := h.m2
  haveI : In gm w := ⟨h.im⟩
  haveI : In gt w := ⟨h.it⟩
  obtain ⟨n, hn⟩ : ∃ n, n = s.th.length := ⟨_, rfl⟩
  rw [← hn] at m2 hb
  have HNL := Lib.hid hn
  have hcb : ∀ k, cntS (s.th.take k) ≤ k := fun k => Nat.le_trans List.countP_le_length (by simp; omega)
  have HCB := Lib.hid hcb
  simp only
  clear h hn hcb
  go_enter Tryz.func21, Tryz.ntmps21
  go_wp2_with fail
  go_loopw [3, 4] (fun c i wr => ∃ (k m : Nat), k ≤ n ∧ c = .int .i64 (m : Int) ∧ i = .int .i64 k ∧ Hid (m = cntS (s.th.take k)) ∧ Nw w wr) (fun _ i _ => n - (intOf i).toNat)
  case atStart => exact ⟨0, 0, by omega, rfl, rfl, rfl, Nw.refl _⟩
  case round =>
    obtain ⟨k, m, hk, rfl, rfl, hm, d, rfl⟩ := hrel
    have hmk : m ≤ k := by rw [hm.out]; exact HCB.out k
    by_cases hlt : k < n
    · obtain ⟨x, hx⟩ : ∃ x, s.th[k]? = some x := ⟨_, List.getElem?_eq_getElem (by have := HNL.out; omega)⟩
      obtain ⟨c0, c1, c2, c3, c4⟩ := (H.out.th : RThR w gt s.th).cells hx
      have hnx : cntS (s.th.take (k + 1)) = m + if x.se then 1 else 0 := by
        obtain ⟨p1, q1⟩ := List.getElem?_eq_some_iff.1 hx
        rw [List.take_succ_eq_append_getElem p1, q1, cntS_snoc, hm.out]
      have HX := Lib.hid hnx
      obtain ⟨xo, xm, xl, xh, xs⟩ := x
      simp only at c0
      clear hx hnx hm c1 c2 c3 c4
      have k1 : (k : Int) < (n : Int) := by omega
      have k0 : (0 : Int) ≤ (k : Int) := by omega
      cases xs with
      | true =>
        go_wp2
        exact ⟨⟨k + 1, m + 1, by omega, by go_num, by go_num, HX.out.symm, (by repeat (first | exact Xt.Nw.refl _ | refine Xt.Nw.drew ?_ | refine Xt.Nw.drewN ?_ _ | refine Xt.Nw.alloc ?_ _ | refine Xt.Nw.joined ?_ | refine Xt.Nw.drewd ?_ | refine Xt.Nw.drewdN ?_ | refine Xt.Nw.ext ?_ | refine Xt.Nw.ext_some ?_ (by assumption) | refine Xt.Nw.setCell ?_ (by simp [go_sem] <;> omega) _))⟩, by simp [intOf]; omega⟩
      | false =>
        go_wp2
        exact ⟨⟨k + 1, m, by omega, by go_num, by go_num, HX.out.symm, (by repeat (first | exact Xt.Nw.refl _ | refine Xt.Nw.drew ?_ | refine Xt.Nw.drewN ?_ _ | refine Xt.Nw.alloc ?_ _ | refine Xt.Nw.joined ?_ | refine Xt.Nw.drewd ?_ | refine Xt.Nw.drewdN ?_ | refine Xt.Nw.ext ?_ | refine Xt.Nw.ext_some ?_ (by assumption) | refine Xt.Nw.setCell ?_ (by simp [go_sem] <;> omega) _))⟩, by simp [intOf]; omega⟩
    · have k1 : ¬ (k : Int) < (n : Int) := by omega
      go_wp2
      go_ret
      exact ⟨by rw [hm.out, List.take_of_length_le (by have := HNL.out; omega)]; rfl, (by repeat (first | exact Xt.Nw.refl _ | refine Xt.Nw.drew ?_ | refine Xt.Nw.drewN ?_ _ | refine Xt.Nw.alloc ?_ _ | refine Xt.Nw.joined ?_ | refine Xt.Nw.drewd ?_ | refine Xt.Nw.drewdN ?_ | refine Xt.Nw.ext ?_ | refine Xt.Nw.ext_some ?_ (by assumption) | refine Xt.Nw.setCell ?_ (by simp [go_sem] <;> omega) _))⟩
end Go.Proofs.YtahagplegmcaaaaGreatDoor
