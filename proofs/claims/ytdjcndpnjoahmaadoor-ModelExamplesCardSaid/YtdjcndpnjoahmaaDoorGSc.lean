import Derived.Test.YtdjcndpnjoahmaaDoorSb
import Derived.Test.YtdjcndpnjoahmaaDoorGRj
set_option linter.unusedVariables false
set_option linter.unusedSimpArgs false
namespace Go.Proofs.YtdjcndpnjoahmaaDoor
open Go.RowKit Go.Xt
/-! Key: what it returns; its parts. -/
def numK (z : Int) : List UInt8 := Lib.decDigits z.toNat ++ [32]
def strB (b : Bool) : List UInt8 := if b = true then [116, 114, 117, 101] else [102, 97, 108, 115, 101]
def boolK (b : Bool) : List UInt8 := strB b ++ [32]
def thK (x : Th) : List UInt8 := boolK x.se ++ boolK x.op ++ boolK x.mo ++ numK x.lo ++ numK x.hi
def prK (q : Int × Int) : List UInt8 := numK q.1 ++ numK q.2
def keyB (s : Md) : List UInt8 := numK s.slots ++ numK s.th.length ++ s.th.flatMap thK ++ s.l.flatMap prK
def Th.U (x : Th) : Prop := (0 ≤ x.lo ∧ x.lo < 18446744073709551616) ∧ 0 ≤ x.hi ∧ x.hi < 18446744073709551616
/-- The numbers of a state that Key writes. -/
def Md.Nums (s : Md) : Prop := (0 ≤ s.slots ∧ s.slots < 9223372036854775808) ∧ ∀ x ∈ s.th, x.U
theorem numK_len {z : Int} (h : 0 ≤ z ∧ z < 18446744073709551616) : (numK z).length ≤ 21 := by
  have := dec_len z.toNat (by omega)
  simp [numK]; omega
theorem numK_nat (n : Nat) : numK (n : Int) = Lib.decDigits n ++ [32] := by simp [numK]
theorem boolK_len (b : Bool) : (boolK b).length ≤ 6 := by cases b <;> simp [boolK, strB]
theorem thK_len {x : Th} (h : x.U) : (thK x).length ≤ 60 := by
  have h1 := numK_len h.1
  have h2 := numK_len h.2
  have h3 := boolK_len x.se
  have h4 := boolK_len x.op
  have h5 := boolK_len x.mo
  simp only [thK, List.length_append]; omega
theorem flat_len {α : Type} (f : α → List UInt8) (c : Nat) : ∀ (l : List α), (∀ x ∈ l, (f x).length ≤ c) → (l.flatMap f).length ≤ c * l.length
  | [], _ => by simp
  | x :: l, h => by
    have h1 := flat_len f c l (fun y hy => h y (by simp [hy]))
    have h2 := h x (by simp)
    rw [List.flatMap_cons, List.length_append, List.length_cons, Nat.mul_succ]; omega
theorem take_flat {α : Type} (f : α → List UInt8) {l : List α} {k : Nat} {x : α} (h : l[k]? = some x) : (l.take (k + 1)).flatMap f = (l.take k).flatMap f ++ f x := by
  obtain ⟨p, e⟩ := List.getElem?_eq_some_iff.1 h
  rw [List.take_succ_eq_append_getElem p, e]; simp
-- worlds that hold a builder
theorem Ok5.refl (b : Nat) (w : World) : Ok5 b w w := Lib.OthersKept.refl _ _ w
theorem Ok5.of_nw {b : Nat} {w w' : World} (h : Nw w w') : Ok5 b w w' := fun k o hk _ _ => by
  rw [h.grown.block k (Array.getElem?_eq_some_iff.1 hk).1 (by simp)]; exact hk
theorem Bd.nw {B b : Nat} {bs : List UInt8} {w w' : World} (h : Bd B b bs w) (hn : Nw w w') : Bd B b bs w' := by
  have aux : ∀ p, Lib.BuilderAtF 70 5 B b p (Lib.byteCells bs) w → Lib.BuilderAtF 70 5 B b p (Lib.byteCells bs) w' := by
    rintro p ⟨hB, v, hb, hown, hne⟩
    exact ⟨hB, v, (hn.grown.block b (Array.getElem?_eq_some_iff.1 hb).1 (by simp)).trans hb, hown.kept hn.grown (by cases hv : v.ownBlock <;> simp), hne⟩
  exact h.elim (fun x => .inl (aux _ x)) (fun x => .inr (aux _ x))
theorem nw_bel {w W W' : World} (h : Nw w W) (hb : Below w.heap.size W W') : Nw w W' := .of_below (h.below.trans hb)
theorem bel_nw {B : Nat} {w w' : World} (h : Nw w w') (hB : B ≤ w.heap.size) : Below B w w' := h.below.mono hB
theorem Bd.zero (w : World) : Bd w.heap.size w.heap.size [] (w.alloc (.cells #[.pointer none, .slice none 0 0] 70)) :=
  .inl ⟨Nat.le_refl _, _, heap_alloc_new w _, World.ownsRowF_nil _ _ _ _, by simp [Value.ownBlock]⟩
theorem Ok5.cells {b : Nat} {w w' : World} (h : Ok5 b w w') {k : Nat} {c : Array Value} {T : TypeId} {fz : Nat × Nat} (hk : w.heap[k]? = some (.cells c T fz)) (hb : k ≠ b) (hT : T ≠ 5) : w'.heap[k]? = some (.cells c T fz) :=
  h k _ hk (fun e => hb (Option.some.inj e)) (fun c' fz' e => by injection e with _ e _; exact hT e)
theorem nw_cells {w w' : World} (h : Nw w w') {k : Nat} {o : Obj} (hk : w.heap[k]? = some o) : w'.heap[k]? = some o := by
  rw [h.grown.block k (Array.getElem?_eq_some_iff.1 hk).1 (by simp)]; exact hk
theorem ifbool_any (b : Bool) (w : World) : Calls Tryd.prog 57 #[.bool b] w fun e w' => e = .returned (.string ⟨(strB b).toArray⟩) ∧ w' = w := by
  cases b <;>
  · go_enter Tryd.func57, Tryd.ntmps57
    go_wp2
    go_ret
    exact ⟨rfl, rfl⟩
theorem fbool_any (b : Bool) (w : World) : Calls Tryd.prog 28 #[.bool b] w fun e w' => e = .returned (.string ⟨(strB b).toArray⟩) ∧ w' = w := by
  go_enter Tryd.func28, Tryd.ntmps28
  go_wp2_with fail
  refine (ifbool_any b w).mono ?_
  rintro e w' ⟨rfl, rfl⟩
  go_wp2
  go_ret
  exact ⟨rfl, rfl⟩
/-- One number and a blank. -/
theorem number_any (B b : Nat) (bs : List UInt8) (n : Nat) (w : World) (h : Bd B b bs w) (hn : n < 18446744073709551616) (hl : bs.length ≤ 1000000000000) (H : FmtAt w) (hB : B ≤ w.heap.size) :
    Calls Tryd.prog 24 #[.int .u64 n, .pointer (some ⟨b, 0, none⟩)] w fun e w' => e = .returned (.tuple #[]) ∧ Bd B b (bs ++ numK n) w' ∧ Below B w w' ∧ Ok5 b w w' := by
  have hd := dec_len n hn
  have HF := Lib.hid (fmt_any w H n hn)
  have HB := Lib.hid h
  clear H h
  go_enter Tryd.func24, Tryd.ntmps24
  go_wp2_with fail
  refine HF.out.mono ?_
  rintro e w1 ⟨rfl, hn1⟩
  have h1 := HB.out.nw hn1
  have l1 := bel_nw hn1 hB
  have o1 : Ok5 b w w1 := Ok5.of_nw hn1
  have H1 := Lib.hid h1
  clear h1
  go_wp2_with fail
  refine (bstr B b bs _ w1 H1.out (by omega) (by have := l1.size; omega)).mono ?_
  rintro e w2 ⟨rfl, h2, l2, o2⟩
  have H2 := Lib.hid h2
  clear h2
  go_wp2_with fail
  have c3 := bbyte B b _ 32 w2 H2.out (by simp; omega) (by have := l1.size; have := l2.size; omega)
  refine Calls.mono (by exact c3) ?_
  rintro e w3 ⟨rfl, h3, l3, o3⟩
  have H3 := Lib.hid h3
  clear h3
  go_wp2
  go_end0
  refine ⟨rfl, ?_, (l1.trans l2).trans l3, (o1.trans o2).trans o3⟩
  rw [numK_nat, ← List.append_assoc]
  exact H3.out
end Go.Proofs.YtdjcndpnjoahmaaDoor
namespace Go.Proofs.YtdjcndpnjoahmaaDoor
open Go.RowKit Go.Xt
/-! Key and ModelRefuses, plain. -/
theorem key_beq (a b : List UInt8) : ((⟨a.toArray⟩ : ByteArray).toList == (⟨b.toArray⟩ : ByteArray).toList) = decide (a = b) := by
  rw [ByteArray.toList_eq, ByteArray.toList_eq, Bool.eq_iff_iff]; simp
/-- An iterator that ends shows in the key. -/
theorem key_fin {s : Md} {t : Nat} {x : Th} (hx : s.th[t]? = some x) (hm : x.mo = true) : keyB { s with th := s.th.set t x.fin } ≠ keyB s := by
  obtain ⟨sl, l, th⟩ := s
  obtain ⟨xo, xm, xl, xh, xs⟩ := x
  simp only at hx hm
  subst hm
  obtain ⟨p, e⟩ := List.getElem?_eq_some_iff.1 hx
  obtain ⟨A, B, hA, hl⟩ : ∃ A B, th = A ++ (⟨xo, true, xl, xh, xs⟩ : Th) :: B ∧ A.length = t :=
    ⟨th.take t, th.drop (t + 1), by rw [← e]; simp, by rw [List.length_take]; omega⟩
  subst hl hA
  intro h
  unfold keyB at h
  simp only [List.length_set, List.set_append_right _ _ (Nat.le_refl _), Nat.sub_self, List.set_cons_zero, List.flatMap_append, List.flatMap_cons, List.append_assoc, List.append_cancel_left_eq, Th.fin, thK] at h
  simp [boolK, strB] at h
/-- ErrRetry is accepted exactly of an operation that uses the map and is done. -/
def usesK (k : Int) : Bool := decide (k = 3) || (decide (4 ≤ k) && decide (k ≤ 9)) || decide (k = 10) || decide (k = 12)
def doneM (s : Md) (t : Int) (o : Ox) : Bool := decide ((doM s t o).1.err = 0) || (decide ((doM s t o).1.err = 14) && decide (keyB (doM s t o).2 ≠ keyB s))
theorem doneM_eq (s : Md) (t : Int) (o : Ox) : doneM s t o = (decide ((doM s t o).1.err = 0) || (decide ((doM s t o).1.err = 14) && decide (keyB (doM s t o).2 ≠ keyB s))) := rfl
theorem refuses_eq (s : Md) (t : Int) (o : Ox) : (acceptM s t o rRetry).1 = (usesK o.k && doneM s t o) := by
  rw [acc_retry]
  have hu : usesK o.k = ((decide (3 ≤ o.k) && decide (o.k ≤ 10)) || decide (o.k = 12)) := by
    unfold usesK
    rw [Bool.eq_iff_iff]; simp; omega
  rw [hu]
  simp only
  by_cases hr : refM s t o = 0
  · obtain ⟨t, x, rfl, hx, hc, hre, hd⟩ := refM_zero hr
    rw [decide_eq_true hr]
    cases hk : ((decide (3 ≤ o.k) && decide (o.k ≤ 10)) || decide (o.k = 12)) with
    | false => simp
    | true =>
      have h1 : doneM s t o = true := by
        unfold doneM
        rw [hd]
        rcases perf_err s t x o with h0 | ⟨k1, hp⟩ | ⟨k12, hp⟩
        · simp [h0]
        · exfalso; rw [k1] at hk; simp at hk
        · have hm : x.mo = true := by
            cases hm : x.mo with
            | true => rfl
            | false =>
              exfalso
              unfold refE at hre
              simp only [k12, hm] at hre
              revert hre
              cases x.se <;> cases x.op <;> simp
          have h2 := key_fin hx hm
          rw [hp]
          simp [h2]
      rw [h1]
  · have e : doM s t o = (⟨refM s t o, false, 0, 0, 0⟩, s) := by unfold doM; rw [if_pos hr]
    have h1 : doneM s t o = false := by
      unfold doneM
      rw [e]
      simp [hr]
    rw [h1, decide_eq_false hr]; simp
end Go.Proofs.YtdjcndpnjoahmaaDoor
namespace Go.Proofs.YtdjcndpnjoahmaaDoor
open Go.RowKit Go.Xt
/-! Key. -/
theorem own_ok5 {b base : Nat} {w w' : World} {e : TypeId} {size n : Nat} {v : Value} {xs : List Value} (h : w.ownsRow base e size v n xs) (ho : Ok5 b w w') (hb : b < base) (he : e ≠ 5) : w'.ownsRow base e size v n xs := by
  refine ⟨h.1, ?_⟩
  rcases h.2 with h1 | ⟨g, cap, cur, h1, h2, h3, h4⟩
  · exact .inl h1
  · exact .inr ⟨g, cap, cur, h1, h2, ho.cells h3 (by omega) he, h4⟩
theorem Bd.lt {B b : Nat} {bs : List UInt8} {w : World} (h : Bd B b bs w) : b < w.heap.size := h.elim (fun x => x.lt) (fun x => x.lt)
theorem cell3 {w : World} {q : Nat} {a b c : Bool} {T : TypeId} {fz : Nat × Nat} (h : w.heap[q]? = some (.cells #[.bool a, .bool b, .bool c] T fz)) {j : Nat} {v : Bool} (hj : [a, b, c][j]? = some v) : w.cell? ⟨q, j, none⟩ = some (.bool v) := by
  rw [Lib.cell_of_heap h]
  match j, hj with
  | 0, hj => simp at hj; subst hj; rfl
  | 1, hj => simp at hj; subst hj; rfl
  | 2, hj => simp at hj; subst hj; rfl
set_option maxRecDepth 20000 in
set_option maxHeartbeats 8000000 in
theorem key_M (w : World) (p : Pl) (s : Md) (h : MAt w p s) {N : Nat} (hok : s.Ok N) (hN : N ≤ 500000) (hnu : s.Nums) (H : FmtAt w) :
    Calls Tryd.prog 13 #[.pointer (some ⟨p.gm, 0, none⟩)] w fun e w' => e = .returned (.string ⟨(keyB s).toArray⟩) ∧ Nw w w' := by
  obtain ⟨gm, gt, gp, v⟩ := p
  obtain ⟨sl, l, th⟩ := s
  have m0 : w.cell? ⟨gm, 0, none⟩ = some (.int .i64 sl) := h.m0
  have m1 : w.cell? ⟨gm, 1, none⟩ = some (.pointer (some ⟨gp, 0, none⟩)) := h.m1
  obtain ⟨ct, m2⟩ : ∃ ct, w.cell? ⟨gm, 2, none⟩ = some (.slice (some ⟨gt, 0, none⟩) th.length ct) := h.m2
  have hll : l.length ≤ 500000 := Nat.le_trans hok.len hN
  have hlt : th.length ≤ 1000 := hok.thn
  have HP := Lib.hid (fun W (hw : Nw w W) => opairs_M (h.om.nw hw : OM W gp v l) (by show l.length ≤ 1000000; omega))
  have HT := Lib.hid (h.th : ThR w gt th)
  have HNU := Lib.hid hnu
  have HU6 := Lib.hid (hok.u64 : U64s l)
  have HF := Lib.hid H
  obtain ⟨sl, rfl⟩ : ∃ z : Nat, sl = (z : Int) := ⟨sl.toNat, by have h0 : 0 ≤ sl := hnu.1.1; omega⟩
  have hsl : sl < 9223372036854775808 := by have : (sl : Int) < _ := hnu.1.2; omega
  haveI : In gm w := ⟨h.im⟩
  haveI : In gt w := ⟨h.it⟩
  obtain ⟨n, hn⟩ : ∃ n, n = th.length := ⟨_, rfl⟩
  have HN := Lib.hid hn
  have hn9 : n ≤ 1000 := by omega
  rw [← hn] at m2
  have HLL := Lib.hid hll
  have HSL := Lib.hid hsl
  have isl : (sl : Int) < 9223372036854775808 := by omega
  have isl0 : (0 : Int) ≤ (sl : Int) := by omega
  have in9 : (n : Int) ≤ 1000 := by omega
  have in0 : (0 : Int) ≤ (n : Int) := by omega
  simp only
  clear h hok hnu H hn hlt hll hsl
  go_enter Tryd.func13, Tryd.ntmps13
  go_wp2_with fail
  refine (number_any w.heap.size w.heap.size [] sl _ (Bd.zero w) (by omega) (by simp) (HF.out.nw ((by repeat (first | exact Xt.Nw.refl _ | refine Xt.Nw.drew ?_ | refine Xt.Nw.drewN ?_ _ | refine Xt.Nw.alloc ?_ _ | refine Xt.Nw.joined ?_ | refine Xt.Nw.drewd ?_ | refine Xt.Nw.drewdN ?_ | refine Xt.Nw.ext ?_ | refine Xt.Nw.ext_some ?_ (by assumption) | refine Xt.Nw.setCell ?_ (by simp [go_sem] <;> omega) _)))) (by simp)).mono ?_
  rintro e w1 ⟨rfl, b1, l1, o1⟩
  obtain ⟨d1, rfl⟩ : Nw w w1 := nw_bel (by exact (by repeat (first | exact Xt.Nw.refl _ | refine Xt.Nw.drew ?_ | refine Xt.Nw.drewN ?_ _ | refine Xt.Nw.alloc ?_ _ | refine Xt.Nw.joined ?_ | refine Xt.Nw.drewd ?_ | refine Xt.Nw.drewdN ?_ | refine Xt.Nw.ext ?_ | refine Xt.Nw.ext_some ?_ (by assumption) | refine Xt.Nw.setCell ?_ (by simp [go_sem] <;> omega) _))) l1
  have B1 := Lib.hid b1
  have hk1 := numK_len (z := (sl : Int)) (by omega)
  have hk2 := numK_len (z := (n : Int)) (by omega)
  clear b1 l1 o1
  go_wp2_with fail
  refine (number_any w.heap.size w.heap.size _ n _ B1.out (by omega) (by simp; omega) (HF.out.nw ((by repeat (first | exact Xt.Nw.refl _ | refine Xt.Nw.drew ?_ | refine Xt.Nw.drewN ?_ _ | refine Xt.Nw.alloc ?_ _ | refine Xt.Nw.joined ?_ | refine Xt.Nw.drewd ?_ | refine Xt.Nw.drewdN ?_ | refine Xt.Nw.ext ?_ | refine Xt.Nw.ext_some ?_ (by assumption) | refine Xt.Nw.setCell ?_ (by simp [go_sem] <;> omega) _)))) (by exact (gext w none d1).size)).mono ?_
  rintro e w2 ⟨rfl, b2, l2, o2⟩
  obtain ⟨d2, rfl⟩ : Nw w w2 := nw_bel ⟨_, rfl⟩ l2
  have B2 := Lib.hid b2
  clear b2 l2 o2 B1
  go_wp2_with fail
  go_loopw [34] (fun a wr => ∃ m : Nat, m ≤ n ∧ a = .int .i64 m ∧ Nw w wr ∧ Hid (Bd w.heap.size w.heap.size (numK sl ++ numK n ++ (th.take m).flatMap thK) wr)) (fun a _ => n - (intOf a).toNat)
  case atStart => exact ⟨0, by omega, rfl, ⟨_, rfl⟩, by simpa using B2⟩
  case round =>
    obtain ⟨m, hm, rfl, ⟨d, rfl⟩, HB⟩ := hrel
    clear B2
    by_cases hmn : m < n
    · obtain ⟨x, hx⟩ : ∃ x, th[m]? = some x := ⟨_, List.getElem?_eq_getElem (by have := HN.out; omega)⟩
      have hU := HNU.out.2 x (List.mem_of_getElem? hx)
      obtain ⟨xo, xm, xl, xh, xs⟩ := x
      obtain ⟨xl, rfl⟩ : ∃ z : Nat, xl = (z : Int) := ⟨xl.toNat, by have h0 : 0 ≤ xl := hU.1.1; omega⟩
      obtain ⟨xh, rfl⟩ : ∃ z : Nat, xh = (z : Int) := ⟨xh.toNat, by have h0 : 0 ≤ xh := hU.2.1; omega⟩
      have hxl : xl < 18446744073709551616 := by have h0 : (xl : Int) < _ := hU.1.2; omega
      have hxh : xh < 18446744073709551616 := by have h0 : (xh : Int) < _ := hU.2.2; omega
      obtain ⟨c0, c1, c2, c3, c4⟩ := HT.out.cells hx
      simp only at c0 c1 c2 c3 c4
      have HX := Lib.hid hx
      have i1 : (m : Int) < (n : Int) := by omega
      have i0 : (0 : Int) ≤ (m : Int) := by omega
      have HMN := Lib.hid hmn
      have HXL := Lib.hid hxl
      have HXH := Lib.hid hxh
      have hpre : (numK sl ++ numK n ++ (th.take m).flatMap thK).length ≤ 100000 := by
        have h1 := flat_len thK 60 (th.take m) (fun x hx => thK_len (HNU.out.2 x (List.mem_of_mem_take hx)))
        have h2 := List.length_take_le m th
        rw [List.length_append, List.length_append]; omega
      have HPRE := Lib.hid hpre
      clear hx hmn hm hU hxl hxh hpre
      go_wp2_with fail
      clear c0 c1 c2 c3 c4
      obtain ⟨q, hq⟩ : ∃ q, q = (w.ext none d).heap.size := ⟨_, rfl⟩
      have hqB : w.heap.size < q := by rw [hq]; exact HB.out.lt
      obtain ⟨W3, hW3⟩ : ∃ W3, W3 = ((w.ext none d).alloc (.cells #[.bool xo, .bool xm, .int .u64 xl, .int .u64 xh, .bool xs] 81)).alloc (.cells #[.bool xs, .bool xo, .bool xm] 4) := ⟨_, rfl⟩
      have hn3 : Nw (w.ext none d) W3 := by rw [hW3]; exact ((Nw.refl _).alloc _).alloc _
      have b3 := HB.out.nw hn3
      have k6 : W3.heap[q]? = some (.cells #[.bool xo, .bool xm, .int .u64 xl, .int .u64 xh, .bool xs] 81) := by rw [hW3, hq, Lib.alloc_old _ _ _ (by simp)]; exact heap_alloc_new _ _
      have k8 : W3.heap[q + 1]? = some (.cells #[.bool xs, .bool xo, .bool xm] 4) := by
        rw [hW3, hq, show (w.ext none d).heap.size + 1 = ((w.ext none d).alloc (.cells #[.bool xo, .bool xm, .int .u64 xl, .int .u64 xh, .bool xs] 81)).heap.size by simp]
        exact heap_alloc_new _ _
      have HS := Lib.hid (⟨Nw.trans ⟨d, rfl⟩ hn3, b3, k6, k8⟩ : Nw w W3 ∧ Bd w.heap.size w.heap.size (numK sl ++ numK n ++ (th.take m).flatMap thK) W3 ∧ W3.heap[q]? = some (.cells #[.bool xo, .bool xm, .int .u64 xl, .int .u64 xh, .bool xs] 81) ∧ W3.heap[q + 1]? = some (.cells #[.bool xs, .bool xo, .bool xm] 4))
      rw [← hq, ← hW3]
      clear hW3 hq hn3 b3 k6 k8
      go_loopw [8, 48] (fun _ a wr => ∃ j : Nat, j ≤ 3 ∧ a = .int .i64 j ∧ Nw w wr ∧ Hid (Bd w.heap.size w.heap.size (numK sl ++ numK n ++ (th.take m).flatMap thK ++ ([xs, xo, xm].take j).flatMap boolK) wr ∧ wr.heap[q]? = some (.cells #[.bool xo, .bool xm, .int .u64 xl, .int .u64 xh, .bool xs] 81) ∧ wr.heap[q + 1]? = some (.cells #[.bool xs, .bool xo, .bool xm] 4))) (fun _ a _ => 3 - (intOf a).toNat)
      case atStart => exact ⟨0, by omega, rfl, HS.out.1, Lib.hid ⟨by simpa using HS.out.2.1, HS.out.2.2.1, HS.out.2.2.2⟩⟩
      case round =>
        obtain ⟨j, hj, rfl, ⟨dd, rfl⟩, HJ⟩ := hrel
        by_cases hj3 : j < 3
        · obtain ⟨bv, hbv⟩ : ∃ bv, [xs, xo, xm][j]? = some bv := ⟨_, List.getElem?_eq_getElem (by simpa using hj3)⟩
          have cj := cell3 HJ.out.2.2 hbv
          have HBV := Lib.hid hbv
          have j0 : (0 : Int) ≤ (j : Int) := by omega
          have j1 : (j : Int) < 3 := by omega
          have HJ3 := Lib.hid hj3
          clear hbv hj3
          go_wp2_with fail
          refine (fbool_any bv _).mono ?_
          rintro e w4 ⟨rfl, rfl⟩
          go_wp2_with fail
          have hlen : (numK sl ++ numK n ++ (th.take m).flatMap thK ++ ([xs, xo, xm].take j).flatMap boolK).length ≤ 200000 := by
            have h1 := HPRE.out
            have h2 := flat_len boolK 6 ([xs, xo, xm].take j) (fun b _ => boolK_len b)
            have h3 := List.length_take_le j [xs, xo, xm]
            have h4 := HJ3.out
            rw [List.length_append]; omega
          have hsb : (strB bv).length ≤ 5 := by cases bv <;> decide
          have hw0 : w.heap.size ≤ (w.ext none dd).heap.size := (gext w none dd).size
          refine (bstr w.heap.size w.heap.size _ (strB bv) _ HJ.out.1 (by omega) hw0).mono ?_
          rintro e w5 ⟨rfl, b5, l5, o5⟩
          have s5 := l5.size
          have H5 := Lib.hid (⟨b5, l5, o5⟩ : Bd w.heap.size w.heap.size _ w5 ∧ Below w.heap.size (w.ext none dd) w5 ∧ Ok5 w.heap.size (w.ext none dd) w5)
          have hlen2 : ((numK sl ++ numK n ++ (th.take m).flatMap thK ++ ([xs, xo, xm].take j).flatMap boolK) ++ strB bv).length + 1 ≤ 140737488355328 := by rw [List.length_append]; omega
          have hw5 : w.heap.size ≤ w5.heap.size := by omega
          clear b5 l5 o5
          go_wp2_with fail
          have c6 := bbyte w.heap.size w.heap.size _ 32 w5 H5.out.1 hlen2 hw5
          refine Calls.mono (by exact c6) ?_
          rintro e w6 ⟨rfl, b6, l6, o6⟩
          have hn6 : Nw w w6 := nw_bel ⟨_, rfl⟩ (H5.out.2.1.trans l6)
          have oo : Ok5 w.heap.size (w.ext none dd) w6 := H5.out.2.2.trans o6
          have b6' : Bd w.heap.size w.heap.size (numK sl ++ numK n ++ (th.take m).flatMap thK ++ ([xs, xo, xm].take (j + 1)).flatMap boolK) w6 := by
            rw [take_flat boolK HBV.out, boolK]
            simpa only [List.append_assoc] using b6
          have HZ := Lib.hid (⟨b6', oo.cells HJ.out.2.1 (by omega) (by decide), oo.cells HJ.out.2.2 (by omega) (by decide)⟩ : Bd w.heap.size w.heap.size (numK sl ++ numK n ++ (th.take m).flatMap thK ++ ([xs, xo, xm].take (j + 1)).flatMap boolK) w6 ∧ w6.heap[q]? = some (.cells #[.bool xo, .bool xm, .int .u64 xl, .int .u64 xh, .bool xs] 81) ∧ w6.heap[q + 1]? = some (.cells #[.bool xs, .bool xo, .bool xm] 4))
          clear b6 l6 o6 oo b6'
          go_wp2
          exact ⟨⟨j + 1, by have := HJ3.out; omega, by go_num, hn6, HZ⟩, by have := HJ3.out; simp [intOf]; omega⟩
        · have e3 : j = 3 := by omega
          subst e3
          clear hj hj3
          have d2 : (w.ext none dd).cell? ⟨q, 2, none⟩ = some (.int .u64 xl) := by rw [Lib.cell_of_heap HJ.out.2.1]; rfl
          have hw0 : w.heap.size ≤ (w.ext none dd).heap.size := (gext w none dd).size
          have hlen : (numK sl ++ numK n ++ (th.take m).flatMap thK ++ ([xs, xo, xm].take 3).flatMap boolK).length ≤ 200000 := by
            have h1 := HPRE.out
            have h2 := flat_len boolK 6 ([xs, xo, xm].take 3) (fun b _ => boolK_len b)
            have h3 := List.length_take_le 3 [xs, xo, xm]
            rw [List.length_append]; omega
          go_wp2_with fail
          refine (number_any w.heap.size w.heap.size _ xl _ HJ.out.1 HXL.out (by omega) (HF.out.nw ⟨_, rfl⟩) hw0).mono ?_
          rintro e w7 ⟨rfl, b7, l7, o7⟩
          have d3 : w7.cell? ⟨q, 3, none⟩ = some (.int .u64 xh) := by rw [Lib.cell_of_heap (o7.cells HJ.out.2.1 (by omega) (by decide))]; rfl
          have hk7 := numK_len (z := (xl : Int)) (by have := HXL.out; omega)
          have hlen7 : (numK sl ++ numK n ++ (th.take m).flatMap thK ++ ([xs, xo, xm].take 3).flatMap boolK ++ numK xl).length ≤ 1000000000000 := by rw [List.length_append]; omega
          have hn7 : Nw w w7 := nw_bel ⟨_, rfl⟩ l7
          have hw7 : w.heap.size ≤ w7.heap.size := hn7.grown.size
          have H7 := Lib.hid b7
          have HN7 := Lib.hid hn7
          clear b7 l7 o7 hn7 d2 hlen
          go_wp2_with fail
          refine (number_any w.heap.size w.heap.size _ xh _ H7.out HXH.out hlen7 (HF.out.nw HN7.out) hw7).mono ?_
          rintro e w8 ⟨rfl, b8, l8, o8⟩
          have hn8 : Nw w w8 := nw_bel HN7.out l8
          have b8' : Bd w.heap.size w.heap.size (numK sl ++ numK n ++ (th.take (m + 1)).flatMap thK) w8 := by
            rw [take_flat thK HX.out, thK]
            simpa [List.append_assoc] using b8
          have H8 := Lib.hid b8'
          clear b8 b8' l8 o8 d3
          go_wp2
          exact ⟨⟨m + 1, by have := HMN.out; omega, by go_num, hn8, H8⟩, by have := HMN.out; simp [intOf]; omega⟩
    · have em : m = n := by omega
      subst em
      have hb9 : Bd w.heap.size w.heap.size (numK sl ++ numK m ++ th.flatMap thK) (w.ext none d) := by
        have h := HB.out
        rw [List.take_of_length_le (by have := HN.out; omega)] at h; exact h
      have hlen9 : (numK sl ++ numK m ++ th.flatMap thK).length ≤ 100000 := by
        have h1 := flat_len thK 60 th (fun x hx => thK_len (HNU.out.2 x hx))
        have h2 := HN.out
        rw [List.length_append, List.length_append]; omega
      have H9 := Lib.hid hb9
      have HL9 := Lib.hid hlen9
      clear HB hb9 hlen9 hmn hm
      go_wp2_with fail
      refine (HP.out _ ⟨_, rfl⟩).mono ?_
      rintro e w10 ⟨v', rfl, hown, hn10⟩
      have hBn : w.heap.size < (w.ext none d).heap.size := H9.out.lt
      have b10 := H9.out.nw hn10
      obtain ⟨B2, hB2⟩ : ∃ z, z = (w.ext none d).heap.size := ⟨_, rfl⟩
      rw [← hB2] at hown hBn
      obtain ⟨A, c, rfl⟩ : ∃ A c, v' = .slice A l.length c := by
        rcases own_forms hown with ⟨h1, h2⟩ | ⟨g, cap, h1, _⟩
        · exact ⟨none, 0, by rw [h1, h2]⟩
        · exact ⟨_, _, h1⟩
      obtain ⟨k9, hk9⟩ : ∃ z, z = l.length := ⟨_, rfl⟩
      rw [← hk9] at hown
      have HK9 := Lib.hid hk9
      have hn11 : Nw w w10 := Nw.trans ⟨d, rfl⟩ hn10
      have H10 := Lib.hid (⟨b10, hown⟩ : Bd w.heap.size w.heap.size (numK sl ++ numK m ++ th.flatMap thK) w10 ∧ w10.ownsRow B2 85 2 (.slice A k9 c) k9 (pcells l))
      rw [← hk9]
      have hk10 : (k9 : Int) ≤ 500000 := by have := HLL.out; omega
      have hk11 : (0 : Int) ≤ (k9 : Int) := by omega
      clear hown hn10 b10 hk9 hB2
      go_wp2_with fail
      go_loopw [76] (fun a wr => ∃ k : Nat, k ≤ k9 ∧ a = .int .i64 k ∧ Nw w wr ∧ Hid (Bd w.heap.size w.heap.size (numK sl ++ numK m ++ th.flatMap thK ++ (l.take k).flatMap prK) wr ∧ wr.ownsRow B2 85 2 (.slice A k9 c) k9 (pcells l))) (fun a _ => k9 - (intOf a).toNat)
      case atStart => exact ⟨0, by omega, rfl, hn11, Lib.hid ⟨by simpa using H10.out.1, H10.out.2⟩⟩
      case round =>
        clear hn11
        obtain ⟨k, hk, rfl, ⟨dk, rfl⟩, HK⟩ := hrel
        clear H10
        have hw0 : w.heap.size ≤ (w.ext none dk).heap.size := (gext w none dk).size
        have hlk : (numK sl ++ numK m ++ th.flatMap thK ++ (l.take k).flatMap prK).length ≤ 100000 + 42 * 500000 := by
          have h1 := HL9.out
          have h2 := flat_len prK 42 (l.take k) (fun q hq => by
            have hu := HU6.out q (List.mem_of_mem_take hq)
            have a1 := numK_len hu.1
            have a2 := numK_len hu.2
            rw [prK, List.length_append]; omega)
          have h3 := List.length_take_le k l
          have h4 := HLL.out
          have h5 := HK9.out
          have h6 := List.length_take_le' k l
          rw [List.length_append]; omega
        by_cases hkk : k < k9
        · obtain ⟨⟨qk, qv⟩, hq⟩ : ∃ q, l[k]? = some q := ⟨_, List.getElem?_eq_getElem (by have := HK9.out; omega)⟩
          have hu := HU6.out _ (List.mem_of_getElem? hq)
          obtain ⟨g, rfl, hg⟩ : ∃ g, A = some ⟨g, 0, none⟩ ∧ g < (w.ext none dk).heap.size := by
            rcases own_forms HK.out.2 with ⟨h1, h2⟩ | ⟨g, cap, h1, _, h3, _⟩
            · omega
            · injection h1 with h1 _ _; exact ⟨g, h1, h3.lt⟩
          have hc := pcells_get l k _ hq
          obtain ⟨qk, rfl⟩ : ∃ z : Nat, qk = (z : Int) := ⟨qk.toNat, by have h0 : 0 ≤ qk := hu.1.1; omega⟩
          obtain ⟨qv, rfl⟩ : ∃ z : Nat, qv = (z : Int) := ⟨qv.toNat, by have h0 : 0 ≤ qv := hu.2.1; omega⟩
          have hqk : qk < 18446744073709551616 := by have h0 : (qk : Int) < _ := hu.1.2; omega
          have hqv : qv < 18446744073709551616 := by have h0 : (qv : Int) < _ := hu.2.2; omega
          have c0 : (w.ext none dk).cell? ⟨g, k * 2, none⟩ = some (.int .u64 qk) := (World.ownsRow.cellAt HK.out.2 _ (by omega)).trans hc.1
          have c1 : (w.ext none dk).cell? ⟨g, k * 2 + 1, none⟩ = some (.int .u64 qv) := (World.ownsRow.cellAt HK.out.2 _ (by omega)).trans hc.2
          have HQ := Lib.hid hq
          have HKK := Lib.hid hkk
          have HQV := Lib.hid hqv
          have j0 : (0 : Int) ≤ (k : Int) := by omega
          have j1 : (k : Int) < (k9 : Int) := by omega
          clear hq hc hu hkk hqv hk
          go_wp2_with fail
          clear c0 c1
          obtain ⟨W3, hW3⟩ : ∃ W3, W3 = (w.ext none dk).alloc (.cells #[.int .u64 qk, .int .u64 qv] 85) := ⟨_, rfl⟩
          obtain ⟨q, hq⟩ : ∃ q, q = (w.ext none dk).heap.size := ⟨_, rfl⟩
          have hn3 : Nw (w.ext none dk) W3 := by rw [hW3]; exact (Nw.refl _).alloc _
          have b3 := HK.out.1.nw hn3
          have r3 := own_nw HK.out.2 hn3
          have hqB : q ≠ w.heap.size := by have := HK.out.1.lt; omega
          have k3 : W3.heap[q]? = some (.cells #[.int .u64 qk, .int .u64 qv] 85) := by rw [hW3, hq]; exact heap_alloc_new _ _
          have hw3 : w.heap.size ≤ W3.heap.size := Nat.le_trans hw0 hn3.grown.size
          have hnw3 : Nw w W3 := Nw.trans ⟨dk, rfl⟩ hn3
          rw [← hq, ← hW3]
          clear hW3 hq hn3
          refine (number_any w.heap.size w.heap.size _ qk W3 b3 hqk (by omega) (HF.out.nw hnw3) hw3).mono ?_
          rintro e w7 ⟨rfl, b7, l7, o7⟩
          have d3 : w7.cell? ⟨q, 1, none⟩ = some (.int .u64 qv) := by rw [Lib.cell_of_heap (o7.cells k3 hqB (by decide))]; rfl
          have hk7 := numK_len (z := (qk : Int)) (by omega)
          have hlen7 : (numK sl ++ numK m ++ th.flatMap thK ++ (l.take k).flatMap prK ++ numK qk).length ≤ 1000000000000 := by rw [List.length_append]; omega
          have hn7 : Nw w w7 := nw_bel hnw3 l7
          have hw7 : w.heap.size ≤ w7.heap.size := hn7.grown.size
          have H7 := Lib.hid b7
          have HN7 := Lib.hid hn7
          have HR7 := Lib.hid (own_ok5 r3 o7 hBn (by decide))
          clear b7 l7 o7 hn7 b3 r3 k3 hnw3
          go_wp2_with fail
          refine (number_any w.heap.size w.heap.size _ qv _ H7.out HQV.out hlen7 (HF.out.nw HN7.out) hw7).mono ?_
          rintro e w8 ⟨rfl, b8, l8, o8⟩
          have hn8 : Nw w w8 := nw_bel HN7.out l8
          have b8' : Bd w.heap.size w.heap.size (numK sl ++ numK m ++ th.flatMap thK ++ (l.take (k + 1)).flatMap prK) w8 := by
            rw [take_flat prK HQ.out, prK]
            simpa [List.append_assoc] using b8
          have H8 := Lib.hid (⟨b8', own_ok5 HR7.out o8 hBn (by decide)⟩ : Bd w.heap.size w.heap.size (numK sl ++ numK m ++ th.flatMap thK ++ (l.take (k + 1)).flatMap prK) w8 ∧ w8.ownsRow B2 85 2 (.slice (some ⟨g, 0, none⟩) k9 c) k9 (pcells l))
          clear b8 b8' l8 o8 d3
          go_wp2
          exact ⟨⟨k + 1, by have := HKK.out; omega, by go_num, hn8, H8⟩, by have := HKK.out; simp [intOf]; omega⟩
        · have ek : k = k9 := by omega
          subst ek
          have hbz : Bd w.heap.size w.heap.size (keyB ⟨sl, l, th⟩) (w.ext none dk) := by
            have h := HK.out.1
            rw [List.take_of_length_le (by have := HK9.out; omega)] at h
            have e : numK (th.length : Int) = numK (m : Int) := by rw [← HN.out]
            unfold keyB
            simp only
            rw [e]; exact h
          have hne : keyB ⟨sl, l, th⟩ ≠ [] := by
            intro h
            have : (keyB ⟨sl, l, th⟩).length = 0 := by rw [h]; rfl
            unfold keyB numK at this
            simp at this
          go_wp2_with fail
          refine (bget w.heap.size w.heap.size _ _ hbz hne).mono ?_
          rintro e w12 ⟨rfl, l12⟩
          have hn12 : Nw w w12 := nw_bel ⟨_, rfl⟩ l12
          go_wp2
          exact bodyPost_ret (results_tmp rfl _ _ _) rfl ⟨rfl, hn12⟩
end Go.Proofs.YtdjcndpnjoahmaaDoor
namespace Go.Proofs.YtdjcndpnjoahmaaDoor
open Go.RowKit Go.Xt
/-! What Do and Accept keep of the numbers; several models of a law's own. -/
theorem Th.U.fin {x : Th} : x.fin.U := ⟨⟨by show (0 : Int) ≤ 0; omega, by show (0 : Int) < _; omega⟩, by show (0 : Int) ≤ 0; omega, by show (0 : Int) < _; omega⟩
theorem Th.U.from_ {x : Th} (h : x.U) (k : Int) (hk : 0 ≤ k ∧ k < 18446744073709551616) : (x.from_ k).U := by
  unfold Th.from_
  split
  · have := h.1
    exact ⟨⟨by show 0 ≤ max x.lo k; omega, by show max x.lo k < _; omega⟩, h.2⟩
  · exact Th.U.fin
theorem Th.U.after {x : Th} (h : x.U) (k : Int) (hk : 0 ≤ k ∧ k < 18446744073709551616) : (x.after k).U := by
  unfold Th.after
  split
  · exact Th.U.fin
  · exact h.from_ _ (by omega)
theorem Md.Nums.setT {s : Md} (h : s.Nums) (t : Nat) {y : Th} (hy : y.U) : Md.Nums { s with th := s.th.set t y } := ⟨h.1, set_all h.2 hy⟩
theorem Md.Nums.setL {s : Md} (h : s.Nums) (l : List (Int × Int)) : Md.Nums { s with l := l } := h
theorem perfM_nums {s : Md} {N : Nat} (hok : s.Ok N) (h : s.Nums) {t : Nat} {x : Th} (ht : s.th[t]? = some x) {o : Ox} (hw : o.Wf) : (perfM s t x o).2.Nums := by
  have hx := h.2 x (List.mem_of_getElem? ht)
  unfold perfM
  by_cases k1 : o.k = 1
  · rw [if_pos k1]
    show (openM s t x).Nums
    unfold openM
    split
    · exact h
    · exact h.setT t (y := { x with se := true }) hx
  rw [if_neg k1]
  by_cases k2 : o.k = 2
  · rw [if_pos k2]; exact h.setT t (y := { x with se := false }) hx
  rw [if_neg k2]
  by_cases k3 : o.k = 3
  · rw [if_pos k3]; exact h
  rw [if_neg k3]
  by_cases k4 : o.k = 4
  · rw [if_pos k4]; exact h
  rw [if_neg k4]
  by_cases k5 : o.k = 5
  · rw [if_pos k5]; exact h
  rw [if_neg k5]
  by_cases k6 : o.k = 6
  · rw [if_pos k6]; exact h
  rw [if_neg k6]
  by_cases k7 : o.k = 7
  · rw [if_pos k7]; exact h
  rw [if_neg k7]
  by_cases k8 : o.k = 8
  · rw [if_pos k8]; exact h
  rw [if_neg k8]
  by_cases k9 : o.k = 9
  · rw [if_pos k9]; exact h
  rw [if_neg k9]
  by_cases k10 : o.k = 10
  · rw [if_pos k10]; exact h
  rw [if_neg k10]
  by_cases k11 : o.k = 11
  · rw [if_pos k11]; exact h.setT t (y := ⟨true, true, o.key, o.hi, x.se⟩) ⟨hw.key, hw.hi⟩
  rw [if_neg k11]
  by_cases k12 : o.k = 12
  · rw [if_pos k12]
    cases hq : nextL x.lo x.hi s.l with
    | none => exact h.setT t Th.U.fin
    | some q => exact h.setT t (hx.after _ (hok.u64 q (nextL_mem hq).1).1)
  rw [if_neg k12]
  by_cases k13 : o.k = 13
  · rw [if_pos k13]; exact h.setT t (hx.from_ _ hw.key)
  rw [if_neg k13]
  by_cases k14 : o.k = 14
  · rw [if_pos k14]; exact h.setT t (y := ⟨false, false, 0, 0, x.se⟩) (Th.U.fin (x := x))
  rw [if_neg k14]
  exact h
theorem doM_nums {s : Md} {N : Nat} (hok : s.Ok N) (h : s.Nums) (t : Int) {o : Ox} (hw : o.Wf) : (doM s t o).2.Nums := by
  by_cases hr : refM s t o = 0
  · obtain ⟨t, x, rfl, hx, hc, hre, hd⟩ := refM_zero hr
    rw [hd]; exact perfM_nums hok h hx hw
  · have e : doM s t o = (⟨refM s t o, false, 0, 0, 0⟩, s) := by unfold doM; rw [if_pos hr]
    rw [e]; exact h
theorem acceptM_nums {s : Md} {N : Nat} (hok : s.Ok N) (h : s.Nums) (t : Int) {o : Ox} (hw : o.Wf) {r : Rs} (hk : 0 ≤ r.key ∧ r.key < 18446744073709551616) : (acceptM s t o r).2.Nums := by
  unfold acceptM
  by_cases hr : refM s t o = 0
  · obtain ⟨t, x, rfl, hx, hc, hre, -⟩ := refM_zero hr
    have hxo := h.2 x (List.mem_of_getElem? hx)
    rw [if_neg (by simpa using hr), Int.toNat_natCast, hx]
    simp only
    split
    · exact h
    · split
      · split
        · exact h.setT t Th.U.fin
        · split
          · exact h.setT t (hxo.after _ hk)
          · exact h
      · split
        · exact h
        · split
          · exact perfM_nums hok h hx hw
          · exact h
  · rw [if_pos hr]; exact h
theorem acceptM_len (s : Md) (t : Int) (o : Ox) (r : Rs) : (acceptM s t o r).2.th.length = s.th.length := by
  by_cases hr : refM s t o = 0
  · obtain ⟨t, x, rfl, hx, hc, hre, hd⟩ := refM_zero hr
    have hl := (doM_len s (t : Int) o).1
    rw [hd] at hl
    unfold acceptM
    rw [if_neg (by simpa using hr), Int.toNat_natCast, hx]
    simp only
    split
    · rfl
    · split
      · split
        · simp
        · split
          · simp
          · rfl
      · split
        · rfl
        · split
          · exact hl
          · rfl
  · unfold acceptM; rw [if_pos hr]
/-- Models in new memory, none touching another, beside blocks of the law's own. -/
def Lw (w : World) (N : Nat) (ms : List (Nat × Md)) (K : List (Nat × Obj)) (W : World) : Prop :=
  Nw w W ∧ ∃ ps : List Pl, ps.length = ms.length ∧
    (∀ (i : Nat) (p : Pl) (m : Nat × Md), ps[i]? = some p → ms[i]? = some m → p.gm = m.1 ∧ MAt W p m.2 ∧ m.2.Ok N ∧ m.2.Nums ∧ (0 < m.2.th.length) ∧ ∀ g ∈ p.foot, w.heap.size ≤ g) ∧
    (∀ (i j : Nat) (p q : Pl), ps[i]? = some p → ps[j]? = some q → i ≠ j → ∀ g ∈ p.foot, g ∉ q.foot) ∧
    (∀ x ∈ K, W.heap[x.1]? = some x.2 ∧ ∀ p ∈ ps, x.1 ∉ p.foot)
section
variable {w W W' : World} {N : Nat} {ms : List (Nat × Md)} {K : List (Nat × Obj)}
theorem Lw.nw (h : Lw w N ms K W) : Nw w W := h.1
theorem Lw.block (h : Lw w N ms K W) {b : Nat} {o : Obj} (hb : (b, o) ∈ K) : W.heap[b]? = some o := by
  obtain ⟨_, ps, _, _, _, hK⟩ := h; exact (hK _ hb).1
theorem Lw.cell (h : Lw w N ms K W) {b : Nat} {c : Array Value} {T : TypeId} {fz : Nat × Nat} (hb : (b, .cells c T fz) ∈ K) (i : Nat) : W.cell? ⟨b, i, none⟩ = c[i]? := Lib.cell_of_heap (h.block hb) i
theorem Lw.at (h : Lw w N ms K W) {i gm : Nat} {s : Md} (hi : ms[i]? = some (gm, s)) : ∃ p : Pl, p.gm = gm ∧ MAt W p s ∧ s.Ok N ∧ s.Nums ∧ 0 < s.th.length ∧ ∀ g ∈ p.foot, w.heap.size ≤ g := by
  obtain ⟨_, ps, hl, hA, _, _⟩ := h
  have hlt := (List.getElem?_eq_some_iff.1 hi).1
  obtain ⟨p, hp⟩ : ∃ p, ps[i]? = some p := ⟨_, List.getElem?_eq_getElem (by omega)⟩
  exact ⟨p, hA i p _ hp hi⟩
theorem Lw.im (h : Lw w N ms K W) {i gm : Nat} {s : Md} (hi : ms[i]? = some (gm, s)) : gm < W.heap.size := by
  obtain ⟨p, rfl, h1, _⟩ := h.at hi; exact h1.im
theorem Lw.low {ps : List Pl} (hl : ps.length = ms.length) (hA : ∀ (i : Nat) (p : Pl) (m : Nat × Md), ps[i]? = some p → ms[i]? = some m → p.gm = m.1 ∧ MAt W p m.2 ∧ m.2.Ok N ∧ m.2.Nums ∧ (0 < m.2.th.length) ∧ ∀ g ∈ p.foot, w.heap.size ≤ g) {p : Pl} (hp : p ∈ ps) {g : Nat} (hg : g ∈ p.foot) : g < W.heap.size := by
  obtain ⟨i, hi⟩ := List.mem_iff_getElem?.1 hp
  have hlt2 := (List.getElem?_eq_some_iff.1 hi).1
  obtain ⟨m, hm⟩ : ∃ m, ms[i]? = some m := ⟨_, List.getElem?_eq_getElem (by omega)⟩
  exact (hA i p m hi hm).2.1.lt hg
theorem Lw.grow (h : Lw w N ms K W) (hn : Nw W W') : Lw w N ms K W' := by
  obtain ⟨h0, ps, hl, hA, hD, hK⟩ := h
  exact ⟨h0.trans hn, ps, hl, fun i p m hp hm => by
    obtain ⟨a, b, c, d, e, f⟩ := hA i p m hp hm
    exact ⟨a, b.nw hn, c, d, e, f⟩, hD, fun x hx => ⟨nw_cells hn (hK x hx).1, (hK x hx).2⟩⟩
/-- One block more that is kept. -/
theorem Lw.keep (h : Lw w N ms K W) (hn : Nw W W') {b : Nat} {o : Obj} (hb : W'.heap[b]? = some o) (hlt : W.heap.size ≤ b) : Lw w N ms ((b, o) :: K) W' := by
  obtain ⟨h0, ps, hl, hA, hD, hK⟩ := h
  refine ⟨h0.trans hn, ps, hl, fun i p m hp hm => by
    obtain ⟨a, b, c, d, e, f⟩ := hA i p m hp hm
    exact ⟨a, b.nw hn, c, d, e, f⟩, hD, fun x hx => ?_⟩
  rcases List.mem_cons.1 hx with rfl | hx
  · exact ⟨hb, fun p hp hg => by have := Lw.low hl hA hp hg; simp only at this; omega⟩
  · exact ⟨nw_cells hn (hK x hx).1, (hK x hx).2⟩
/-- A block that was there all along is kept, too. -/
theorem Lw.old (h : Lw w N ms K W) {b : Nat} {o : Obj} (hb : w.heap[b]? = some o) : Lw w N ms ((b, o) :: K) W := by
  obtain ⟨h0, ps, hl, hA, hD, hK⟩ := h
  refine ⟨h0, ps, hl, hA, hD, fun x hx => ?_⟩
  rcases List.mem_cons.1 hx with rfl | hx
  · refine ⟨nw_cells h0 hb, fun p hp hg => ?_⟩
    obtain ⟨i, hi⟩ := List.mem_iff_getElem?.1 hp
    have hlt2 := (List.getElem?_eq_some_iff.1 hi).1
    obtain ⟨m, hm⟩ : ∃ m, ms[i]? = some m := ⟨_, List.getElem?_eq_getElem (by omega)⟩
    have h1 := (hA i p m hi hm).2.2.2.2.2 _ hg
    have h2 := (Array.getElem?_eq_some_iff.1 hb).1
    simp only at h1 h2
    omega
  · exact hK x hx
/-- One of the models is worked on. -/
theorem Lw.run (h : Lw w N ms K W) {i gm : Nat} {s : Md} (hi : ms[i]? = some (gm, s)) :
    ∃ p : Pl, p.gm = gm ∧ MAt W p s ∧ s.Ok N ∧ s.Nums ∧ 0 < s.th.length ∧ ∀ (s' : Md) (p' : Pl) (W' : World) (N' : Nat), MUp W p s' p' W' → N ≤ N' → s'.Ok N' → s'.Nums → 0 < s'.th.length → Lw w N' (ms.set i (gm, s')) K W' := by
  obtain ⟨h0, ps, hl, hA, hD, hK⟩ := h
  have hlt := (List.getElem?_eq_some_iff.1 hi).1
  obtain ⟨p, hp⟩ : ∃ p, ps[i]? = some p := ⟨_, List.getElem?_eq_getElem (by omega)⟩
  obtain ⟨a, b, c, d, e, f⟩ := hA i p _ hp hi
  refine ⟨p, a, b, c, d, e, fun s' p' W' N' hu hN hok hnu hth => ⟨nw_chg2 h0 hu.chg f, ps.set i p', by simp [hl], fun j q m hq hm => ?_, fun j k q r hq hr hjk g hg => ?_, fun x hx => ?_⟩⟩
  · by_cases hij : i = j
    · subst hij
      rw [List.getElem?_set_self (by omega)] at hq hm
      cases hq; cases hm
      refine ⟨hu.gm.trans a, hu.at', hok, hnu, hth, fun g hg => ?_⟩
      rcases hu.mv g hg with h1 | h1
      · exact f g h1
      · exact Nat.le_trans h0.grown.size h1
    · rw [List.getElem?_set_ne hij] at hq hm
      obtain ⟨a2, b2, c2, d2, e2, f2⟩ := hA j q m hq hm
      exact ⟨a2, b2.chg hu.chg (fun g hg => hD j i q p hq hp (Ne.symm hij) g hg), c2.mono hN, d2, e2, f2⟩
  · by_cases hij : i = j
    · subst hij
      rw [List.getElem?_set_self (by omega)] at hq
      rw [List.getElem?_set_ne hjk] at hr
      cases hq
      rcases hu.mv g hg with h1 | h1
      · exact hD i k p r hp hr hjk g h1
      · intro h2
        have := Lw.low hl hA (List.mem_of_getElem? hr) h2
        omega
    · rw [List.getElem?_set_ne hij] at hq
      by_cases hik : i = k
      · subst hik
        rw [List.getElem?_set_self (by omega)] at hr
        cases hr
        intro h2
        rcases hu.mv g h2 with h1 | h1
        · exact hD j i q p hq hp hjk g hg h1
        · have := Lw.low hl hA (List.mem_of_getElem? hq) hg
          omega
      · rw [List.getElem?_set_ne hik] at hr
        exact hD j k q r hq hr hjk g hg
  · have hxl := (Array.getElem?_eq_some_iff.1 (hK x hx).1).1
    refine ⟨(hu.chg.block x.1 hxl ((hK x hx).2 p (List.mem_of_getElem? hp))).trans (hK x hx).1, fun q hq hg => ?_⟩
    rcases List.mem_or_eq_of_mem_set hq with h1 | rfl
    · exact (hK x hx).2 q h1 hg
    · rcases hu.mv _ hg with h1 | h1
      · exact (hK x hx).2 p (List.mem_of_getElem? hp) h1
      · omega
/-- One model more. -/
theorem Lw.add (h : Lw w N ms K W) (hn : Nw W W') {p : Pl} {s : Md} (hp : MAt W' p s) (hf : ∀ g ∈ p.foot, W.heap.size ≤ g) (hok : s.Ok N) (hnu : s.Nums) (hth : 0 < s.th.length) : Lw w N (ms ++ [(p.gm, s)]) K W' := by
  obtain ⟨h0, ps, hl, hA, hD, hK⟩ := h
  refine ⟨h0.trans hn, ps ++ [p], by simp [hl], fun j q m hq hm => ?_, fun j k q r hq hr hjk g hg => ?_, fun x hx => ?_⟩
  · by_cases hj : j < ps.length
    · rw [List.getElem?_append_left hj] at hq
      rw [List.getElem?_append_left (by omega)] at hm
      obtain ⟨a, b, c, d, e, f⟩ := hA j q m hq hm
      exact ⟨a, b.nw hn, c, d, e, f⟩
    · rw [List.getElem?_append_right (by omega)] at hq
      rw [List.getElem?_append_right (by omega)] at hm
      have e1 : j - ps.length = 0 := by have := (List.getElem?_eq_some_iff.1 hq).1; simp at this; omega
      rw [e1] at hq
      rw [← hl, e1] at hm
      simp at hq hm
      subst hq hm
      exact ⟨rfl, hp, hok, hnu, hth, fun g hg => Nat.le_trans h0.grown.size (hf g hg)⟩
  · have hend : ∀ (z : Nat) (y : Pl), (ps ++ [p])[z]? = some y → (z < ps.length ∧ ps[z]? = some y) ∨ (z = ps.length ∧ y = p) := fun z y hz => by
      by_cases hj : z < ps.length
      · rw [List.getElem?_append_left hj] at hz; exact .inl ⟨hj, hz⟩
      · rw [List.getElem?_append_right (by omega)] at hz
        have e1 : z - ps.length = 0 := by have := (List.getElem?_eq_some_iff.1 hz).1; simp at this; omega
        rw [e1] at hz
        simp at hz
        exact .inr ⟨by omega, hz.symm⟩
    rcases hend j q hq with ⟨hj, hq'⟩ | ⟨hj, hqp⟩
    · rcases hend k r hr with ⟨hk, hr'⟩ | ⟨hk, hrp⟩
      · exact hD j k q r hq' hr' hjk g hg
      · intro h2
        have h3 := Lw.low hl hA (List.mem_of_getElem? hq') hg
        have h4 := hf g (hrp ▸ h2)
        omega
    · rcases hend k r hr with ⟨hk, hr'⟩ | ⟨hk, hrp⟩
      · intro h2
        have h3 := Lw.low hl hA (List.mem_of_getElem? hr') h2
        have h4 := hf g (hqp ▸ hg)
        omega
      · omega
  · refine ⟨nw_cells hn (hK x hx).1, fun q hq hg => ?_⟩
    have hxl := (Array.getElem?_eq_some_iff.1 (hK x hx).1).1
    rcases List.mem_append.1 hq with h1 | h1
    · exact (hK x hx).2 q h1 hg
    · simp at h1; subst h1
      have := hf _ hg; omega
/-- The calls. -/
theorem do_Lw (h : Lw w N ms K W) (hN : N ≤ 500000) {i gm : Nat} {s : Md} (hi : ms[i]? = some (gm, s)) (t : Int) (o : Ox) (hw : o.Wf) :
    Calls Tryd.prog 12 #[.pointer (some ⟨gm, 0, none⟩), .int .i64 t, opV o] W fun e W' => e = .returned (resV (doM s t o).1) ∧ Lw w (N + 1) (ms.set i (gm, (doM s t o).2)) K W' := by
  obtain ⟨p, rfl, h1, h2, h3, h4, h5⟩ := h.run hi
  refine (do_any W p s h1 h2 hN t o hw).mono ?_
  rintro e W' ⟨rfl, p', hu⟩
  exact ⟨rfl, h5 _ _ _ _ hu (Nat.le_succ N) (doM_ok h2 t hw) (doM_nums h2 h3 t hw) (by rw [(doM_len s t o).1]; exact h4)⟩
theorem acc_Lw (h : Lw w N ms K W) (hN : N ≤ 500000) {i gm : Nat} {s : Md} (hi : ms[i]? = some (gm, s)) (t : Int) (o : Ox) (hw : o.Wf) (r : Rs) (hk : 0 ≤ r.key ∧ r.key < 18446744073709551616) :
    Calls Tryd.prog 16 #[.pointer (some ⟨gm, 0, none⟩), .int .i64 t, opV o, resV r] W fun e W' => e = .returned (.bool (acceptM s t o r).1) ∧ Lw w (N + 1) (ms.set i (gm, (acceptM s t o r).2)) K W' := by
  obtain ⟨p, rfl, h1, h2, h3, h4, h5⟩ := h.run hi
  refine (accept_any W p s h1 h2 hN t o hw r hk).mono ?_
  rintro e W' ⟨rfl, p', hu⟩
  exact ⟨rfl, h5 _ _ _ _ hu (Nat.le_succ N) (acceptM_ok h2 t hw hk.1) (acceptM_nums h2 h3 t hw hk) (by rw [acceptM_len]; exact h4)⟩
theorem copy_Lw (h : Lw w N ms K W) (hN : N ≤ 500000) {i gm : Nat} {s : Md} (hi : ms[i]? = some (gm, s)) :
    Calls Tryd.prog 11 #[.pointer (some ⟨gm, 0, none⟩)] W fun e W' => ∃ gq, e = .returned (.pointer (some ⟨gq, 0, none⟩)) ∧ Lw w N (ms ++ [(gq, s)]) K W' := by
  obtain ⟨p, rfl, h1, h2, h3, h4, h5⟩ := h.at hi
  refine (copy_M W p s h1 (by have := h2.len; omega) h4 h2.thn).mono ?_
  rintro e W' ⟨gq, rfl, p', rfl, hm, hf, hn⟩
  exact ⟨_, rfl, h.add hn hm hf h2 h3 h4⟩
theorem key_Lw (h : Lw w N ms K W) (hN : N ≤ 500000) (H : FmtAt w) {i gm : Nat} {s : Md} (hi : ms[i]? = some (gm, s)) :
    Calls Tryd.prog 13 #[.pointer (some ⟨gm, 0, none⟩)] W fun e W' => e = .returned (.string ⟨(keyB s).toArray⟩) ∧ Nw W W' := by
  obtain ⟨p, rfl, h1, h2, h3, h4, h5⟩ := h.at hi
  exact key_M W p s h1 h2 hN h3 (H.nw h.nw)
theorem sess_Lw (h : Lw w N ms K W) {i gm : Nat} {s : Md} (hi : ms[i]? = some (gm, s)) (t : Int) :
    Calls Tryd.prog 17 #[.pointer (some ⟨gm, 0, none⟩), .int .i64 t] W fun e W' => e = .returned (.bool (ofM s t).se) ∧ Nw W W' := by
  obtain ⟨p, rfl, h1, h2, h3, h4, h5⟩ := h.at hi
  exact session_M W p s h1 t
theorem iter_Lw (h : Lw w N ms K W) {i gm : Nat} {s : Md} (hi : ms[i]? = some (gm, s)) (t : Int) :
    Calls Tryd.prog 19 #[.pointer (some ⟨gm, 0, none⟩), .int .i64 t] W fun e W' => e = .returned (.tuple #[.agg #[.int .u64 (ofM s t).lo, .int .u64 (ofM s t).hi], .bool (ofM s t).mo, .bool (ofM s t).op]) ∧ Nw W W' := by
  obtain ⟨p, rfl, h1, h2, h3, h4, h5⟩ := h.at hi
  exact iter_M W p s h1 t
/-- A slice of pairs that is kept. -/
def PV (K : List (Nat × Obj)) (A : Option Addr) (n : Nat) (l : List (Int × Int)) : Prop := n = l.length ∧ (n = 0 ∨ ∃ g cap cur, A = some ⟨g, 0, none⟩ ∧ (g, Obj.cells cur 85) ∈ K ∧ n ≤ cap ∧ cur.size = cap * 2 ∧ cur.toList.take (n * 2) = pcells l)
theorem PV.more {K K' : List (Nat × Obj)} {A : Option Addr} {n : Nat} {l : List (Int × Int)} (h : PV K A n l) (hs : ∀ x ∈ K, x ∈ K') : PV K' A n l := by
  refine ⟨h.1, h.2.imp id ?_⟩
  rintro ⟨g, cap, cur, h1, h2, h3⟩
  exact ⟨g, cap, cur, h1, hs _ h2, h3⟩
theorem PV.rd {A : Option Addr} {n : Nat} {l : List (Int × Int)} (hp : PV K A n l) (h : Lw w N ms K W) : Rd W 2 A n (pcells l) := by
  obtain ⟨rfl, hp⟩ := hp
  refine ⟨pcells_len l, fun h0 => ?_⟩
  rcases hp with h1 | ⟨g, cap, cur, rfl, h2, h3, h4, h5⟩
  · omega
  · refine ⟨g, 0, rfl, (Array.getElem?_eq_some_iff.1 (h.block h2)).1, fun j u hu => ?_⟩
    rw [Nat.zero_add, h.cell h2 j]
    have hj := (List.getElem?_eq_some_iff.1 hu).1
    rw [← h5, List.getElem?_take] at hu
    split at hu
    · simpa using hu
    · cases hu
theorem pairs_Lw (h : Lw w N ms K W) (hN : N ≤ 500000) {i gm : Nat} {s : Md} (hi : ms[i]? = some (gm, s)) :
    Calls Tryd.prog 15 #[.pointer (some ⟨gm, 0, none⟩)] W fun e W' => ∃ A c K', e = .returned (.slice A s.l.length c) ∧ (∀ x ∈ K, x ∈ K') ∧ PV K' A s.l.length s.l ∧ Lw w N ms K' W' ∧ Nw W W' := by
  obtain ⟨p, rfl, h1, h2, h3, h4, h5⟩ := h.at hi
  refine (pairs_M W p s h1 (by have := h2.len; omega)).mono ?_
  rintro e W' ⟨v', rfl, hown, hn⟩
  rcases hown.2 with ⟨rfl, h0⟩ | ⟨g, cap, cur, rfl, hb, hg, hnc, hcm, hcs, ht⟩
  · exact ⟨none, 0, K, by rw [h0], fun x hx => hx, ⟨rfl, .inl h0⟩, h.grow hn, hn⟩
  · exact ⟨_, cap, (g, Obj.cells cur 85) :: K, rfl, fun x hx => List.mem_cons_of_mem _ hx, ⟨rfl, .inr ⟨g, cap, cur, rfl, by simp, hnc, hcs, ht⟩⟩, h.keep hn hg hb, hn⟩
end
end Go.Proofs.YtdjcndpnjoahmaaDoor
namespace Go.Proofs.YtdjcndpnjoahmaaDoor
open Go.RowKit Go.Xt
/-! Laws' parts: played, equal, quiet. -/
theorem Lw.nil {w W : World} (h : Nw w W) (N : Nat) : Lw w N [] [] W :=
  ⟨h, [], rfl, fun i p m hp _ => (by simp at hp), fun i j p q hp _ _ => (by simp at hp), fun x hx => (by simp at hx)⟩
theorem Lw.mono {w W : World} {N N' : Nat} {ms : List (Nat × Md)} {K : List (Nat × Obj)} (h : Lw w N ms K W) (hN : N ≤ N') : Lw w N' ms K W := by
  obtain ⟨h0, ps, hl, hA, hD, hK⟩ := h
  exact ⟨h0, ps, hl, fun i p m hp hm => by
    obtain ⟨a, b, c, d, e, f⟩ := hA i p m hp hm
    exact ⟨a, b, c.mono hN, d, e, f⟩, hD, hK⟩
theorem new_Lw (n : Nat) (sl : Int) (w W : World) (hw : Nw w W) (hn : 1 ≤ n ∧ n ≤ 8) (hs : 1 ≤ sl ∧ sl ≤ 64) :
    Calls Tryd.prog 18 #[cfgV n sl] W fun e W' => ∃ gm, e = .returned (.tuple #[.pointer (some ⟨gm, 0, none⟩), .int .i64 0]) ∧ Lw w 0 [(gm, ⟨sl, [], List.replicate n Th0⟩)] [] W' := by
  refine (new_M n sl W hn hs).mono ?_
  rintro e W' ⟨⟨p, rfl, h1, h2⟩, hn2⟩
  refine ⟨p.gm, rfl, (Lw.nil hw 0).add hn2 h1 h2 ⟨Nat.le_refl _, List.Pairwise.nil, fun _ h => (by cases h), (by simp; omega), fun x hx => (by rw [List.eq_of_mem_replicate hx]; exact ⟨fun h => (by cases h), fun h => (by cases h), fun h => (by cases h)⟩)⟩ ⟨by show 0 ≤ sl ∧ sl < _; omega, fun x hx => (by rw [List.eq_of_mem_replicate hx]; exact ⟨by simp [Th0], by simp [Th0]⟩)⟩ (by simp; omega)⟩
set_option maxRecDepth 20000 in
set_option maxHeartbeats 8000000 in
theorem played_L (A : Option Addr) (n c : Nat) (ds : List Dd) (w : World) (hr : Rd w 15 A n (dcells ds)) (hn : n ≤ 80) (hw : ∀ d ∈ ds, d.o.Wf) :
    Calls Tryd.prog 10 #[.slice A n c] w fun e w' => ∃ gm s, e = .returned (.pointer (some ⟨gm, 0, none⟩)) ∧ Lw w 100 [(gm, s)] [] w' ∧ s.th.length = 3 := by
  have HD := Lib.hid (fun (W : World) gm s N (h : Lw w N [(gm, s)] [] W) (hN : N ≤ 500000) (t : Int) (o : Ox) (hw : o.Wf) => do_Lw (i := 0) h hN rfl t o hw)
  unfold opV resV at HD
  have HRD := Lib.hid hr
  have HWF := Lib.hid hw
  have hlen : ds.length = n := by have := hr.1; rw [dcells_len] at this; omega
  have HLEN := Lib.hid hlen
  have HNN := Lib.hid hn
  clear hr hw hlen hn
  go_enter Tryd.func10, Tryd.ntmps10
  go_wp2_with fail
  refine (fixed_any 3 2 _).mono ?_
  rintro e w' ⟨rfl, dF, rfl⟩
  go_wp2_with fail
  refine (new_Lw 3 2 w _ ((by repeat (first | exact Xt.Nw.refl _ | refine Xt.Nw.drew ?_ | refine Xt.Nw.drewN ?_ _ | refine Xt.Nw.alloc ?_ _ | refine Xt.Nw.joined ?_ | refine Xt.Nw.drewd ?_ | refine Xt.Nw.drewdN ?_ | refine Xt.Nw.ext ?_ | refine Xt.Nw.ext_some ?_ (by assumption) | refine Xt.Nw.setCell ?_ (by simp [go_sem] <;> omega) _))) (by omega) (by omega)).mono ?_
  rintro e W3 ⟨gm, rfl, h3⟩
  have H3 := Lib.hid h3
  clear h3
  go_wp2_with fail
  have c4 := HD.out W3 gm _ 0 H3.out (by omega) 0 oOpen (by constructor <;> simp)
  rw [pl_1] at c4
  refine c4.mono ?_
  rintro e W4 ⟨rfl, h4⟩
  have H4 := Lib.hid h4
  clear h4 c4
  go_wp2_with fail
  go_loopw [5] (fun a wr => ∃ (i : Nat) (s : Md), i ≤ n ∧ a = .int .i64 i ∧ Hid (Lw w (i + 1) [(gm, s)] [] wr ∧ s.th.length = 3)) (fun a _ => n - (intOf a).toNat)
  case atStart => exact ⟨0, _, Nat.zero_le _, rfl, Lib.hid ⟨H4.out, rfl⟩⟩
  case round =>
    obtain ⟨i, s, hi, rfl, HL⟩ := hrel
    by_cases hin : i < n
    · obtain ⟨gA, oA, rfl, hgA, hcA⟩ := HRD.out.2 (by omega)
      obtain ⟨d, hd⟩ : ∃ d, ds[i]? = some d := ⟨_, List.getElem?_eq_getElem (by have := HLEN.out; omega)⟩
      have hwf := HWF.out d (List.mem_of_getElem? hd)
      have hg := dcells_get ds i d hd
      have HWD := Lib.hid hwf
      have x0 : w.cell? ⟨gA, oA + i * 15, none⟩ = some (.int .i64 d.t) := by
        have := hcA _ _ (hg 0 _ rfl)
        rw [← Nat.add_assoc] at this
        exact this
      have x1 : w.cell? ⟨gA, oA + i * 15 + 1, none⟩ = some (.int .u8 d.o.k) := by
        have := hcA _ _ (hg 1 _ rfl)
        rw [← Nat.add_assoc] at this
        exact this
      have x2 : w.cell? ⟨gA, oA + i * 15 + 1 + 1, none⟩ = some (.int .u64 d.o.key) := by
        have := hcA _ _ (hg 2 _ rfl)
        rw [← Nat.add_assoc] at this
        exact this
      have x3 : w.cell? ⟨gA, oA + i * 15 + 1 + 2, none⟩ = some (.int .u64 d.o.hi) := by
        have := hcA _ _ (hg 3 _ rfl)
        rw [← Nat.add_assoc] at this
        exact this
      have x4 : w.cell? ⟨gA, oA + i * 15 + 1 + 3, none⟩ = some (.int .u64 d.o.val) := by
        have := hcA _ _ (hg 4 _ rfl)
        rw [← Nat.add_assoc] at this
        exact this
      have x5 : w.cell? ⟨gA, oA + i * 15 + 1 + 4, none⟩ = some (.int .u64 d.o.old) := by
        have := hcA _ _ (hg 5 _ rfl)
        rw [← Nat.add_assoc] at this
        exact this
      have x6 : w.cell? ⟨gA, oA + i * 15 + 1 + 5, none⟩ = some (.int .u64 d.o.by_) := by
        have := hcA _ _ (hg 6 _ rfl)
        rw [← Nat.add_assoc] at this
        exact this
      have x7 : w.cell? ⟨gA, oA + i * 15 + 1 + 6, none⟩ = some (.int .u64 d.o.draw) := by
        have := hcA _ _ (hg 7 _ rfl)
        rw [← Nat.add_assoc] at this
        exact this
      obtain ⟨⟨dt, ⟨dk, da, db, dC, dd, de, df⟩, dj, dby, dr⟩, rfl⟩ : ∃ d', d = d' := ⟨d, rfl⟩
      simp only at x0 x1 x2 x3 x4 x5 x6 x7
      have hw0 := HL.out.1.nw
      haveI : In gA w := ⟨hgA⟩
      haveI : In gA wr := ⟨Nat.lt_of_lt_of_le hgA hw0.grown.size⟩
      haveI : In gm wr := ⟨HL.out.1.im (i := 0) rfl⟩
      have i1 : (i : Int) < (n : Int) := by omega
      have i0 : (0 : Int) ≤ (i : Int) := by omega
      have i2 : i < 1000 := by have := HNN.out; omega
      have HIN := Lib.hid hin
      clear hd hg hcA hwf
      go_upto_region 7 with (fail)
      go_region_held3 (fun w' => w'.cell? ⟨gA, oA + i * 15, none⟩ = some (.int .i64 dt) ∧ w'.cell? ⟨gA, oA + i * 15 + 1, none⟩ = some (.int .u8 dk) ∧ w'.cell? ⟨gA, oA + i * 15 + 1 + 1, none⟩ = some (.int .u64 da) ∧ w'.cell? ⟨gA, oA + i * 15 + 1 + 2, none⟩ = some (.int .u64 db) ∧ w'.cell? ⟨gA, oA + i * 15 + 1 + 3, none⟩ = some (.int .u64 dC) ∧ w'.cell? ⟨gA, oA + i * 15 + 1 + 4, none⟩ = some (.int .u64 dd) ∧ w'.cell? ⟨gA, oA + i * 15 + 1 + 5, none⟩ = some (.int .u64 de) ∧ w'.cell? ⟨gA, oA + i * 15 + 1 + 6, none⟩ = some (.int .u64 df)) (first | exact ⟨cell_nw x0 (Xt.Nw.drew hw0), cell_nw x1 (Xt.Nw.drew hw0), cell_nw x2 (Xt.Nw.drew hw0), cell_nw x3 (Xt.Nw.drew hw0), cell_nw x4 (Xt.Nw.drew hw0), cell_nw x5 (Xt.Nw.drew hw0), cell_nw x6 (Xt.Nw.drew hw0), cell_nw x7 (Xt.Nw.drew hw0)⟩ | exact ⟨cell_nw x0 hwk, cell_nw x1 hwk, cell_nw x2 hwk, cell_nw x3 hwk, cell_nw x4 hwk, cell_nw x5 hwk, cell_nw x6 hwk, cell_nw x7 hwk⟩ | exact ⟨cell_nw x0 hls.nw, cell_nw x1 hls.nw, cell_nw x2 hls.nw, cell_nw x3 hls.nw, cell_nw x4 hls.nw, cell_nw x5 hls.nw, cell_nw x6 hls.nw, cell_nw x7 hls.nw⟩)
        ((first | (go_at_call 7; refine (index_any _ _).mono ?_; rintro r Wk ⟨rfl, hnk0⟩; have hwk : Nw w Wk := (Nw.drew hw0).trans hnk0) | (go_at_call 12; refine (HD.out _ gm s (i + 1) (Lw.grow HL.out.1 ((Nw.drew (Nw.refl wr)).trans hnk0)) (by have := HNN.out; omega) (idxI dt) ⟨dk, da, db, dC, dd, de, df⟩ HWD.out).mono ?_; rintro r W5 ⟨rfl, hls⟩)))
      have HLS := Lib.hid (⟨hls, (doM_len s (idxI dt) ⟨dk, da, db, dC, dd, de, df⟩).1.trans HL.out.2⟩ : Lw w (i + 1 + 1) [(gm, (doM s (idxI dt) ⟨dk, da, db, dC, dd, de, df⟩).2)] [] W5 ∧ (doM s (idxI dt) ⟨dk, da, db, dC, dd, de, df⟩).2.th.length = 3)
      clear hls hwk hnk0
      go_wp2
      exact ⟨⟨i + 1, _, by have := HIN.out; omega, by go_num, HLS⟩, by have := HIN.out; simp [intOf]; omega⟩
    · have i1 : ¬ (i : Int) < (n : Int) := by omega
      go_wp2
      exact bodyPost_ret (results_tmp rfl _ _ _) rfl ⟨gm, rfl, s, HL.out.1.mono (by have := HNN.out; omega), HL.out.2⟩
set_option maxHeartbeats 4000000 in
theorem quiet_any (k : Int) (w : World) : Calls Tryd.prog 8 #[.int .u8 k] w fun e w' => e = .returned (.bool (quietK k)) ∧ Nw w w' := by
  have h1 : quietK k = (decide (k = 3) || (decide (10 ≤ k) && decide (k ≤ 15))) := rfl
  rw [h1]
  clear h1
  by_cases k3 : k = 3
  · subst k3
    go_enter Tryd.func8, Tryd.ntmps8
    go_wp2
    go_ret
    exact ⟨rfl, (by repeat (first | exact Xt.Nw.refl _ | refine Xt.Nw.drew ?_ | refine Xt.Nw.drewN ?_ _ | refine Xt.Nw.alloc ?_ _ | refine Xt.Nw.joined ?_ | refine Xt.Nw.drewd ?_ | refine Xt.Nw.drewdN ?_ | refine Xt.Nw.ext ?_ | refine Xt.Nw.ext_some ?_ (by assumption) | refine Xt.Nw.setCell ?_ (by simp [go_sem] <;> omega) _))⟩
  have e3 : (k == 3) = false := by simpa using k3
  rw [decide_eq_false k3]
  by_cases k10 : 10 ≤ k
  · by_cases k15 : k ≤ 15
    · have d1 := decide_eq_true k10
      have d2 := decide_eq_true k15
      rw [d1, d2]
      go_enter Tryd.func8, Tryd.ntmps8
      go_wp2
      go_ret
      exact ⟨rfl, (by repeat (first | exact Xt.Nw.refl _ | refine Xt.Nw.drew ?_ | refine Xt.Nw.drewN ?_ _ | refine Xt.Nw.alloc ?_ _ | refine Xt.Nw.joined ?_ | refine Xt.Nw.drewd ?_ | refine Xt.Nw.drewdN ?_ | refine Xt.Nw.ext ?_ | refine Xt.Nw.ext_some ?_ (by assumption) | refine Xt.Nw.setCell ?_ (by simp [go_sem] <;> omega) _))⟩
    · have d1 := decide_eq_true k10
      have d2 := decide_eq_false k15
      rw [d1, d2]
      go_enter Tryd.func8, Tryd.ntmps8
      go_wp2
      go_ret
      exact ⟨rfl, (by repeat (first | exact Xt.Nw.refl _ | refine Xt.Nw.drew ?_ | refine Xt.Nw.drewN ?_ _ | refine Xt.Nw.alloc ?_ _ | refine Xt.Nw.joined ?_ | refine Xt.Nw.drewd ?_ | refine Xt.Nw.drewdN ?_ | refine Xt.Nw.ext ?_ | refine Xt.Nw.ext_some ?_ (by assumption) | refine Xt.Nw.setCell ?_ (by simp [go_sem] <;> omega) _))⟩
  · have d1 := decide_eq_false k10
    rw [d1]
    go_enter Tryd.func8, Tryd.ntmps8
    go_wp2
    go_ret
    exact ⟨rfl, (by repeat (first | exact Xt.Nw.refl _ | refine Xt.Nw.drew ?_ | refine Xt.Nw.drewN ?_ _ | refine Xt.Nw.alloc ?_ _ | refine Xt.Nw.joined ?_ | refine Xt.Nw.drewd ?_ | refine Xt.Nw.drewdN ?_ | refine Xt.Nw.ext ?_ | refine Xt.Nw.ext_some ?_ (by assumption) | refine Xt.Nw.setCell ?_ (by simp [go_sem] <;> omega) _))⟩
set_option maxRecDepth 20000 in
@[go_sem high] theorem neqPair (a b c d : Int) (w : World) : (Op.equalIn 10000 85 (.agg #[.int .u64 a, .int .u64 b]) (.agg #[.int .u64 c, .int .u64 d])).run Tryd.prog w = .ok (decide (a = c) && decide (b = d)) w := by
  have hS : Tryd.prog.underlying 85 = some (.struct (Tryd.prog.fieldsOf 85)) := by kernel_rfl
  have hp : Tryd.prog.stoodInHeld 85 = false := by kernel_rfl
  rw [show (10000 : Nat) = 9999 + 1 from rfl, run_equalIn_agg w 9999 85 _ _ hS hp]
  simp only [Program.fieldsOf, Tryd.underlying85]
  go_simp
  simp only [ite_ok0, ite_ok]
  simp only [Bool.decide_and]
set_option maxRecDepth 20000 in
set_option maxHeartbeats 4000000 in
theorem equal_any (A B : Option Addr) (n m ca cb : Nat) (l k : List (Int × Int)) (w : World) (ha : Rd w 2 A n (pcells l)) (hb : Rd w 2 B m (pcells k)) (hn : n ≤ 1000000) (hm : m ≤ 1000000) :
    Calls Tryd.prog 14 #[.slice A n ca, .slice B m cb] w fun e w' => e = .returned (.bool (decide (l = k))) ∧ Nw w w' := by
  have hln : l.length = n := by have := ha.1; rw [pcells_len] at this; omega
  have hkm : k.length = m := by have := hb.1; rw [pcells_len] at this; omega
  by_cases hnm : n = m
  · subst hnm
    have d0 : ((n : Int) != (n : Int)) = false := by simp
    have HA := Lib.hid ha
    have HB := Lib.hid hb
    have HL := Lib.hid hln
    have HK := Lib.hid hkm
    have HN := Lib.hid hn
    clear ha hb hln hkm hm hn
    go_enter Tryd.func14, Tryd.ntmps14
    go_wp2_with fail
    go_loopw [4, 5] (fun _ a wr => ∃ i : Nat, i ≤ n ∧ a = .int .i64 i ∧ Nw w wr ∧ Hid (l.take i = k.take i)) (fun _ a _ => n - (intOf a).toNat)
    case atStart => exact ⟨0, Nat.zero_le _, rfl, (by repeat (first | exact Xt.Nw.refl _ | refine Xt.Nw.drew ?_ | refine Xt.Nw.drewN ?_ _ | refine Xt.Nw.alloc ?_ _ | refine Xt.Nw.joined ?_ | refine Xt.Nw.drewd ?_ | refine Xt.Nw.drewdN ?_ | refine Xt.Nw.ext ?_ | refine Xt.Nw.ext_some ?_ (by assumption) | refine Xt.Nw.setCell ?_ (by simp [go_sem] <;> omega) _)), Lib.hid (by simp)⟩
    case round =>
      obtain ⟨i, hi, rfl, ⟨d, rfl⟩, HT⟩ := hrel
      by_cases hin : i < n
      · obtain ⟨ga, oa, rfl, hga, hca⟩ := HA.out.2 (by omega)
        obtain ⟨gb, ob, rfl, hgb, hcb⟩ := HB.out.2 (by omega)
        haveI : In ga w := ⟨hga⟩
        haveI : In gb w := ⟨hgb⟩
        obtain ⟨⟨x1, x2⟩, hx⟩ : ∃ x, l[i]? = some x := ⟨_, List.getElem?_eq_getElem (by have := HL.out; omega)⟩
        obtain ⟨⟨y1, y2⟩, hy⟩ : ∃ x, k[i]? = some x := ⟨_, List.getElem?_eq_getElem (by have := HK.out; omega)⟩
        obtain ⟨g0, g1⟩ := pcells_get l i _ hx
        obtain ⟨g2, g3⟩ := pcells_get k i _ hy
        have a0 : w.cell? ⟨ga, oa + i * 2, none⟩ = some (.int .u64 x1) := hca _ _ g0
        have a1 : w.cell? ⟨ga, oa + i * 2 + 1, none⟩ = some (.int .u64 x2) := by have := hca _ _ g1; rw [← Nat.add_assoc] at this; exact this
        have b0 : w.cell? ⟨gb, ob + i * 2, none⟩ = some (.int .u64 y1) := hcb _ _ g2
        have b1 : w.cell? ⟨gb, ob + i * 2 + 1, none⟩ = some (.int .u64 y2) := by have := hcb _ _ g3; rw [← Nat.add_assoc] at this; exact this
        have HX := Lib.hid hx
        have HY := Lib.hid hy
        have i1 : (i : Int) < (n : Int) := by omega
        have i0 : (0 : Int) ≤ (i : Int) := by omega
        have i2 : i < 1000000 := by have := HN.out; omega
        have HIN := Lib.hid hin
        clear hx hy g0 g1 g2 g3 hca hcb hin hi
        by_cases heq : x1 = y1 ∧ x2 = y2
        · obtain ⟨rfl, rfl⟩ := heq
          go_upto_region 6 with (fail)
          go_region
          go_wp2
          refine ⟨⟨i + 1, by have := HIN.out; omega, by go_num, (by repeat (first | exact Xt.Nw.refl _ | refine Xt.Nw.drew ?_ | refine Xt.Nw.drewN ?_ _ | refine Xt.Nw.alloc ?_ _ | refine Xt.Nw.joined ?_ | refine Xt.Nw.drewd ?_ | refine Xt.Nw.drewdN ?_ | refine Xt.Nw.ext ?_ | refine Xt.Nw.ext_some ?_ (by assumption) | refine Xt.Nw.setCell ?_ (by simp [go_sem] <;> omega) _)), Lib.hid ?_⟩, by have := HIN.out; simp [intOf]; omega⟩
          obtain ⟨p1, p2⟩ := List.getElem?_eq_some_iff.1 HX.out
          obtain ⟨p3, p4⟩ := List.getElem?_eq_some_iff.1 HY.out
          rw [List.take_succ_eq_append_getElem p1, List.take_succ_eq_append_getElem p3, p2, p4, HT.out]
        · have e0 : (decide (x1 = y1) && decide (x2 = y2)) = false := by
            cases h1 : (decide (x1 = y1) && decide (x2 = y2)) with
            | false => rfl
            | true => exfalso; simp at h1; exact heq h1
          have hne : ¬ l = k := by
            intro h
            have hx := HX.out
            rw [h, HY.out] at hx
            simp at hx
            exact heq ⟨hx.1.symm, hx.2.symm⟩
          go_upto_region 6 with (fail)
          go_region
          go_wp2
          go_ret
          refine ⟨?_, (by repeat (first | exact Xt.Nw.refl _ | refine Xt.Nw.drew ?_ | refine Xt.Nw.drewN ?_ _ | refine Xt.Nw.alloc ?_ _ | refine Xt.Nw.joined ?_ | refine Xt.Nw.drewd ?_ | refine Xt.Nw.drewdN ?_ | refine Xt.Nw.ext ?_ | refine Xt.Nw.ext_some ?_ (by assumption) | refine Xt.Nw.setCell ?_ (by simp [go_sem] <;> omega) _))⟩
          rw [decide_eq_false hne]; try rfl
      · have ei : i = n := by omega
        subst ei
        have hlk : l = k := by
          have h := HT.out
          rw [List.take_of_length_le (by have := HL.out; omega), List.take_of_length_le (by have := HK.out; omega)] at h
          exact h
        go_wp2_with fail
        go_ret
        refine ⟨?_, (by repeat (first | exact Xt.Nw.refl _ | refine Xt.Nw.drew ?_ | refine Xt.Nw.drewN ?_ _ | refine Xt.Nw.alloc ?_ _ | refine Xt.Nw.joined ?_ | refine Xt.Nw.drewd ?_ | refine Xt.Nw.drewdN ?_ | refine Xt.Nw.ext ?_ | refine Xt.Nw.ext_some ?_ (by assumption) | refine Xt.Nw.setCell ?_ (by simp [go_sem] <;> omega) _))⟩
        rw [decide_eq_true hlk]; try rfl
  · have d0 : ((n : Int) != (m : Int)) = true := by simp; omega
    have hne : ¬ l = k := by intro h; rw [h] at hln; omega
    clear ha hb hln hkm
    go_enter Tryd.func14, Tryd.ntmps14
    go_wp2
    go_ret
    refine ⟨?_, (by repeat (first | exact Xt.Nw.refl _ | refine Xt.Nw.drew ?_ | refine Xt.Nw.drewN ?_ _ | refine Xt.Nw.alloc ?_ _ | refine Xt.Nw.joined ?_ | refine Xt.Nw.drewd ?_ | refine Xt.Nw.drewdN ?_ | refine Xt.Nw.ext ?_ | refine Xt.Nw.ext_some ?_ (by assumption) | refine Xt.Nw.setCell ?_ (by simp [go_sem] <;> omega) _))⟩
    rw [decide_eq_false hne]; try rfl
end Go.Proofs.YtdjcndpnjoahmaaDoor
namespace Go.Proofs.YtdjcndpnjoahmaaDoor
open Go.RowKit Go.Xt
/-! The laws' walks: parts; ModelAccepts. -/
section
variable {w W W' : World} {N : Nat} {ms : List (Nat × Md)} {K : List (Nat × Obj)}
theorem Lw.less (h : Lw w N ms K W) {K' : List (Nat × Obj)} (hs : ∀ x ∈ K', x ∈ K) : Lw w N ms K' W := by
  obtain ⟨h0, ps, hl, hA, hD, hK⟩ := h
  exact ⟨h0, ps, hl, hA, hD, fun x hx => hK x (hs x hx)⟩
/-- The pairs of a model, their number under a name. -/
theorem pairs_Lv (h : Lw w N ms K W) (hN : N ≤ 500000) {i gm : Nat} {s : Md} (hi : ms[i]? = some (gm, s)) :
    Calls Tryd.prog 15 #[.pointer (some ⟨gm, 0, none⟩)] W fun e W' => ∃ A n c K', e = .returned (.slice A n c) ∧ n ≤ 500000 ∧ (∀ x ∈ K, x ∈ K') ∧ PV K' A n s.l ∧ Lw w N ms K' W' ∧ Nw W W' := by
  refine (pairs_Lw h hN hi).mono ?_
  rintro e W' ⟨A, c, K', rfl, h1, h2, h3, h4⟩
  obtain ⟨p, _, _, ho, _⟩ := h.at hi
  exact ⟨A, _, c, K', rfl, Nat.le_trans ho.len hN, h1, h2, h3, h4⟩
/-- Two lists of pairs that are kept. -/
theorem equal_Lw (h : Lw w N ms K W) {A B : Option Addr} {n m ca cb : Nat} {l k : List (Int × Int)} (ha : PV K A n l) (hb : PV K B m k) (hn : n ≤ 500000) (hm : m ≤ 500000) {b : Bool} (hd : decide (l = k) = b) :
    Calls Tryd.prog 14 #[.slice A n ca, .slice B m cb] W fun e W' => e = .returned (.bool b) ∧ Nw W W' := by
  rw [← hd]
  exact equal_any A B n m ca cb l k W (ha.rd h) (hb.rd h) (by omega) (by omega)
theorem key_Lv (h : Lw w N ms K W) (hN : N ≤ 500000) (H : FmtAt w) {i gm : Nat} {s : Md} (hi : ms[i]? = some (gm, s)) {z : ByteArray} (hz : z = ⟨(keyB s).toArray⟩) :
    Calls Tryd.prog 13 #[.pointer (some ⟨gm, 0, none⟩)] W fun e W' => e = .returned (.string z) ∧ Nw W W' := by
  rw [hz]
  exact key_Lw h hN H hi
end
theorem perf_key {s : Md} {N : Nat} (hok : s.Ok N) (t : Nat) (x : Th) (o : Ox) : 0 ≤ (perfM s t x o).1.key ∧ (perfM s t x o).1.key < 18446744073709551616 := by
  by_cases k12 : o.k = 12
  · cases hq : nextL x.lo x.hi s.l with
    | none => unfold perfM; simp [k12, hq]
    | some q =>
      have := (hok.u64 q (nextL_mem hq).1).1
      unfold perfM; simp [k12, hq]; omega
  have h0 : (perfM s t x o).1.key = 0 := by
    unfold perfM
    by_cases k1 : o.k = 1
    · rw [if_pos k1]
    rw [if_neg k1]
    by_cases k2 : o.k = 2
    · rw [if_pos k2]
    rw [if_neg k2]
    by_cases k3 : o.k = 3
    · rw [if_pos k3]
    rw [if_neg k3]
    by_cases k4 : o.k = 4
    · rw [if_pos k4]
    rw [if_neg k4]
    by_cases k5 : o.k = 5
    · rw [if_pos k5]
    rw [if_neg k5]
    by_cases k6 : o.k = 6
    · rw [if_pos k6]
    rw [if_neg k6]
    by_cases k7 : o.k = 7
    · rw [if_pos k7]
    rw [if_neg k7]
    by_cases k8 : o.k = 8
    · rw [if_pos k8]
    rw [if_neg k8]
    by_cases k9 : o.k = 9
    · rw [if_pos k9]
    rw [if_neg k9]
    by_cases k10 : o.k = 10
    · rw [if_pos k10]
    rw [if_neg k10]
    by_cases k11 : o.k = 11
    · rw [if_pos k11]
    rw [if_neg k11, if_neg k12]
    by_cases k13 : o.k = 13
    · rw [if_pos k13]
    rw [if_neg k13]
    by_cases k14 : o.k = 14
    · rw [if_pos k14]
    rw [if_neg k14]
  omega
theorem doM_key {s : Md} {N : Nat} (hok : s.Ok N) (t : Int) (o : Ox) : 0 ≤ (doM s t o).1.key ∧ (doM s t o).1.key < 18446744073709551616 := by
  unfold doM
  split
  · simp
  · split
    · exact perf_key hok _ _ _
    · simp
set_option maxRecDepth 20000 in
set_option maxHeartbeats 16000000 in
theorem accepts_M (A : Option Addr) (n c : Nat) (ds : List Dd) (x : Dd) (w : World) (hr : Rd w 15 A n (dcells ds)) (hw : ∀ d ∈ ds, d.o.Wf) (hx : x.o.Wf) (hxk : 0 ≤ x.r.key ∧ x.r.key < 18446744073709551616) (HF : FmtAt w) :
    Calls Tryd.prog 4 #[.slice A n c, .agg #[.int .i64 x.t, .int .u8 x.o.k, .int .u64 x.o.key, .int .u64 x.o.hi, .int .u64 x.o.val, .int .u64 x.o.old, .int .u64 x.o.by_, .int .u64 x.o.draw, .bool x.j, .int .u8 x.by_, .int .i64 x.r.err, .bool x.r.fd, .int .u64 x.r.key, .int .u64 x.r.val, .int .i64 x.r.cnt]] w fun e w' => e = .returned (.bool true) ∧ Nw w w' := by
  have HKN := Lib.hid (fun W => known_M W)
  by_cases hn : 80 < n
  · have d0 : decide ((80 : Int) < (n : Int)) = true := by simp; omega
    clear hr hw hx hxk
    go_enter Tryd.func4, Tryd.ntmps4
    go_wp2_with (go_at_call 9; refine (HKN.out _).mono ?_; rintro e w' ⟨rfl, dW, rfl⟩)
    go_ret
    exact ⟨rfl, (by repeat (first | exact Xt.Nw.refl _ | refine Xt.Nw.drew ?_ | refine Xt.Nw.drewN ?_ _ | refine Xt.Nw.alloc ?_ _ | refine Xt.Nw.joined ?_ | refine Xt.Nw.drewd ?_ | refine Xt.Nw.drewdN ?_ | refine Xt.Nw.ext ?_ | refine Xt.Nw.ext_some ?_ (by assumption) | refine Xt.Nw.setCell ?_ (by simp [go_sem] <;> omega) _))⟩
  have d0 : decide ((80 : Int) < (n : Int)) = false := by simp; omega
  obtain ⟨xt, ⟨ok, oa, ob, oc, od, oe, of⟩, xj, xb, ⟨er, fd, rk, rv, rc⟩⟩ := x
  simp only at hx hxk ⊢
  obtain ⟨w1, hw1⟩ : ∃ w1, w1 = w.alloc (.cells #[.int .i64 xt, .int .u8 ok, .int .u64 oa, .int .u64 ob, .int .u64 oc, .int .u64 od, .int .u64 oe, .int .u64 of, .bool xj, .int .u8 xb, .int .i64 er, .bool fd, .int .u64 rk, .int .u64 rv, .int .i64 rc] 30) := ⟨_, rfl⟩
  obtain ⟨q, hq⟩ : ∃ q, q = w.heap.size := ⟨_, rfl⟩
  have hn1 : Nw w w1 := by rw [hw1]; exact (Nw.refl w).alloc _
  have hb : w1.heap[q]? = some (.cells #[.int .i64 xt, .int .u8 ok, .int .u64 oa, .int .u64 ob, .int .u64 oc, .int .u64 od, .int .u64 oe, .int .u64 of, .bool xj, .int .u8 xb, .int .i64 er, .bool fd, .int .u64 rk, .int .u64 rv, .int .i64 rc] 30) := by rw [hw1, hq]; exact heap_alloc_new _ _
  have b0 : w1.cell? ⟨q, 0, none⟩ = some (.int .i64 xt) := by rw [Lib.cell_of_heap hb]; rfl
  have b1 : w1.cell? ⟨q, 1, none⟩ = some (.int .u8 ok) := by rw [Lib.cell_of_heap hb]; rfl
  have b2 : w1.cell? ⟨q, 2, none⟩ = some (.int .u64 oa) := by rw [Lib.cell_of_heap hb]; rfl
  have b3 : w1.cell? ⟨q, 3, none⟩ = some (.int .u64 ob) := by rw [Lib.cell_of_heap hb]; rfl
  have b4 : w1.cell? ⟨q, 4, none⟩ = some (.int .u64 oc) := by rw [Lib.cell_of_heap hb]; rfl
  have b5 : w1.cell? ⟨q, 5, none⟩ = some (.int .u64 od) := by rw [Lib.cell_of_heap hb]; rfl
  have b6 : w1.cell? ⟨q, 6, none⟩ = some (.int .u64 oe) := by rw [Lib.cell_of_heap hb]; rfl
  have b7 : w1.cell? ⟨q, 7, none⟩ = some (.int .u64 of) := by rw [Lib.cell_of_heap hb]; rfl
  have b10 : w1.cell? ⟨q, 10, none⟩ = some (.int .i64 er) := by rw [Lib.cell_of_heap hb]; rfl
  have b11 : w1.cell? ⟨q, 11, none⟩ = some (.bool fd) := by rw [Lib.cell_of_heap hb]; rfl
  have b12 : w1.cell? ⟨q, 12, none⟩ = some (.int .u64 rk) := by rw [Lib.cell_of_heap hb]; rfl
  have b13 : w1.cell? ⟨q, 13, none⟩ = some (.int .u64 rv) := by rw [Lib.cell_of_heap hb]; rfl
  have b14 : w1.cell? ⟨q, 14, none⟩ = some (.int .i64 rc) := by rw [Lib.cell_of_heap hb]; rfl
  have HPL := Lib.hid (played_L A n c ds w1 (hr.nw hn1) (by omega) hw)
  have HFM := Lib.hid (HF.nw hn1)
  have HX := Lib.hid hx
  have HXK := Lib.hid hxk
  have HW1 := Lib.hid hw1
  have HQ := Lib.hid hq
  have HNW := Lib.hid hn1
  haveI : In q w1 := ⟨World.block_lt_of_cell? w1 _ b0⟩
  clear hr hw hn hx hxk HF hb hw1 hq hn1
  go_enter Tryd.func4, Tryd.ntmps4
  go_wp2_with fail
  rw [← HW1.out, ← HQ.out]
  refine HPL.out.mono ?_
  rintro e W1 ⟨gm, s, rfl, h1, hth⟩
  have H1 := Lib.hid h1
  obtain ⟨d1, rfl⟩ := h1.nw
  clear h1
  go_wp2_with fail
  refine (copy_Lw (i := 0) H1.out (by omega) rfl).mono ?_
  rintro e W2 ⟨ga, rfl, h2⟩
  have H2 := Lib.hid h2
  obtain ⟨d2, rfl⟩ := h2.nw
  clear h2
  go_wp2_with fail
  refine (copy_Lw (i := 0) H2.out (by omega) rfl).mono ?_
  rintro e W3 ⟨gb, rfl, h3⟩
  have H3 := Lib.hid h3
  obtain ⟨d3, rfl⟩ := h3.nw
  clear h3
  go_wp2_with fail
  refine (copy_Lw (i := 0) H3.out (by omega) rfl).mono ?_
  rintro e W4 ⟨gc, rfl, h4⟩
  have H4 := Lib.hid h4
  obtain ⟨d4, rfl⟩ := h4.nw
  clear h4 H1 H2 H3
  go_wp2_with fail
  refine (index_any xt _).mono ?_
  rintro e W5 ⟨rfl, hn5⟩
  have h5 := H4.out.grow hn5
  have H5 := Lib.hid h5
  obtain ⟨d5, rfl⟩ := h5.nw
  clear h5 hn5 H4
  obtain ⟨t, ht⟩ : ∃ t, t = idxI xt := ⟨_, rfl⟩
  rw [← ht]
  have HT := Lib.hid ht
  clear ht
  go_wp2_with fail
  have hok := (H5.out.at (i := 0) rfl)
  obtain ⟨-, -, -, hok, -, -, -⟩ := hok
  have hrk := doM_key hok t ⟨ok, oa, ob, oc, od, oe, of⟩
  have hacc := acc_do (s := s) t ⟨ok, oa, ob, oc, od, oe, of⟩
  have c6 := do_Lw (i := 1) H5.out (by omega) rfl t ⟨ok, oa, ob, oc, od, oe, of⟩ HX.out
  obtain ⟨⟨⟨e1, f1, k1, v1, n1⟩, s1⟩, hd⟩ : ∃ z, z = doM s t ⟨ok, oa, ob, oc, od, oe, of⟩ := ⟨_, rfl⟩
  rw [← hd] at hrk hacc c6
  have HD := Lib.hid hd
  have HRK := Lib.hid hrk
  have HACC := Lib.hid hacc
  clear hok hrk hacc hd
  refine Calls.mono (by exact c6) ?_
  rintro e W6 ⟨rfl, h6⟩
  have H6 := Lib.hid h6
  obtain ⟨d6, rfl⟩ := h6.nw
  clear h6 c6 H5
  obtain ⟨KA, hKA⟩ : ∃ z : ByteArray, z = ⟨(keyB s1).toArray⟩ := ⟨_, rfl⟩
  have HKA := Lib.hid hKA
  obtain ⟨KM, hKM⟩ : ∃ z : ByteArray, z = ⟨(keyB s).toArray⟩ := ⟨_, rfl⟩
  have HKM := Lib.hid hKM
  clear hKA hKM
  unfold resV
  simp only
  have HBN := fun W (hW : Nw (w1.ext none d6) W) => acc_Lw (i := 2) (H6.out.grow hW) (by omega) rfl t ⟨ok, oa, ob, oc, od, oe, of⟩ HX.out ⟨e1, f1, k1, v1, n1⟩ HRK.out
  have hacc2 := HACC.out
  simp only at hacc2
  rw [hacc2] at HBN
  unfold opV resV at HBN
  simp only at HBN
  have HB := Lib.hid HBN
  clear HBN hacc2
  go_wp2_with fail
  refine (HB.out _ ((by repeat (first | exact Xt.Nw.refl _ | refine Xt.Nw.drew ?_ | refine Xt.Nw.drewN ?_ _ | refine Xt.Nw.alloc ?_ _ | refine Xt.Nw.joined ?_ | refine Xt.Nw.drewd ?_ | refine Xt.Nw.drewdN ?_ | refine Xt.Nw.ext ?_ | refine Xt.Nw.ext_some ?_ (by assumption) | refine Xt.Nw.setCell ?_ (by simp [go_sem] <;> omega) _)))).mono ?_
  rintro e W7 ⟨rfl, h7⟩
  have H7 := Lib.hid (show Lw w1 102 [(gm, s), (ga, s1), (gb, s1), (gc, s)] [] W7 from h7)
  obtain ⟨d7, rfl⟩ := h7.nw
  clear h7 H6 HB
  go_wp2_with fail
  refine (key_Lv (i := 2) (H7.out.grow ((by repeat (first | exact Xt.Nw.refl _ | refine Xt.Nw.drew ?_ | refine Xt.Nw.drewN ?_ _ | refine Xt.Nw.alloc ?_ _ | refine Xt.Nw.joined ?_ | refine Xt.Nw.drewd ?_ | refine Xt.Nw.drewdN ?_ | refine Xt.Nw.ext ?_ | refine Xt.Nw.ext_some ?_ (by assumption) | refine Xt.Nw.setCell ?_ (by simp [go_sem] <;> omega) _)))) (by omega) HFM.out rfl HKA.out).mono ?_
  rintro e W8 ⟨rfl, d8, rfl⟩
  go_wp2_with fail
  refine (key_Lv (i := 1) (H7.out.grow ((by repeat (first | exact Xt.Nw.refl _ | refine Xt.Nw.drew ?_ | refine Xt.Nw.drewN ?_ _ | refine Xt.Nw.alloc ?_ _ | refine Xt.Nw.joined ?_ | refine Xt.Nw.drewd ?_ | refine Xt.Nw.drewdN ?_ | refine Xt.Nw.ext ?_ | refine Xt.Nw.ext_some ?_ (by assumption) | refine Xt.Nw.setCell ?_ (by simp [go_sem] <;> omega) _)))) (by omega) HFM.out rfl HKA.out).mono ?_
  rintro e W9 ⟨rfl, d9, rfl⟩
  have HP9 := Lib.hid (fun W (hW : Nw (w1.ext none d7) W) => pairs_Lv (i := 1) (H7.out.grow hW) (by omega) rfl)
  go_wp2_with fail
  refine (HP9.out _ ((by repeat (first | exact Xt.Nw.refl _ | refine Xt.Nw.drew ?_ | refine Xt.Nw.drewN ?_ _ | refine Xt.Nw.alloc ?_ _ | refine Xt.Nw.joined ?_ | refine Xt.Nw.drewd ?_ | refine Xt.Nw.drewdN ?_ | refine Xt.Nw.ext ?_ | refine Xt.Nw.ext_some ?_ (by assumption) | refine Xt.Nw.setCell ?_ (by simp [go_sem] <;> omega) _)))).mono ?_
  rintro e W10 ⟨A1, n1, c1, K1, rfl, hn1, -, p1, h10, -⟩
  have H10 := Lib.hid h10
  have P1 := Lib.hid p1
  have HN1 := Lib.hid hn1
  obtain ⟨d10, rfl⟩ := h10.nw
  clear h10 p1 hn1 HP9
  go_wp2_with fail
  refine (pairs_Lv (i := 2) H10.out (by omega) rfl).mono ?_
  rintro e W11 ⟨A2, n2, c2, K2, rfl, hn2, hs2, p2, h11, -⟩
  have H11 := Lib.hid h11
  have P2 := Lib.hid p2
  have P1 := Lib.hid (P1.out.more hs2)
  have HN2 := Lib.hid hn2
  obtain ⟨d11, rfl⟩ := h11.nw
  clear h11 p2 hn2 hs2 H10
  go_wp2_with fail
  refine (equal_Lw (b := true) H11.out P1.out P2.out HN1.out HN2.out (by simp)).mono ?_
  rintro e W12 ⟨rfl, hn12⟩
  have H12 := Lib.hid (H11.out.grow hn12)
  obtain ⟨d12, rfl⟩ : Nw w1 W12 := H12.out.nw
  clear hn12 H11 P1 P2 HN1 HN2
  go_wp2_with fail
  refine (pairs_Lv (i := 0) H12.out (by omega) rfl).mono ?_
  rintro e W13 ⟨A0, n0, c0, K0, rfl, hn0, -, p0, h13, -⟩
  have H13 := Lib.hid h13
  have P0 := Lib.hid p0
  have HN0 := Lib.hid hn0
  obtain ⟨d13, rfl⟩ := h13.nw
  clear h13 p0 hn0 H12
  have HCN := fun W (hW : Nw (w1.ext none d13) W) => acc_Lw (i := 3) (H13.out.grow hW) (by omega) rfl t ⟨ok, oa, ob, oc, od, oe, of⟩ HX.out ⟨er, fd, rk, rv, rc⟩ HXK.out
  have hfl := acc_false (s := s) (t := t) (o := ⟨ok, oa, ob, oc, od, oe, of⟩) (r := ⟨er, fd, rk, rv, rc⟩)
  have hpr := acc_pairs s t ⟨ok, oa, ob, oc, od, oe, of⟩ ⟨er, fd, rk, rv, rc⟩
  rw [← HD.out] at hpr
  obtain ⟨⟨bc, sc⟩, hbc⟩ : ∃ z, z = acceptM s t ⟨ok, oa, ob, oc, od, oe, of⟩ ⟨er, fd, rk, rv, rc⟩ := ⟨_, rfl⟩
  rw [← hbc] at HCN hfl hpr
  unfold opV resV at HCN
  simp only at HCN hfl hpr
  have HC := Lib.hid HCN
  have HFL := Lib.hid hfl
  have HPR := Lib.hid hpr
  clear HCN hfl hpr hbc
  go_wp2_with fail
  refine (HC.out _ ((by repeat (first | exact Xt.Nw.refl _ | refine Xt.Nw.drew ?_ | refine Xt.Nw.drewN ?_ _ | refine Xt.Nw.alloc ?_ _ | refine Xt.Nw.joined ?_ | refine Xt.Nw.drewd ?_ | refine Xt.Nw.drewdN ?_ | refine Xt.Nw.ext ?_ | refine Xt.Nw.ext_some ?_ (by assumption) | refine Xt.Nw.setCell ?_ (by simp [go_sem] <;> omega) _)))).mono ?_
  rintro e W14 ⟨rfl, h14⟩
  have H14 := Lib.hid (show Lw w1 103 [(gm, s), (ga, s1), (gb, s1), (gc, sc)] K0 W14 from h14)
  obtain ⟨d14, rfl⟩ := h14.nw
  clear h14 HC H13
  cases bc with
  | false =>
    have esc := HFL.out rfl
    subst esc
    go_wp2_with fail
    refine (key_Lv (i := 3) (H14.out.grow ((by repeat (first | exact Xt.Nw.refl _ | refine Xt.Nw.drew ?_ | refine Xt.Nw.drewN ?_ _ | refine Xt.Nw.alloc ?_ _ | refine Xt.Nw.joined ?_ | refine Xt.Nw.drewd ?_ | refine Xt.Nw.drewdN ?_ | refine Xt.Nw.ext ?_ | refine Xt.Nw.ext_some ?_ (by assumption) | refine Xt.Nw.setCell ?_ (by simp [go_sem] <;> omega) _)))) (by omega) HFM.out rfl HKM.out).mono ?_
    rintro e W15 ⟨rfl, d15, rfl⟩
    go_wp2_with fail
    refine (key_Lv (i := 0) (H14.out.grow ((by repeat (first | exact Xt.Nw.refl _ | refine Xt.Nw.drew ?_ | refine Xt.Nw.drewN ?_ _ | refine Xt.Nw.alloc ?_ _ | refine Xt.Nw.joined ?_ | refine Xt.Nw.drewd ?_ | refine Xt.Nw.drewdN ?_ | refine Xt.Nw.ext ?_ | refine Xt.Nw.ext_some ?_ (by assumption) | refine Xt.Nw.setCell ?_ (by simp [go_sem] <;> omega) _)))) (by omega) HFM.out rfl HKM.out).mono ?_
    rintro e W16 ⟨rfl, d16, rfl⟩
    go_wp2_with (go_at_call 9; refine (HKN.out _).mono ?_; rintro e w' ⟨rfl, dW, rfl⟩)
    go_ret
    exact ⟨rfl, HNW.out.trans ((by repeat (first | exact Xt.Nw.refl _ | refine Xt.Nw.drew ?_ | refine Xt.Nw.drewN ?_ _ | refine Xt.Nw.alloc ?_ _ | refine Xt.Nw.joined ?_ | refine Xt.Nw.drewd ?_ | refine Xt.Nw.drewdN ?_ | refine Xt.Nw.ext ?_ | refine Xt.Nw.ext_some ?_ (by assumption) | refine Xt.Nw.setCell ?_ (by simp [go_sem] <;> omega) _)))⟩
  | true =>
    by_cases hl : sc.l = s.l
    · have HL := Lib.hid hl
      by_cases he : er = 0
      · have g1 : (er != 0) = false := by simpa using he
        clear he hl
        go_wp2_with fail
        refine (pairs_Lv (i := 3) (H14.out.grow ((by repeat (first | exact Xt.Nw.refl _ | refine Xt.Nw.drew ?_ | refine Xt.Nw.drewN ?_ _ | refine Xt.Nw.alloc ?_ _ | refine Xt.Nw.joined ?_ | refine Xt.Nw.drewd ?_ | refine Xt.Nw.drewdN ?_ | refine Xt.Nw.ext ?_ | refine Xt.Nw.ext_some ?_ (by assumption) | refine Xt.Nw.setCell ?_ (by simp [go_sem] <;> omega) _)))) (by omega) rfl).mono ?_
        rintro e W15 ⟨A3, n3, c3, K3, rfl, hn3, hs3, p3, h15, -⟩
        have H15 := Lib.hid h15
        have P3 := Lib.hid p3
        have P0 := Lib.hid (P0.out.more hs3)
        have HN3 := Lib.hid hn3
        obtain ⟨d15, rfl⟩ := h15.nw
        clear h15 p3 hn3 hs3
        go_wp2_with fail
        refine (equal_Lw (b := true) H15.out P3.out P0.out HN3.out HN0.out (by simp [HL.out])).mono ?_
        rintro e W16 ⟨rfl, d16, rfl⟩
        go_wp2_with (go_at_call 9; refine (HKN.out _).mono ?_; rintro e w' ⟨rfl, dW, rfl⟩)
        go_ret
        exact ⟨rfl, HNW.out.trans ((by repeat (first | exact Xt.Nw.refl _ | refine Xt.Nw.drew ?_ | refine Xt.Nw.drewN ?_ _ | refine Xt.Nw.alloc ?_ _ | refine Xt.Nw.joined ?_ | refine Xt.Nw.drewd ?_ | refine Xt.Nw.drewdN ?_ | refine Xt.Nw.ext ?_ | refine Xt.Nw.ext_some ?_ (by assumption) | refine Xt.Nw.setCell ?_ (by simp [go_sem] <;> omega) _)))⟩
      · have g1 : (er != 0) = true := by simpa using he
        clear he hl
        go_wp2_with fail
        refine (pairs_Lv (i := 3) (H14.out.grow ((by repeat (first | exact Xt.Nw.refl _ | refine Xt.Nw.drew ?_ | refine Xt.Nw.drewN ?_ _ | refine Xt.Nw.alloc ?_ _ | refine Xt.Nw.joined ?_ | refine Xt.Nw.drewd ?_ | refine Xt.Nw.drewdN ?_ | refine Xt.Nw.ext ?_ | refine Xt.Nw.ext_some ?_ (by assumption) | refine Xt.Nw.setCell ?_ (by simp [go_sem] <;> omega) _)))) (by omega) rfl).mono ?_
        rintro e W15 ⟨A3, n3, c3, K3, rfl, hn3, hs3, p3, h15, -⟩
        have H15 := Lib.hid h15
        have P3 := Lib.hid p3
        have P0 := Lib.hid (P0.out.more hs3)
        have HN3 := Lib.hid hn3
        obtain ⟨d15, rfl⟩ := h15.nw
        clear h15 p3 hn3 hs3
        go_wp2_with fail
        refine (equal_Lw (b := true) H15.out P3.out P0.out HN3.out HN0.out (by simp [HL.out])).mono ?_
        rintro e W16 ⟨rfl, hn16⟩
        have H16 := Lib.hid (H15.out.grow hn16)
        obtain ⟨d16, rfl⟩ : Nw w1 W16 := H16.out.nw
        clear hn16 H15
        go_wp2_with fail
        refine (pairs_Lv (i := 3) H16.out (by omega) rfl).mono ?_
        rintro e W17 ⟨A4, n4, c4, K4, rfl, hn4, hs4, p4, h17, -⟩
        have H17 := Lib.hid h17
        have P4 := Lib.hid p4
        have P0 := Lib.hid (P0.out.more hs4)
        have HN4 := Lib.hid hn4
        obtain ⟨d17, rfl⟩ := h17.nw
        clear h17 p4 hn4 hs4
        go_wp2_with fail
        refine (equal_Lw (b := true) H17.out P4.out P0.out HN4.out HN0.out (by simp [HL.out])).mono ?_
        rintro e W18 ⟨rfl, d18, rfl⟩
        go_wp2_with (go_at_call 9; refine (HKN.out _).mono ?_; rintro e w' ⟨rfl, dW, rfl⟩)
        go_ret
        exact ⟨rfl, HNW.out.trans ((by repeat (first | exact Xt.Nw.refl _ | refine Xt.Nw.drew ?_ | refine Xt.Nw.drewN ?_ _ | refine Xt.Nw.alloc ?_ _ | refine Xt.Nw.joined ?_ | refine Xt.Nw.drewd ?_ | refine Xt.Nw.drewdN ?_ | refine Xt.Nw.ext ?_ | refine Xt.Nw.ext_some ?_ (by assumption) | refine Xt.Nw.setCell ?_ (by simp [go_sem] <;> omega) _)))⟩
    · have HL := Lib.hid hl
      have hR := HPR.out.resolve_left hl
      have g1 : (er != 0) = false := by simpa using hR.1
      have HR := Lib.hid hR.2
      clear hl hR
      go_wp2_with fail
      refine (pairs_Lv (i := 3) (H14.out.grow ((by repeat (first | exact Xt.Nw.refl _ | refine Xt.Nw.drew ?_ | refine Xt.Nw.drewN ?_ _ | refine Xt.Nw.alloc ?_ _ | refine Xt.Nw.joined ?_ | refine Xt.Nw.drewd ?_ | refine Xt.Nw.drewdN ?_ | refine Xt.Nw.ext ?_ | refine Xt.Nw.ext_some ?_ (by assumption) | refine Xt.Nw.setCell ?_ (by simp [go_sem] <;> omega) _)))) (by omega) rfl).mono ?_
      rintro e W15 ⟨A3, n3, c3, K3, rfl, hn3, hs3, p3, h15, -⟩
      have H15 := Lib.hid h15
      have P3 := Lib.hid p3
      have P0 := Lib.hid (P0.out.more hs3)
      have HN3 := Lib.hid hn3
      obtain ⟨d15, rfl⟩ := h15.nw
      clear h15 p3 hn3 hs3
      go_wp2_with fail
      refine (equal_Lw (b := false) H15.out P3.out P0.out HN3.out HN0.out (by simp [HL.out])).mono ?_
      rintro e W16 ⟨rfl, hn16⟩
      have H16 := Lib.hid (H15.out.grow hn16)
      obtain ⟨d16, rfl⟩ : Nw w1 W16 := H16.out.nw
      clear hn16 H15
      go_wp2_with fail
      refine (pairs_Lv (i := 3) H16.out (by omega) rfl).mono ?_
      rintro e W17 ⟨A4, n4, c4, K4, rfl, hn4, -, p4, h17, -⟩
      have H17 := Lib.hid h17
      have P4 := Lib.hid p4
      have HN4 := Lib.hid hn4
      obtain ⟨d17, rfl⟩ := h17.nw
      clear h17 p4 hn4 H16
      go_wp2_with fail
      refine (pairs_Lv (i := 1) H17.out (by omega) rfl).mono ?_
      rintro e W18 ⟨A5, n5, c5, K5, rfl, hn5, hs5, p5, h18, -⟩
      have H18 := Lib.hid h18
      have P5 := Lib.hid p5
      have P4 := Lib.hid (P4.out.more hs5)
      have HN5 := Lib.hid hn5
      obtain ⟨d18, rfl⟩ := h18.nw
      clear h18 p5 hn5 hs5 H17
      go_wp2_with fail
      refine (equal_Lw (b := true) H18.out P4.out P5.out HN4.out HN5.out (by simp [HR.out])).mono ?_
      rintro e W19 ⟨rfl, d19, rfl⟩
      go_wp2_with (go_at_call 9; refine (HKN.out _).mono ?_; rintro e w' ⟨rfl, dW, rfl⟩)
      go_ret
      exact ⟨rfl, HNW.out.trans ((by repeat (first | exact Xt.Nw.refl _ | refine Xt.Nw.drew ?_ | refine Xt.Nw.drewN ?_ _ | refine Xt.Nw.alloc ?_ _ | refine Xt.Nw.joined ?_ | refine Xt.Nw.drewd ?_ | refine Xt.Nw.drewdN ?_ | refine Xt.Nw.ext ?_ | refine Xt.Nw.ext_some ?_ (by assumption) | refine Xt.Nw.setCell ?_ (by simp [go_sem] <;> omega) _)))⟩
end Go.Proofs.YtdjcndpnjoahmaaDoor
