import Derived.Test.YtnfpicnigfmbdaaGreatDoorGKr0
import Derived.Deep.RegionHeld3
set_option linter.unusedVariables false
set_option linter.unusedSimpArgs false
set_option linter.unnecessarySimpa false
namespace Go.Proofs.YtnfpicnigfmbdaaGreatDoor
open Go.RowKit Go.Xt
/-! The law LinearFinds: less; the plain law. -/
theorem less_go {a b : List Int} {k : Nat} {x : Int} (hx : a[k]? = some x) (hy : b[k]? = some x) : lessL (a.drop k) (b.drop k) = lessL (a.drop (k + 1)) (b.drop (k + 1)) := by
  obtain ⟨p1, q1⟩ := List.getElem?_eq_some_iff.1 hx
  obtain ⟨p2, q2⟩ := List.getElem?_eq_some_iff.1 hy
  rw [List.drop_eq_getElem_cons p1, List.drop_eq_getElem_cons p2, q1, q2, lessL, if_pos rfl]
theorem less_at {a b : List Int} {k : Nat} {x y : Int} (hx : a[k]? = some x) (hy : b[k]? = some y) (h : x ≠ y) : lessL (a.drop k) (b.drop k) = decide (x < y) := by
  obtain ⟨p1, q1⟩ := List.getElem?_eq_some_iff.1 hx
  obtain ⟨p2, q2⟩ := List.getElem?_eq_some_iff.1 hy
  rw [List.drop_eq_getElem_cons p1, List.drop_eq_getElem_cons p2, q1, q2, lessL, if_neg h]
theorem less_end {a b : List Int} {k n m : Nat} (ha : a.length = n) (hb : b.length = m) (hk : k = n ∨ k = m) (h1 : k ≤ n) (h2 : k ≤ m) : lessL (a.drop k) (b.drop k) = decide (n < m) := by
  subst ha hb
  by_cases hn : k = a.length
  · rw [List.drop_of_length_le (l := a) (by omega)]
    by_cases hm : k = b.length
    · rw [List.drop_of_length_le (l := b) (by omega)]
      simp [lessL]; omega
    · rw [List.drop_eq_getElem_cons (l := b) (show k < b.length by omega)]
      simp only [lessL, List.isEmpty_cons, Bool.not_false]
      symm; rw [decide_eq_true_eq]; omega
  · have hm : k = b.length := by omega
    rw [List.drop_of_length_le (l := b) (by omega), List.drop_eq_getElem_cons (l := a) (show k < a.length by omega)]
    simp only [lessL]
    symm; rw [decide_eq_false_iff_not]; omega
set_option maxRecDepth 20000 in
set_option maxHeartbeats 4000000 in
theorem less_any (A B : Option Addr) (n m c d : Nat) (a b : List Int) (w : World) (hn : n ≤ 1000) (hm : m ≤ 1000) (ha : Is w A n a) (hb : Is w B m b) :
    Calls Tryz.prog 14 #[.slice A n c, .slice B m d] w fun e w' => e = .returned (.bool (lessL a b)) ∧ Nw w w' := by
  have HA := Lib.hid ha
  have HB := Lib.hid hb
  have hla := ha.1
  have hlb := hb.1
  clear ha hb
  go_enter Tryz.func14, Tryz.ntmps14
  go_wp2
  go_loopw [5] (fun i wr => ∃ k : Nat, (k ≤ n ∧ k ≤ m) ∧ i = .int .i64 k ∧ Hid (lessL a b = lessL (a.drop k) (b.drop k)) ∧ Nw w wr) (fun i _ => n - (intOf i).toNat)
  case atStart => exact ⟨0, ⟨by omega, by omega⟩, rfl, rfl, Nw.refl _⟩
  case round =>
    obtain ⟨k, ⟨hk, hk2⟩, rfl, heq, d, rfl⟩ := hrel
    by_cases hlt : k < n
    · by_cases hlt2 : k < m
      · obtain ⟨b1, o1, x, rfl, hb1, hx, hcx⟩ := HA.out.get hlt
        obtain ⟨b2, o2, y, rfl, hb2, hy, hcy⟩ := HB.out.get hlt2
        haveI : In b1 w := ⟨hb1⟩
        haveI : In b2 w := ⟨hb2⟩
        have HX := Lib.hid hx
        have HY := Lib.hid hy
        have hkn : (k : Int) < (n : Int) := by omega
        have hkm : (k : Int) < (m : Int) := by omega
        clear hx hy
        by_cases he : x = y
        · have hd : (x != y) = false := by simpa using he
          have HE := Lib.hid he
          clear he
          go_wp2
          go_region
          go_wp2
          refine ⟨⟨k + 1, ⟨by omega, by omega⟩, by go_num, ?_, (by repeat (first | exact Xt.Nw.refl _ | refine Xt.Nw.drew ?_ | refine Xt.Nw.drewN ?_ _ | refine Xt.Nw.alloc ?_ _ | refine Xt.Nw.joined ?_ | refine Xt.Nw.drewd ?_ | refine Xt.Nw.drewdN ?_ | refine Xt.Nw.ext ?_ | refine Xt.Nw.ext_some ?_ (by assumption) | refine Xt.Nw.setCell ?_ (by simp [go_sem] <;> omega) _))⟩, by simp [intOf]; omega⟩
          show _ = _
          rw [heq.out, less_go HX.out (HE.out ▸ HY.out)]
        · have hd : (x != y) = true := by simpa using he
          have HE := Lib.hid he
          clear he
          go_wp2
          go_region
          go_wp2
          go_region
          go_wp2
          go_ret
          exact ⟨ret_bool (by rw [heq.out, less_at HX.out HY.out HE.out]), (by repeat (first | exact Xt.Nw.refl _ | refine Xt.Nw.drew ?_ | refine Xt.Nw.drewN ?_ _ | refine Xt.Nw.alloc ?_ _ | refine Xt.Nw.joined ?_ | refine Xt.Nw.drewd ?_ | refine Xt.Nw.drewdN ?_ | refine Xt.Nw.ext ?_ | refine Xt.Nw.ext_some ?_ (by assumption) | refine Xt.Nw.setCell ?_ (by simp [go_sem] <;> omega) _))⟩
      · have hkm : ¬ (k : Int) < (m : Int) := by omega
        have hkn : (k : Int) < (n : Int) := by omega
        go_wp2
        go_ret
        exact ⟨ret_bool (by rw [heq.out, less_end hla hlb (by omega) hk hk2]), (by repeat (first | exact Xt.Nw.refl _ | refine Xt.Nw.drew ?_ | refine Xt.Nw.drewN ?_ _ | refine Xt.Nw.alloc ?_ _ | refine Xt.Nw.joined ?_ | refine Xt.Nw.drewd ?_ | refine Xt.Nw.drewdN ?_ | refine Xt.Nw.ext ?_ | refine Xt.Nw.ext_some ?_ (by assumption) | refine Xt.Nw.setCell ?_ (by simp [go_sem] <;> omega) _))⟩
    · have hkn : ¬ (k : Int) < (n : Int) := by omega
      go_wp2
      go_ret
      exact ⟨ret_bool (by rw [heq.out, less_end hla hlb (by omega) hk hk2]), (by repeat (first | exact Xt.Nw.refl _ | refine Xt.Nw.drew ?_ | refine Xt.Nw.drewN ?_ _ | refine Xt.Nw.alloc ?_ _ | refine Xt.Nw.joined ?_ | refine Xt.Nw.drewd ?_ | refine Xt.Nw.drewdN ?_ | refine Xt.Nw.ext ?_ | refine Xt.Nw.ext_some ?_ (by assumption) | refine Xt.Nw.setCell ?_ (by simp [go_sem] <;> omega) _))⟩
theorem is_take {W : World} {A : Option Addr} {n : Nat} {l : List Int} (h : Is W A n l) {k : Nat} (hk : k ≤ n) : Is W A k (l.take k) :=
  ⟨by rw [List.length_take, h.1]; omega, fun hn => by
    obtain ⟨b, o, hA, hb, hc⟩ := h.2 (by omega)
    refine ⟨b, o, hA, hb, fun i c hi => hc i c ?_⟩
    rw [List.getElem?_take] at hi
    split at hi
    · exact hi
    · cases hi⟩
theorem finds_first' {c : Cf} {cuts : List Nat} {l : List Cl} {a : List Nat} (h : findO c cuts l = some a) : validE c cuts (natI a) l = 0 := by
  have hb : begE c cuts l = 0 := (find_some.1 (by rw [h]; rfl)).1
  unfold findO at h
  rw [if_pos hb] at h
  exact valid_zero.2 ⟨hb, a, rfl, lin_mem.1 (List.mem_of_mem_head? h)⟩
theorem lin_bd {c : Cf} {cuts : List Nat} {l : List Cl} {a : List Nat} (h : findO c cuts l = some a) : a.length ≤ l.length ∧ ∀ i ∈ a, i < l.length := by
  obtain ⟨-, z, h1, h2⟩ := valid_zero.1 (finds_first' h)
  have e2 : a = z := by rw [← toNat_natI a, h1, toNat_natI]
  subst e2
  refine ⟨?_, h2.1.2⟩
  have := sub_len a (List.range l.length) h2.1.1 (fun i hi => by have := h2.1.2 i hi; simp; omega)
  simpa using this
theorem wf_nat {i : Nat} (h : i ≤ 1000000) : (Lit.int .i64 (i : Int)).wf = true := by simp [Lit.wf, IntKind.min, IntKind.max, IntKind.bits, IntKind.signed]; omega
theorem less_irr (a : List Int) : lessL a a = false := by
  cases h : lessL a a with
  | false => rfl
  | true => rw [less_asymm a a h] at h; cases h
theorem count_50 {c : Cf} {cuts : List Nat} {l : List Cl} : countE c cuts 50 l = begE c cuts l := by
  unfold countE
  by_cases h : begE c cuts l = 0
  · rw [if_pos h, if_neg (by decide), h]
  · rw [if_neg h]
/-- THE PLAIN LAW OF LinearFinds: Count agrees with Find. -/
theorem finds_count (c : Cf) (cuts : List Nat) (l : List Cl) : decide (0 < ((countN c cuts 50 l : Nat) : Int)) = (findO c cuts l).isSome ∧ ¬ 50 < ((countN c cuts 50 l : Nat) : Int) := by
  unfold countN findO
  rw [count_50]
  by_cases h : begE c cuts l = 0
  · rw [if_pos h, if_pos h]
    refine ⟨?_, by omega⟩
    cases hl : linsM c l with
    | nil => rfl
    | cons a r => simp; omega
  · rw [if_neg h, if_neg h]
    exact ⟨rfl, by omega⟩
/-- THE PLAIN LAW OF LinearFinds: no order is valid where Find finds none. -/
theorem finds_none {c : Cf} {cuts : List Nat} {l : List Cl} (o : List Int) (h : begE c cuts l ≠ 0 ∨ (findO c cuts l).isSome = false) : validE c cuts o l ≠ 0 := fun h0 => by
  obtain ⟨h1, z, -, h2⟩ := valid_zero.1 h0
  rcases h with h | h
  · exact h h1
  · rw [find_some.2 ⟨h1, z, h2⟩] at h; cases h
/-- THE PLAIN LAW OF LinearFinds: what Find returns is valid, and no valid order is smaller. -/
theorem finds_first {c : Cf} {cuts : List Nat} {l : List Cl} {a : List Nat} (h : findO c cuts l = some a) : validE c cuts (natI a) l = 0 ∧ ∀ o, validE c cuts o l = 0 → lessL o (natI a) = false ∧ (lessL (natI a) o = true → ¬ ((countN c cuts 50 l : Nat) : Int) < 2) := by
  have hb : begE c cuts l = 0 := (find_some.1 (by rw [h]; rfl)).1
  unfold findO at h
  rw [if_pos hb] at h
  obtain ⟨r, hr⟩ : ∃ r, linsM c l = a :: r := by
    cases hl : linsM c l with
    | nil => rw [hl] at h; cases h
    | cons x r => rw [hl] at h; injection h with h; exact ⟨r, by rw [h]⟩
  have hin : a ∈ exts l (l.length + 1) [] (s0M c) := by show a ∈ linsM c l; rw [hr]; exact List.mem_cons_self ..
  refine ⟨valid_zero.2 ⟨hb, a, rfl, lin_mem.1 hin⟩, fun o ho => ?_⟩
  obtain ⟨-, z, rfl, hz⟩ := valid_zero.1 ho
  rcases exts_first (show exts l (l.length + 1) [] (s0M c) = a :: r from hr) (lin_mem.2 hz) with rfl | ⟨h1, h2, h3⟩
  · exact ⟨less_irr _, fun h => by rw [less_irr] at h; cases h⟩
  · refine ⟨h2, fun _ => ?_⟩
    have h4 : 2 ≤ (linsM c l).length := h3
    unfold countN
    rw [if_pos (by rw [count_50]; exact hb)]
    omega
end Go.Proofs.YtnfpicnigfmbdaaGreatDoor
namespace Go.Proofs.YtnfpicnigfmbdaaGreatDoor
open Go.RowKit Go.Xt
/-! The law LinearFinds. -/
set_option maxRecDepth 20000 in
set_option maxHeartbeats 8000000 in
theorem finds_M (c : Cf) (cuts : List Nat) (A : Option Addr) (n cap : Nat) (l : List Cl) (w : World) (O : Option Addr) (no co : Nat) (od : List Int) (hoc : no ≤ co) (hocm : co ≤ 9223372036854775807) (ho : Is w O no od) (hwo : ∀ x ∈ od, (Lit.int .i64 x).wf = true) (hF : FmtAt w) (hr : Rd w 1 c.cA cuts.length (nums cuts)) (hcn : c.cn = cuts.length) (he : 0 ≤ c.eng ∧ c.eng < 256) (hcm : c.cc ≤ maxLen) (hcc : c.cn ≤ c.cc) (hnc : n ≤ cap) (hc : cap ≤ 9223372036854775807) (hl : Cs w A n l) (hw : ∀ y ∈ l, WfX y) :
    Calls Tryz.prog 3 #[confV c, .slice O no co, .slice A n cap] w fun e w' => e = .returned (.bool true) ∧ Nw w w' := by
  have HO := Lib.hid ho
  have HWO := Lib.hid hwo
  obtain ⟨mo, hmo⟩ : ∃ mo, mo = min no 9 := ⟨_, rfl⟩
  have hmin : min (no : Int) 9 = (mo : Int) := by omega
  have hmoc : (mo : Int) ≤ (co : Int) := by omega
  have HMO := Lib.hid hmo
  clear ho hwo hmo
  obtain ⟨b0, hb0⟩ : ∃ b, b = w.heap.size := ⟨_, rfl⟩
  obtain ⟨W0, hW0⟩ : ∃ W, W = w.alloc (cellsOf c 27) := ⟨_, rfl⟩
  have hn0 : Nw w W0 := by rw [hW0]; exact (Nw.refl w).alloc _
  haveI hca : ConfAt W0 b0 c := by rw [hW0]; exact ⟨fun i v hv => by unfold cellsOf; unfold ccells at hv; rw [hb0, World.cell?_alloc_new]; simpa using hv, by rw [hb0]; simp⟩
  have hbx : BoxAt W0 b0 := by rw [hW0, hb0]; exact ConfAt.box
  have HSM := Lib.hid (small_any c cuts W0 hcn hcc hcm (Rd.nw hr hn0))
  have HFE := Lib.hid (fun W (hq : Nw w W) => few7_any A n cap l W hnc hc (hl.nw hq))
  have HW := Lib.hid hw
  have HF := Lib.hid hF
  have HEN := Lib.hid he
  have HCN := Lib.hid hcn
  unfold cellsOf at hW0
  have HW0 := Lib.hid hW0
  have HN0 := Lib.hid hn0
  have HB0 := Lib.hid hb0
  have HBX := Lib.hid hbx
  unfold confV at HSM ⊢
  haveI : In b0 W0 := ⟨hca.lt⟩
  clear hb0 hW0 hn0 hbx hF hr hcn he hcm hcc hl hw
  go_enter Tryz.func3, Tryz.ntmps3
  go_upto_region 1 with (fail)
  rw [← HW0.out, ← HB0.out]
  go_wp2_with fail
  refine HSM.out.mono ?_
  rintro e W1 ⟨c', rfl, hc', hrd, hap, hn1⟩
  have hbx1 := HBX.out.nw hn1
  have hst := run_storeConf (c := c') hbx1
  unfold confV at hst
  obtain ⟨W2, hW2⟩ : ∃ W, W = putConf W1 b0 c' := ⟨_, rfl⟩
  have hcf : ConfAt W2 b0 c' := by rw [hW2]; exact putConf_at hbx1
  have hch : Chg [b0] W1 W2 := by rw [hW2]; exact putConf_chg W1 b0 c'
  rw [← hW2] at hst
  have hn2 : Nw w W2 := nw_chg2 (HN0.out.trans hn1) hch (fun k hk => by have := HB0.out; simp at hk; omega)
  have hrd2 : Rd W2 1 c'.cA (cuts.take 70).length (nums (cuts.take 70)) := by
    rw [hW2]
    exact rd_chg hrd (putConf_chg W1 b0 c') (fun b o e => by have := hap b o e; have := HBX.out.lt; simp; omega)
  haveI : In b0 W1 := ⟨hbx1.lt⟩
  haveI := hcf
  haveI : In b0 W2 := ⟨hcf.lt⟩
  have HN2 := Lib.hid hn2
  have HRD := Lib.hid hrd2
  have HC' := Lib.hid hc'
  clear hW2 hch hn2 hrd hrd2 hn1 hbx1 hc' hap
  go_wp2_with fail
  refine (HFE.out W2 HN2.out).mono ?_
  rintro e W3 ⟨v, rfl, hown, hn3⟩
  obtain ⟨A3, c3, rfl, hcs, hle, hcm3, -⟩ := hown.form
  obtain ⟨L, hL⟩ : ∃ L, L = l.take 7 := ⟨_, rfl⟩
  rw [← hL] at hown hcs hle ⊢
  obtain ⟨m, hm⟩ : ∃ m, m = L.length := ⟨_, rfl⟩
  rw [← hm] at hown hcs hle ⊢
  have hm7 : m ≤ 7 := by rw [hm, hL, List.length_take]; omega
  have hwl : ∀ y ∈ L, WfX y := fun y hy => HW.out y (List.mem_of_mem_take (hL ▸ hy))
  have hin : In2 W3 c' (cuts.take 70) A3 m c3 L := ⟨HRD.out.nw hn3, by rw [HC'.out, List.length_take, ← HCN.out]; exact Nat.min_comm _ _, by rw [HC'.out]; exact HEN.out, by omega, hle, hcm3, hcs, hwl, fun b o e => (hown.lt b (by rw [e]; rfl)).2⟩
  haveI hca3 : ConfAt W3 b0 c' := hcf.nw hn3
  haveI : In b0 W3 := ⟨hca3.lt⟩
  have HIN := Lib.hid hin
  have HN3 := Lib.hid (HN2.out.trans hn3)
  have HM7 := Lib.hid hm7
  have HM := Lib.hid hm
  obtain ⟨cu, hcu⟩ : ∃ cu, cu = cuts.take 70 := ⟨_, rfl⟩
  rw [← hcu] at HIN
  have HAW := Lib.hid (fun W (hq : Nw W3 W) => awake_any W (HF.out.nw (HN3.out.trans hq)))
  have hmc : (m : Int) ≤ (c3 : Int) := by omega
  clear hown hcs hle hcm3 hL hm hwl hin hm7 hn3 hcu hst HRD HC' HFE HSM hcf
  obtain ⟨o9, ho9⟩ : ∃ o9, o9 = od.take mo := ⟨_, rfl⟩
  have HIO := Lib.hid (show Is W3 O mo o9 by rw [ho9]; exact is_take (HO.out.nw HN3.out) (by have := HMO.out; omega))
  have HWO9 := Lib.hid (show ∀ x ∈ o9, (Lit.int .i64 x).wf = true from fun x hx => HWO.out x (List.mem_of_mem_take (ho9 ▸ hx)))
  have hmo1 : mo ≤ 9 := by have := HMO.out; omega
  have HMO9 := Lib.hid hmo1
  clear ho9
  have HFI := Lib.hid (fun W (hq : Nw W3 W) => findL_any (HIN.out.nw hq) (HF.out.nw (HN3.out.trans hq)))
  have HCK := Lib.hid (fun W (hq : Nw W3 W) => check_anyL (HIN.out.nw hq) (HF.out.nw (HN3.out.trans hq)))
  have HCO := Lib.hid (fun W (hq : Nw W3 W) => countL_any (most := 50) (HIN.out.nw hq) (HF.out.nw (HN3.out.trans hq)))
  have HVO := Lib.hid (fun W (hq : Nw W3 W) => validL_any (oc := co) (HIN.out.nw hq) (by have := HMO9.out; omega) (HIO.out.nw hq) HWO9.out)
  obtain ⟨e1, he1⟩ : ∃ e1, e1 = begE c' cu L := ⟨_, rfl⟩
  obtain ⟨n1, hn1⟩ : ∃ n1 : Int, n1 = (countN c' cu 50 L : Nat) := ⟨_, rfl⟩
  obtain ⟨s1, hs1⟩ : ∃ s1, s1 = (findO c' cu L).isSome := ⟨_, rfl⟩
  obtain ⟨v1, hv1⟩ : ∃ v1, v1 = validE c' cu o9 L := ⟨_, rfl⟩
  obtain ⟨hct1, hct2⟩ := finds_count c' cu L
  rw [← hn1, ← hs1] at hct1
  rw [← hn1] at hct2
  unfold FindP at HFI
  unfold CountP at HCO
  unfold ValidP at HVO
  rw [count_50, ← he1, ← hn1] at HCO
  rw [← he1, ← hs1] at HFI HCK
  rw [← hv1] at HVO
  have HNO := Lib.hid (show (e1 ≠ 0 ∨ s1 = false) → v1 ≠ 0 by rw [he1, hs1, hv1]; exact finds_none o9)
  have HFI2 := Lib.hid (show ∀ a, findO c' cu L = some a → validE c' cu (natI a) L = 0 ∧ (v1 = 0 → lessL o9 (natI a) = false ∧ (lessL (natI a) o9 = true → ¬ n1 < 2)) by
    intro a ha
    obtain ⟨h1, h2⟩ := finds_first ha
    rw [hv1, hn1]
    exact ⟨h1, h2 o9⟩)
  have HS1 := Lib.hid hs1
  unfold confV at HFI HCK HCO HVO
  have HE1 := Lib.hid he1
  clear he1 hn1 hs1 hv1
  go_wp2_with fail
  refine (HFI.out _ ((by repeat (first | exact Xt.Nw.refl _ | refine Xt.Nw.drew ?_ | refine Xt.Nw.drewN ?_ _ | refine Xt.Nw.alloc ?_ _ | refine Xt.Nw.joined ?_ | refine Xt.Nw.drewd ?_ | refine Xt.Nw.drewdN ?_ | refine Xt.Nw.ext ?_ | refine Xt.Nw.ext_some ?_ (by assumption) | refine Xt.Nw.setCell ?_ (by simp [go_sem] <;> omega) _)))).mono ?_
  rintro e W4 ⟨va, rfl, hown, hn4⟩
  haveI hca4 : ConfAt W4 b0 c' := hca3.nw (Nw.trans ((by repeat (first | exact Xt.Nw.refl _ | refine Xt.Nw.drew ?_ | refine Xt.Nw.drewN ?_ _ | refine Xt.Nw.alloc ?_ _ | refine Xt.Nw.joined ?_ | refine Xt.Nw.drewd ?_ | refine Xt.Nw.drewdN ?_ | refine Xt.Nw.ext ?_ | refine Xt.Nw.ext_some ?_ (by assumption) | refine Xt.Nw.setCell ?_ (by simp [go_sem] <;> omega) _))) hn4)
  haveI : In b0 W4 := ⟨hca4.lt⟩
  have HN4 := Lib.hid (show Nw W3 W4 from Nw.trans ((by repeat (first | exact Xt.Nw.refl _ | refine Xt.Nw.drew ?_ | refine Xt.Nw.drewN ?_ _ | refine Xt.Nw.alloc ?_ _ | refine Xt.Nw.joined ?_ | refine Xt.Nw.drewd ?_ | refine Xt.Nw.drewdN ?_ | refine Xt.Nw.ext ?_ | refine Xt.Nw.ext_some ?_ (by assumption) | refine Xt.Nw.setCell ?_ (by simp [go_sem] <;> omega) _))) hn4)
  obtain ⟨Aa, ca, rfl, hia⟩ := own_is hown
  have HIA := Lib.hid hia
  clear hown hia hn4
  go_wp2_with fail
  refine (HCK.out _ (Nw.trans HN4.out ((by repeat (first | exact Xt.Nw.refl _ | refine Xt.Nw.drew ?_ | refine Xt.Nw.drewN ?_ _ | refine Xt.Nw.alloc ?_ _ | refine Xt.Nw.joined ?_ | refine Xt.Nw.drewd ?_ | refine Xt.Nw.drewdN ?_ | refine Xt.Nw.ext ?_ | refine Xt.Nw.ext_some ?_ (by assumption) | refine Xt.Nw.setCell ?_ (by simp [go_sem] <;> omega) _))))).mono ?_
  rintro e W5 ⟨rfl, hn5⟩
  haveI hca5 : ConfAt W5 b0 c' := hca4.nw (Nw.trans ((by repeat (first | exact Xt.Nw.refl _ | refine Xt.Nw.drew ?_ | refine Xt.Nw.drewN ?_ _ | refine Xt.Nw.alloc ?_ _ | refine Xt.Nw.joined ?_ | refine Xt.Nw.drewd ?_ | refine Xt.Nw.drewdN ?_ | refine Xt.Nw.ext ?_ | refine Xt.Nw.ext_some ?_ (by assumption) | refine Xt.Nw.setCell ?_ (by simp [go_sem] <;> omega) _))) hn5)
  haveI : In b0 W5 := ⟨hca5.lt⟩
  have HN45 := Lib.hid (show Nw W4 W5 from Nw.trans ((by repeat (first | exact Xt.Nw.refl _ | refine Xt.Nw.drew ?_ | refine Xt.Nw.drewN ?_ _ | refine Xt.Nw.alloc ?_ _ | refine Xt.Nw.joined ?_ | refine Xt.Nw.drewd ?_ | refine Xt.Nw.drewdN ?_ | refine Xt.Nw.ext ?_ | refine Xt.Nw.ext_some ?_ (by assumption) | refine Xt.Nw.setCell ?_ (by simp [go_sem] <;> omega) _))) hn5)
  have HN5 := Lib.hid (HN4.out.trans HN45.out)
  clear hn5
  go_wp2_with fail
  refine (HCO.out _ (Nw.trans HN5.out ((by repeat (first | exact Xt.Nw.refl _ | refine Xt.Nw.drew ?_ | refine Xt.Nw.drewN ?_ _ | refine Xt.Nw.alloc ?_ _ | refine Xt.Nw.joined ?_ | refine Xt.Nw.drewd ?_ | refine Xt.Nw.drewdN ?_ | refine Xt.Nw.ext ?_ | refine Xt.Nw.ext_some ?_ (by assumption) | refine Xt.Nw.setCell ?_ (by simp [go_sem] <;> omega) _))))).mono ?_
  rintro e W6 ⟨rfl, hn6⟩
  haveI hca6 : ConfAt W6 b0 c' := hca5.nw (Nw.trans ((by repeat (first | exact Xt.Nw.refl _ | refine Xt.Nw.drew ?_ | refine Xt.Nw.drewN ?_ _ | refine Xt.Nw.alloc ?_ _ | refine Xt.Nw.joined ?_ | refine Xt.Nw.drewd ?_ | refine Xt.Nw.drewdN ?_ | refine Xt.Nw.ext ?_ | refine Xt.Nw.ext_some ?_ (by assumption) | refine Xt.Nw.setCell ?_ (by simp [go_sem] <;> omega) _))) hn6)
  haveI : In b0 W6 := ⟨hca6.lt⟩
  have HN46 := Lib.hid (show Nw W4 W6 from HN45.out.trans (Nw.trans ((by repeat (first | exact Xt.Nw.refl _ | refine Xt.Nw.drew ?_ | refine Xt.Nw.drewN ?_ _ | refine Xt.Nw.alloc ?_ _ | refine Xt.Nw.joined ?_ | refine Xt.Nw.drewd ?_ | refine Xt.Nw.drewdN ?_ | refine Xt.Nw.ext ?_ | refine Xt.Nw.ext_some ?_ (by assumption) | refine Xt.Nw.setCell ?_ (by simp [go_sem] <;> omega) _))) hn6))
  have HN6 := Lib.hid (HN4.out.trans HN46.out)
  clear hn6
  obtain ⟨za, hza⟩ : ∃ za, za = (findO c' cu L).getD [] := ⟨_, rfl⟩
  rw [← hza] at HIA ⊢
  obtain ⟨k, hk⟩ : ∃ k, k = za.length := ⟨_, rfl⟩
  rw [← hk] at HIA ⊢
  have HKZ := Lib.hid hk
  have HZ := Lib.hid (show (e1 ≠ 0 ∨ s1 = false) → za = [] by
    intro h
    rw [hza]
    cases hf : findO c' cu L with
    | none => rfl
    | some a =>
      exfalso
      rw [hf] at HS1
      rcases h with h | h
      · exact h (HE1.out ▸ (find_some.1 (show (findO c' cu L).isSome = true by rw [hf]; rfl)).1)
      · have := HS1.out; rw [h] at this; cases this)
  have HSZ := Lib.hid (show s1 = true → findO c' cu L = some za by
    intro h
    rw [hza]
    cases hf : findO c' cu L with
    | none => rw [hf] at HS1; have := HS1.out; rw [h] at this; cases this
    | some a => rfl)
  clear hk hza
  by_cases h1 : e1 = 0
  · cases hs : s1 with
    | false =>
      have HNF := Lib.hid (show e1 ≠ 0 ∨ s1 = false from .inr hs)
      have hnp : ¬ 0 < n1 := by rw [hs] at hct1; simpa using hct1
      clear HFI HCK HCO HSZ HFI2
      subst h1
      have hk0 : k = 0 := by rw [HKZ.out, HZ.out HNF.out]; rfl
      subst hk0
      have hv0 : v1 ≠ 0 := HNO.out HNF.out
      have hv0b : (v1 != 0) = true := by simpa using hv0
      clear hv0
      go_wp2_with fail
      refine (HVO.out _ (Nw.trans HN6.out ((by repeat (first | exact Xt.Nw.refl _ | refine Xt.Nw.drew ?_ | refine Xt.Nw.drewN ?_ _ | refine Xt.Nw.alloc ?_ _ | refine Xt.Nw.joined ?_ | refine Xt.Nw.drewd ?_ | refine Xt.Nw.drewdN ?_ | refine Xt.Nw.ext ?_ | refine Xt.Nw.ext_some ?_ (by assumption) | refine Xt.Nw.setCell ?_ (by simp [go_sem] <;> omega) _))))).mono ?_
      rintro e W7 ⟨rfl, hn7⟩
      have HN7 := Lib.hid (show Nw W3 W7 from HN6.out.trans (Nw.trans ((by repeat (first | exact Xt.Nw.refl _ | refine Xt.Nw.drew ?_ | refine Xt.Nw.drewN ?_ _ | refine Xt.Nw.alloc ?_ _ | refine Xt.Nw.joined ?_ | refine Xt.Nw.drewd ?_ | refine Xt.Nw.drewdN ?_ | refine Xt.Nw.ext ?_ | refine Xt.Nw.ext_some ?_ (by assumption) | refine Xt.Nw.setCell ?_ (by simp [go_sem] <;> omega) _))) hn7))
      clear hn7
      go_wp2_with fail
      refine (HAW.out _ (Nw.trans HN7.out ((by repeat (first | exact Xt.Nw.refl _ | refine Xt.Nw.drew ?_ | refine Xt.Nw.drewN ?_ _ | refine Xt.Nw.alloc ?_ _ | refine Xt.Nw.joined ?_ | refine Xt.Nw.drewd ?_ | refine Xt.Nw.drewdN ?_ | refine Xt.Nw.ext ?_ | refine Xt.Nw.ext_some ?_ (by assumption) | refine Xt.Nw.setCell ?_ (by simp [go_sem] <;> omega) _))))).mono ?_
      rintro e W9 ⟨rfl, hn9⟩
      have HN9 := Lib.hid (HN3.out.trans (Nw.trans (Nw.trans HN7.out ((by repeat (first | exact Xt.Nw.refl _ | refine Xt.Nw.drew ?_ | refine Xt.Nw.drewN ?_ _ | refine Xt.Nw.alloc ?_ _ | refine Xt.Nw.joined ?_ | refine Xt.Nw.drewd ?_ | refine Xt.Nw.drewdN ?_ | refine Xt.Nw.ext ?_ | refine Xt.Nw.ext_some ?_ (by assumption) | refine Xt.Nw.setCell ?_ (by simp [go_sem] <;> omega) _)))) hn9))
      clear hn9
      go_wp2
      go_ret
      exact ⟨rfl, HN9.out⟩
    | true =>
      have hnp : 0 < n1 := by rw [hs] at hct1; simpa using hct1
      obtain ⟨hva, hvl⟩ := HFI2.out za (HSZ.out hs)
      have hbd := lin_bd (HSZ.out hs)
      have HVA := Lib.hid (fun W (hq : Nw W4 W) => validL_any (oc := ca) (HIN.out.nw (HN4.out.trans hq)) (by have := HKZ.out; have := HM.out; have := HM7.out; omega) (HIA.out.nw hq) (fun x hx => by
        obtain ⟨i, hi, rfl⟩ := List.mem_map.1 hx
        have := hbd.2 i hi
        have := HM.out
        have := HM7.out
        exact wf_nat (by omega)))
      have HLE := Lib.hid (fun W (hq : Nw W4 W) => less_any O Aa mo k co ca o9 (natI za) W (by have := HMO9.out; omega) (by have := HKZ.out; have := HM.out; have := HM7.out; omega) (HIO.out.nw (HN4.out.trans hq)) (HIA.out.nw hq))
      have HLE2 := Lib.hid (fun W (hq : Nw W4 W) => less_any Aa O k mo ca co (natI za) o9 W (by have := HKZ.out; have := HM.out; have := HM7.out; omega) (by have := HMO9.out; omega) (HIA.out.nw hq) (HIO.out.nw (HN4.out.trans hq)))
      unfold ValidP at HVA
      rw [hva] at HVA
      unfold confV at HVA
      have HVL := Lib.hid hvl
      clear hva hvl hbd HFI HCK HCO HSZ HFI2 HNO HZ
      subst h1
      go_wp2_with fail
      refine (HVA.out _ (Nw.trans HN46.out ((by repeat (first | exact Xt.Nw.refl _ | refine Xt.Nw.drew ?_ | refine Xt.Nw.drewN ?_ _ | refine Xt.Nw.alloc ?_ _ | refine Xt.Nw.joined ?_ | refine Xt.Nw.drewd ?_ | refine Xt.Nw.drewdN ?_ | refine Xt.Nw.ext ?_ | refine Xt.Nw.ext_some ?_ (by assumption) | refine Xt.Nw.setCell ?_ (by simp [go_sem] <;> omega) _))))).mono ?_
      rintro e W7 ⟨rfl, hn7⟩
      haveI hca7 : ConfAt W7 b0 c' := hca6.nw (Nw.trans ((by repeat (first | exact Xt.Nw.refl _ | refine Xt.Nw.drew ?_ | refine Xt.Nw.drewN ?_ _ | refine Xt.Nw.alloc ?_ _ | refine Xt.Nw.joined ?_ | refine Xt.Nw.drewd ?_ | refine Xt.Nw.drewdN ?_ | refine Xt.Nw.ext ?_ | refine Xt.Nw.ext_some ?_ (by assumption) | refine Xt.Nw.setCell ?_ (by simp [go_sem] <;> omega) _))) hn7)
      haveI : In b0 W7 := ⟨hca7.lt⟩
      have HN47 := Lib.hid (show Nw W4 W7 from HN46.out.trans (Nw.trans ((by repeat (first | exact Xt.Nw.refl _ | refine Xt.Nw.drew ?_ | refine Xt.Nw.drewN ?_ _ | refine Xt.Nw.alloc ?_ _ | refine Xt.Nw.joined ?_ | refine Xt.Nw.drewd ?_ | refine Xt.Nw.drewdN ?_ | refine Xt.Nw.ext ?_ | refine Xt.Nw.ext_some ?_ (by assumption) | refine Xt.Nw.setCell ?_ (by simp [go_sem] <;> omega) _))) hn7))
      have HN7 := Lib.hid (HN4.out.trans HN47.out)
      clear hn7
      by_cases hv : v1 = 0
      · obtain ⟨hl1, hl2⟩ := HVL.out hv
        rw [hl1] at HLE
        subst hv
        obtain ⟨q, hq⟩ : ∃ q, q = lessL (natI za) o9 := ⟨_, rfl⟩
        rw [← hq] at HLE2 hl2
        clear hq hl1 HVL
        go_wp2_with fail
        refine (HVO.out _ (Nw.trans HN7.out ((by repeat (first | exact Xt.Nw.refl _ | refine Xt.Nw.drew ?_ | refine Xt.Nw.drewN ?_ _ | refine Xt.Nw.alloc ?_ _ | refine Xt.Nw.joined ?_ | refine Xt.Nw.drewd ?_ | refine Xt.Nw.drewdN ?_ | refine Xt.Nw.ext ?_ | refine Xt.Nw.ext_some ?_ (by assumption) | refine Xt.Nw.setCell ?_ (by simp [go_sem] <;> omega) _))))).mono ?_
        rintro e W8 ⟨rfl, hn8⟩
        haveI hca8 : ConfAt W8 b0 c' := hca7.nw (Nw.trans ((by repeat (first | exact Xt.Nw.refl _ | refine Xt.Nw.drew ?_ | refine Xt.Nw.drewN ?_ _ | refine Xt.Nw.alloc ?_ _ | refine Xt.Nw.joined ?_ | refine Xt.Nw.drewd ?_ | refine Xt.Nw.drewdN ?_ | refine Xt.Nw.ext ?_ | refine Xt.Nw.ext_some ?_ (by assumption) | refine Xt.Nw.setCell ?_ (by simp [go_sem] <;> omega) _))) hn8)
        haveI : In b0 W8 := ⟨hca8.lt⟩
        have HN48 := Lib.hid (show Nw W4 W8 from HN47.out.trans (Nw.trans ((by repeat (first | exact Xt.Nw.refl _ | refine Xt.Nw.drew ?_ | refine Xt.Nw.drewN ?_ _ | refine Xt.Nw.alloc ?_ _ | refine Xt.Nw.joined ?_ | refine Xt.Nw.drewd ?_ | refine Xt.Nw.drewdN ?_ | refine Xt.Nw.ext ?_ | refine Xt.Nw.ext_some ?_ (by assumption) | refine Xt.Nw.setCell ?_ (by simp [go_sem] <;> omega) _))) hn8))
        clear hn8
        go_wp2_with fail
        refine (HLE.out _ (Nw.trans HN48.out ((by repeat (first | exact Xt.Nw.refl _ | refine Xt.Nw.drew ?_ | refine Xt.Nw.drewN ?_ _ | refine Xt.Nw.alloc ?_ _ | refine Xt.Nw.joined ?_ | refine Xt.Nw.drewd ?_ | refine Xt.Nw.drewdN ?_ | refine Xt.Nw.ext ?_ | refine Xt.Nw.ext_some ?_ (by assumption) | refine Xt.Nw.setCell ?_ (by simp [go_sem] <;> omega) _))))).mono ?_
        rintro e W10 ⟨rfl, hn10⟩
        have HN410 := Lib.hid (show Nw W4 W10 from HN48.out.trans (Nw.trans ((by repeat (first | exact Xt.Nw.refl _ | refine Xt.Nw.drew ?_ | refine Xt.Nw.drewN ?_ _ | refine Xt.Nw.alloc ?_ _ | refine Xt.Nw.joined ?_ | refine Xt.Nw.drewd ?_ | refine Xt.Nw.drewdN ?_ | refine Xt.Nw.ext ?_ | refine Xt.Nw.ext_some ?_ (by assumption) | refine Xt.Nw.setCell ?_ (by simp [go_sem] <;> omega) _))) hn10))
        clear hn10
        go_wp2_with fail
        refine (HLE2.out _ (Nw.trans HN410.out ((by repeat (first | exact Xt.Nw.refl _ | refine Xt.Nw.drew ?_ | refine Xt.Nw.drewN ?_ _ | refine Xt.Nw.alloc ?_ _ | refine Xt.Nw.joined ?_ | refine Xt.Nw.drewd ?_ | refine Xt.Nw.drewdN ?_ | refine Xt.Nw.ext ?_ | refine Xt.Nw.ext_some ?_ (by assumption) | refine Xt.Nw.setCell ?_ (by simp [go_sem] <;> omega) _))))).mono ?_
        rintro e W11 ⟨rfl, hn11⟩
        have HN411 := Lib.hid (show Nw W3 W11 from HN4.out.trans (HN410.out.trans (Nw.trans ((by repeat (first | exact Xt.Nw.refl _ | refine Xt.Nw.drew ?_ | refine Xt.Nw.drewN ?_ _ | refine Xt.Nw.alloc ?_ _ | refine Xt.Nw.joined ?_ | refine Xt.Nw.drewd ?_ | refine Xt.Nw.drewdN ?_ | refine Xt.Nw.ext ?_ | refine Xt.Nw.ext_some ?_ (by assumption) | refine Xt.Nw.setCell ?_ (by simp [go_sem] <;> omega) _))) hn11)))
        clear hn11
        cases q with
        | true =>
          have hn2 : ¬ n1 < 2 := by have := hl2 rfl; omega
          clear hl2
          go_wp2_with fail
          refine (HAW.out _ (Nw.trans HN411.out ((by repeat (first | exact Xt.Nw.refl _ | refine Xt.Nw.drew ?_ | refine Xt.Nw.drewN ?_ _ | refine Xt.Nw.alloc ?_ _ | refine Xt.Nw.joined ?_ | refine Xt.Nw.drewd ?_ | refine Xt.Nw.drewdN ?_ | refine Xt.Nw.ext ?_ | refine Xt.Nw.ext_some ?_ (by assumption) | refine Xt.Nw.setCell ?_ (by simp [go_sem] <;> omega) _))))).mono ?_
          rintro e W9 ⟨rfl, hn9⟩
          have HN9 := Lib.hid (HN3.out.trans (Nw.trans (Nw.trans HN411.out ((by repeat (first | exact Xt.Nw.refl _ | refine Xt.Nw.drew ?_ | refine Xt.Nw.drewN ?_ _ | refine Xt.Nw.alloc ?_ _ | refine Xt.Nw.joined ?_ | refine Xt.Nw.drewd ?_ | refine Xt.Nw.drewdN ?_ | refine Xt.Nw.ext ?_ | refine Xt.Nw.ext_some ?_ (by assumption) | refine Xt.Nw.setCell ?_ (by simp [go_sem] <;> omega) _)))) hn9))
          clear hn9
          go_wp2
          go_ret
          exact ⟨rfl, HN9.out⟩
        | false =>
          clear hl2
          go_wp2_with fail
          refine (HAW.out _ (Nw.trans HN411.out ((by repeat (first | exact Xt.Nw.refl _ | refine Xt.Nw.drew ?_ | refine Xt.Nw.drewN ?_ _ | refine Xt.Nw.alloc ?_ _ | refine Xt.Nw.joined ?_ | refine Xt.Nw.drewd ?_ | refine Xt.Nw.drewdN ?_ | refine Xt.Nw.ext ?_ | refine Xt.Nw.ext_some ?_ (by assumption) | refine Xt.Nw.setCell ?_ (by simp [go_sem] <;> omega) _))))).mono ?_
          rintro e W9 ⟨rfl, hn9⟩
          have HN9 := Lib.hid (HN3.out.trans (Nw.trans (Nw.trans HN411.out ((by repeat (first | exact Xt.Nw.refl _ | refine Xt.Nw.drew ?_ | refine Xt.Nw.drewN ?_ _ | refine Xt.Nw.alloc ?_ _ | refine Xt.Nw.joined ?_ | refine Xt.Nw.drewd ?_ | refine Xt.Nw.drewdN ?_ | refine Xt.Nw.ext ?_ | refine Xt.Nw.ext_some ?_ (by assumption) | refine Xt.Nw.setCell ?_ (by simp [go_sem] <;> omega) _)))) hn9))
          clear hn9
          go_wp2
          go_ret
          exact ⟨rfl, HN9.out⟩
      · have hvb : (v1 != 0) = true := by simpa using hv
        have hvc : (v1 == 0) = false := by simpa using hv
        clear HVL HLE HLE2
        go_wp2_with fail
        refine (HVO.out _ (Nw.trans HN7.out ((by repeat (first | exact Xt.Nw.refl _ | refine Xt.Nw.drew ?_ | refine Xt.Nw.drewN ?_ _ | refine Xt.Nw.alloc ?_ _ | refine Xt.Nw.joined ?_ | refine Xt.Nw.drewd ?_ | refine Xt.Nw.drewdN ?_ | refine Xt.Nw.ext ?_ | refine Xt.Nw.ext_some ?_ (by assumption) | refine Xt.Nw.setCell ?_ (by simp [go_sem] <;> omega) _))))).mono ?_
        rintro e W8 ⟨rfl, hn8⟩
        have HN8 := Lib.hid (show Nw W3 W8 from HN7.out.trans (Nw.trans ((by repeat (first | exact Xt.Nw.refl _ | refine Xt.Nw.drew ?_ | refine Xt.Nw.drewN ?_ _ | refine Xt.Nw.alloc ?_ _ | refine Xt.Nw.joined ?_ | refine Xt.Nw.drewd ?_ | refine Xt.Nw.drewdN ?_ | refine Xt.Nw.ext ?_ | refine Xt.Nw.ext_some ?_ (by assumption) | refine Xt.Nw.setCell ?_ (by simp [go_sem] <;> omega) _))) hn8))
        clear hn8
        go_wp2_with fail
        refine (HAW.out _ (Nw.trans HN8.out ((by repeat (first | exact Xt.Nw.refl _ | refine Xt.Nw.drew ?_ | refine Xt.Nw.drewN ?_ _ | refine Xt.Nw.alloc ?_ _ | refine Xt.Nw.joined ?_ | refine Xt.Nw.drewd ?_ | refine Xt.Nw.drewdN ?_ | refine Xt.Nw.ext ?_ | refine Xt.Nw.ext_some ?_ (by assumption) | refine Xt.Nw.setCell ?_ (by simp [go_sem] <;> omega) _))))).mono ?_
        rintro e W9 ⟨rfl, hn9⟩
        have HN9 := Lib.hid (HN3.out.trans (Nw.trans (Nw.trans HN8.out ((by repeat (first | exact Xt.Nw.refl _ | refine Xt.Nw.drew ?_ | refine Xt.Nw.drewN ?_ _ | refine Xt.Nw.alloc ?_ _ | refine Xt.Nw.joined ?_ | refine Xt.Nw.drewd ?_ | refine Xt.Nw.drewdN ?_ | refine Xt.Nw.ext ?_ | refine Xt.Nw.ext_some ?_ (by assumption) | refine Xt.Nw.setCell ?_ (by simp [go_sem] <;> omega) _)))) hn9))
        clear hn9
        go_wp2
        go_ret
        exact ⟨rfl, HN9.out⟩
  · have HNF := Lib.hid (show e1 ≠ 0 ∨ s1 = false from .inl h1)
    have hne1 : (e1 != 0) = true := by simpa using h1
    clear HFI HCK HCO HSZ HFI2
    cases hs : s1 with
    | false =>
      have hnp : ¬ 0 < n1 := by rw [hs] at hct1; simpa using hct1
      have hk0 : k = 0 := by rw [HKZ.out, HZ.out HNF.out]; rfl
      subst hk0
      have hv0 : v1 ≠ 0 := HNO.out HNF.out
      have hv0b : (v1 != 0) = true := by simpa using hv0
      clear hv0
      go_wp2_with fail
      refine (HVO.out _ (Nw.trans HN6.out ((by repeat (first | exact Xt.Nw.refl _ | refine Xt.Nw.drew ?_ | refine Xt.Nw.drewN ?_ _ | refine Xt.Nw.alloc ?_ _ | refine Xt.Nw.joined ?_ | refine Xt.Nw.drewd ?_ | refine Xt.Nw.drewdN ?_ | refine Xt.Nw.ext ?_ | refine Xt.Nw.ext_some ?_ (by assumption) | refine Xt.Nw.setCell ?_ (by simp [go_sem] <;> omega) _))))).mono ?_
      rintro e W7 ⟨rfl, hn7⟩
      have HN7 := Lib.hid (show Nw W3 W7 from HN6.out.trans (Nw.trans ((by repeat (first | exact Xt.Nw.refl _ | refine Xt.Nw.drew ?_ | refine Xt.Nw.drewN ?_ _ | refine Xt.Nw.alloc ?_ _ | refine Xt.Nw.joined ?_ | refine Xt.Nw.drewd ?_ | refine Xt.Nw.drewdN ?_ | refine Xt.Nw.ext ?_ | refine Xt.Nw.ext_some ?_ (by assumption) | refine Xt.Nw.setCell ?_ (by simp [go_sem] <;> omega) _))) hn7))
      clear hn7
      go_wp2_with fail
      refine (HAW.out _ (Nw.trans HN7.out ((by repeat (first | exact Xt.Nw.refl _ | refine Xt.Nw.drew ?_ | refine Xt.Nw.drewN ?_ _ | refine Xt.Nw.alloc ?_ _ | refine Xt.Nw.joined ?_ | refine Xt.Nw.drewd ?_ | refine Xt.Nw.drewdN ?_ | refine Xt.Nw.ext ?_ | refine Xt.Nw.ext_some ?_ (by assumption) | refine Xt.Nw.setCell ?_ (by simp [go_sem] <;> omega) _))))).mono ?_
      rintro e W9 ⟨rfl, hn9⟩
      have HN9 := Lib.hid (HN3.out.trans (Nw.trans (Nw.trans HN7.out ((by repeat (first | exact Xt.Nw.refl _ | refine Xt.Nw.drew ?_ | refine Xt.Nw.drewN ?_ _ | refine Xt.Nw.alloc ?_ _ | refine Xt.Nw.joined ?_ | refine Xt.Nw.drewd ?_ | refine Xt.Nw.drewdN ?_ | refine Xt.Nw.ext ?_ | refine Xt.Nw.ext_some ?_ (by assumption) | refine Xt.Nw.setCell ?_ (by simp [go_sem] <;> omega) _)))) hn9))
      clear hn9
      go_wp2
      go_ret
      exact ⟨rfl, HN9.out⟩
    | true =>
      have hnp : 0 < n1 := by rw [hs] at hct1; simpa using hct1
      have hk0 : k = 0 := by rw [HKZ.out, HZ.out HNF.out]; rfl
      subst hk0
      have hv0 : v1 ≠ 0 := HNO.out HNF.out
      have hv0b : (v1 != 0) = true := by simpa using hv0
      clear hv0
      go_wp2_with fail
      refine (HVO.out _ (Nw.trans HN6.out ((by repeat (first | exact Xt.Nw.refl _ | refine Xt.Nw.drew ?_ | refine Xt.Nw.drewN ?_ _ | refine Xt.Nw.alloc ?_ _ | refine Xt.Nw.joined ?_ | refine Xt.Nw.drewd ?_ | refine Xt.Nw.drewdN ?_ | refine Xt.Nw.ext ?_ | refine Xt.Nw.ext_some ?_ (by assumption) | refine Xt.Nw.setCell ?_ (by simp [go_sem] <;> omega) _))))).mono ?_
      rintro e W7 ⟨rfl, hn7⟩
      have HN7 := Lib.hid (show Nw W3 W7 from HN6.out.trans (Nw.trans ((by repeat (first | exact Xt.Nw.refl _ | refine Xt.Nw.drew ?_ | refine Xt.Nw.drewN ?_ _ | refine Xt.Nw.alloc ?_ _ | refine Xt.Nw.joined ?_ | refine Xt.Nw.drewd ?_ | refine Xt.Nw.drewdN ?_ | refine Xt.Nw.ext ?_ | refine Xt.Nw.ext_some ?_ (by assumption) | refine Xt.Nw.setCell ?_ (by simp [go_sem] <;> omega) _))) hn7))
      clear hn7
      go_wp2_with fail
      refine (HAW.out _ (Nw.trans HN7.out ((by repeat (first | exact Xt.Nw.refl _ | refine Xt.Nw.drew ?_ | refine Xt.Nw.drewN ?_ _ | refine Xt.Nw.alloc ?_ _ | refine Xt.Nw.joined ?_ | refine Xt.Nw.drewd ?_ | refine Xt.Nw.drewdN ?_ | refine Xt.Nw.ext ?_ | refine Xt.Nw.ext_some ?_ (by assumption) | refine Xt.Nw.setCell ?_ (by simp [go_sem] <;> omega) _))))).mono ?_
      rintro e W9 ⟨rfl, hn9⟩
      have HN9 := Lib.hid (HN3.out.trans (Nw.trans (Nw.trans HN7.out ((by repeat (first | exact Xt.Nw.refl _ | refine Xt.Nw.drew ?_ | refine Xt.Nw.drewN ?_ _ | refine Xt.Nw.alloc ?_ _ | refine Xt.Nw.joined ?_ | refine Xt.Nw.drewd ?_ | refine Xt.Nw.drewdN ?_ | refine Xt.Nw.ext ?_ | refine Xt.Nw.ext_some ?_ (by assumption) | refine Xt.Nw.setCell ?_ (by simp [go_sem] <;> omega) _)))) hn9))
      clear hn9
      go_wp2
      go_ret
      exact ⟨rfl, HN9.out⟩
end Go.Proofs.YtnfpicnigfmbdaaGreatDoor
