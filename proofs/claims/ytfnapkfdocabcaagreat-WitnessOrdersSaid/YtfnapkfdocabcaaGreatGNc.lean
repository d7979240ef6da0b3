import Derived.Test.YtfnapkfdocabcaaGreatGKa
import Derived.Test.YtfnapkfdocabcaaGreatGVe
import Derived.Test.YtfnapkfdocabcaaGreatGPj
import Derived.Maps.AppendAt
set_option linter.unusedVariables false
set_option linter.unusedSimpArgs false
set_option linter.unnecessarySimpa false
namespace Go.Proofs.YtfnapkfdocabcaaGreat
open Go.RowKit Go.Xt
/-! Equality of pairs; the value of a key. -/
set_option maxRecDepth 20000 in
set_option maxHeartbeats 4000000 in
theorem slEq_any (A B : Option Addr) (n m ca cb : Nat) (l k : List (Int × Int)) (w : World) (ha : Rd w 2 A n (pcells l)) (hb : Rd w 2 B m (pcells k)) (hn : n ≤ 1000000) (hm : m ≤ 1000000) :
    Calls Tryz.prog 72 #[.slice A n ca, .slice B m cb] w fun e w' => e = .returned (.bool (decide (l = k))) ∧ Nw w w' := by
  have hln : l.length = n := by have := ha.1; rw [pcells_len] at this; omega
  have hkm : k.length = m := by have := hb.1; rw [pcells_len] at this; omega
  by_cases hnm : n = m
  · subst hnm
    have d0 : ((n : Int) != (n : Int)) = false := by simp
    have HA := Lib.hid ha
    have HB := Lib.hid hb
    have HL := Lib.hid hln
    have HK := Lib.hid hkm
    have HN := Lib.hid hn
    clear ha hb hln hkm hm hn
    go_enter Tryz.func72, Tryz.ntmps72
    go_wp2_with fail
    go_loopw [5, 13] (fun _ a wr => ∃ i : Nat, i ≤ n ∧ a = .int .i64 i ∧ Nw w wr ∧ Hid (l.take i = k.take i)) (fun _ a _ => n - (intOf a).toNat)
    case atStart => exact ⟨0, Nat.zero_le _, rfl, (by repeat (first | exact Xt.Nw.refl _ | refine Xt.Nw.drew ?_ | refine Xt.Nw.drewN ?_ _ | refine Xt.Nw.alloc ?_ _ | refine Xt.Nw.joined ?_ | refine Xt.Nw.drewd ?_ | refine Xt.Nw.drewdN ?_ | refine Xt.Nw.ext ?_ | refine Xt.Nw.ext_some ?_ (by assumption) | refine Xt.Nw.setCell ?_ (by simp [go_sem] <;> omega) _)), Lib.hid (by simp)⟩
    case round =>
      obtain ⟨i, hi, rfl, ⟨d, rfl⟩, HT⟩ := hrel
      by_cases hin : i < n
      · obtain ⟨ga, oa, rfl, hga, hca⟩ := HA.out.2 (by omega)
        obtain ⟨gb, ob, rfl, hgb, hcb⟩ := HB.out.2 (by omega)
        haveI : In ga w := ⟨hga⟩
        haveI : In gb w := ⟨hgb⟩
        obtain ⟨⟨x1, x2⟩, hx⟩ : ∃ x, l[i]? = some x := ⟨_, List.getElem?_eq_getElem (by have := HL.out; omega)⟩
        obtain ⟨⟨y1, y2⟩, hy⟩ : ∃ x, k[i]? = some x := ⟨_, List.getElem?_eq_getElem (by have := HK.out; omega)⟩
        obtain ⟨g0, g1⟩ := pcells_get l i _ hx
        obtain ⟨g2, g3⟩ := pcells_get k i _ hy
        have a0 : w.cell? ⟨ga, oa + i * 2, none⟩ = some (.int .u64 x1) := hca _ _ g0
        have a1 : w.cell? ⟨ga, oa + i * 2 + 1, none⟩ = some (.int .u64 x2) := by have := hca _ _ g1; rw [← Nat.add_assoc] at this; exact this
        have b0 : w.cell? ⟨gb, ob + i * 2, none⟩ = some (.int .u64 y1) := hcb _ _ g2
        have b1 : w.cell? ⟨gb, ob + i * 2 + 1, none⟩ = some (.int .u64 y2) := by have := hcb _ _ g3; rw [← Nat.add_assoc] at this; exact this
        have HX := Lib.hid hx
        have HY := Lib.hid hy
        have i1 : (i : Int) < (n : Int) := by omega
        have i0 : (0 : Int) ≤ (i : Int) := by omega
        have i2 : i < 1000000 := by have := HN.out; omega
        have HIN := Lib.hid hin
        clear hx hy g0 g1 g2 g3 hca hcb hin hi
        by_cases heq : x1 = y1 ∧ x2 = y2
        · obtain ⟨rfl, rfl⟩ := heq
          go_upto_region 6 with (fail)
          go_region
          go_wp2
          refine ⟨⟨i + 1, by have := HIN.out; omega, by go_num, (by repeat (first | exact Xt.Nw.refl _ | refine Xt.Nw.drew ?_ | refine Xt.Nw.drewN ?_ _ | refine Xt.Nw.alloc ?_ _ | refine Xt.Nw.joined ?_ | refine Xt.Nw.drewd ?_ | refine Xt.Nw.drewdN ?_ | refine Xt.Nw.ext ?_ | refine Xt.Nw.ext_some ?_ (by assumption) | refine Xt.Nw.setCell ?_ (by simp [go_sem] <;> omega) _)), Lib.hid ?_⟩, by have := HIN.out; simp [intOf]; omega⟩
          obtain ⟨p1, p2⟩ := List.getElem?_eq_some_iff.1 HX.out
          obtain ⟨p3, p4⟩ := List.getElem?_eq_some_iff.1 HY.out
          rw [List.take_succ_eq_append_getElem p1, List.take_succ_eq_append_getElem p3, p2, p4, HT.out]
        · have e0 : (decide (x1 = y1) && decide (x2 = y2)) = false := by
            cases h1 : (decide (x1 = y1) && decide (x2 = y2)) with
            | false => rfl
            | true => exfalso; simp at h1; exact heq h1
          have hne : ¬ l = k := by
            intro h
            have hx := HX.out
            rw [h, HY.out] at hx
            simp at hx
            exact heq ⟨hx.1.symm, hx.2.symm⟩
          go_upto_region 6 with (fail)
          go_region
          go_wp2
          go_ret
          refine ⟨?_, (by repeat (first | exact Xt.Nw.refl _ | refine Xt.Nw.drew ?_ | refine Xt.Nw.drewN ?_ _ | refine Xt.Nw.alloc ?_ _ | refine Xt.Nw.joined ?_ | refine Xt.Nw.drewd ?_ | refine Xt.Nw.drewdN ?_ | refine Xt.Nw.ext ?_ | refine Xt.Nw.ext_some ?_ (by assumption) | refine Xt.Nw.setCell ?_ (by simp [go_sem] <;> omega) _))⟩
          rw [decide_eq_false hne]; try rfl
      · have ei : i = n := by omega
        subst ei
        have hlk : l = k := by
          have h := HT.out
          rw [List.take_of_length_le (by have := HL.out; omega), List.take_of_length_le (by have := HK.out; omega)] at h
          exact h
        go_wp2_with fail
        go_ret
        refine ⟨?_, (by repeat (first | exact Xt.Nw.refl _ | refine Xt.Nw.drew ?_ | refine Xt.Nw.drewN ?_ _ | refine Xt.Nw.alloc ?_ _ | refine Xt.Nw.joined ?_ | refine Xt.Nw.drewd ?_ | refine Xt.Nw.drewdN ?_ | refine Xt.Nw.ext ?_ | refine Xt.Nw.ext_some ?_ (by assumption) | refine Xt.Nw.setCell ?_ (by simp [go_sem] <;> omega) _))⟩
        rw [decide_eq_true hlk]; try rfl
  · have d0 : ((n : Int) != (m : Int)) = true := by simp; omega
    have hne : ¬ l = k := by intro h; rw [h] at hln; omega
    clear ha hb hln hkm
    go_enter Tryz.func72, Tryz.ntmps72
    go_wp2
    go_ret
    refine ⟨?_, (by repeat (first | exact Xt.Nw.refl _ | refine Xt.Nw.drew ?_ | refine Xt.Nw.drewN ?_ _ | refine Xt.Nw.alloc ?_ _ | refine Xt.Nw.joined ?_ | refine Xt.Nw.drewd ?_ | refine Xt.Nw.drewdN ?_ | refine Xt.Nw.ext ?_ | refine Xt.Nw.ext_some ?_ (by assumption) | refine Xt.Nw.setCell ?_ (by simp [go_sem] <;> omega) _))⟩
    rw [decide_eq_false hne]; try rfl
/-- How keys compare. -/
def cmpK (a k : Int) : Int := if a < k then -1 else if k < a then 1 else 0
set_option maxHeartbeats 1000000 in
theorem cmp_any (a b k : Int) (w : World) :
    Calls Tryz.prog 106 #[.agg #[.int .u64 a, .int .u64 b], .int .u64 k] w fun e w' => e = .returned (.int .i64 (cmpK a k)) ∧ Nw w w' := by
  go_enter Tryz.func106, Tryz.ntmps106
  go_wp2
  all_goals (go_ret; refine ⟨ret_int ?_, (by repeat (first | exact Xt.Nw.refl _ | refine Xt.Nw.drew ?_ | refine Xt.Nw.drewN ?_ _ | refine Xt.Nw.alloc ?_ _ | refine Xt.Nw.joined ?_ | refine Xt.Nw.drewd ?_ | refine Xt.Nw.drewdN ?_ | refine Xt.Nw.ext ?_ | refine Xt.Nw.ext_some ?_ (by assumption) | refine Xt.Nw.setCell ?_ (by simp [go_sem] <;> omega) _))⟩)
  all_goals (unfold cmpK; (repeat' split) <;> first | rfl | omega)
set_option maxRecDepth 20000 in
set_option maxHeartbeats 4000000 in
theorem bsf_any (A : Option Addr) (n c : Nat) (l : List (Int × Int)) (k : Int) (w : World) (hr : Rd w 2 A n (pcells l)) (hs : asc l) (hn : n ≤ 1000000) :
    Calls Tryz.prog 105 #[.slice A n c, .int .u64 k, .func (.func 106) #[] #[]] w fun e w' => e = .returned (.tuple #[.int .i64 (pos k l), .bool (hasK k l)]) ∧ Nw w w' := by
  have HC := Lib.hid (fun a b W => cmp_any a b k W)
  have hln : l.length = n := by have := hr.1; rw [pcells_len] at this; omega
  have hlen := Lib.hid hln
  have HR := Lib.hid hr
  have HS := Lib.hid (fun h x hx => pos_lt (k := k) hs (h := h) (x := x) hx)
  have hpl := pos_le k l
  rw [hlen.out] at hpl
  have HH := Lib.hid (show hasK k l = match l[pos k l]? with | some x => decide (x.1 = k) | none => false from rfl)
  obtain ⟨b, hb⟩ : ∃ b, b = hasK k l := ⟨_, rfl⟩
  rw [← hb] at HH ⊢
  obtain ⟨P, hP⟩ : ∃ P, P = pos k l := ⟨_, rfl⟩
  rw [← hP] at HS HH hpl
  rw [← hP]
  have HPN := Lib.hid hpl
  clear hr hs hP hb hln
  go_enter Tryz.func105, Tryz.ntmps105
  go_wp2_with fail
  go_loopw [9, 10, 11] (fun x y _ wr => ∃ i j : Nat, i ≤ P ∧ P ≤ j ∧ j ≤ n ∧ x = .int .i64 i ∧ y = .int .i64 j ∧ Nw w wr) (fun x y _ _ => (intOf y).toNat - (intOf x).toNat)
  case atStart => exact ⟨0, n, by omega, hpl, by omega, rfl, rfl, Nw.refl _⟩
  case round =>
    obtain ⟨i, j, hi, hj, hjn, rfl, rfl, d, rfl⟩ := hrel
    by_cases hlt : i < j
    · have i1 : (i : Int) < (j : Int) := by omega
      obtain ⟨h, hh⟩ : ∃ h : Nat, h = (i + j) / 2 := ⟨_, rfl⟩
      have hhk : ((i : Int) + (j : Int)) / 2 = (h : Int) := by omega
      have h1 : i ≤ h := by omega
      have h2 : h < j := by omega
      have hb8 : j ≤ 1000000 := by omega
      have h3 : (h : Int) < (n : Int) := by omega
      obtain ⟨⟨x1, x2⟩, hx⟩ : ∃ x, l[h]? = some x := ⟨_, List.getElem?_eq_getElem (by have := hlen.out; omega)⟩
      obtain ⟨ga, oa, rfl, hga, hca⟩ := HR.out.2 (by omega)
      haveI : In ga w := ⟨hga⟩
      obtain ⟨g0, g1⟩ := pcells_get l h _ hx
      have a0 : w.cell? ⟨ga, oa + h * 2, none⟩ = some (.int .u64 x1) := hca _ _ g0
      have a1 : w.cell? ⟨ga, oa + h * 2 + 1, none⟩ = some (.int .u64 x2) := by have := hca _ _ g1; rw [← Nat.add_assoc] at this; exact this
      have hiff := HS.out h _ hx
      have HI := Lib.hid (show i ≤ h ∧ h < j ∧ i ≤ P ∧ P ≤ j ∧ j ≤ n from ⟨h1, h2, hi, hj, hjn⟩)
      clear hh hx h1 g0 g1 hca
      by_cases hk : x1 < k
      · have hP2 := Lib.hid (show h < P from hiff.1 hk)
        have e1 : cmpK x1 k = -1 := by unfold cmpK; rw [if_pos hk]
        have E1 := Lib.hid e1
        clear hiff hk e1
        go_wp2_with fail
        refine (HC.out _ _ _).mono ?_
        rintro e w' ⟨rfl, dW, rfl⟩
        rw [E1.out]
        go_wp2
        exact ⟨⟨h + 1, j, hP2.out, by have := HI.out; omega, by have := HI.out; omega, by go_num, rfl, (by repeat (first | exact Xt.Nw.refl _ | refine Xt.Nw.drew ?_ | refine Xt.Nw.drewN ?_ _ | refine Xt.Nw.alloc ?_ _ | refine Xt.Nw.joined ?_ | refine Xt.Nw.drewd ?_ | refine Xt.Nw.drewdN ?_ | refine Xt.Nw.ext ?_ | refine Xt.Nw.ext_some ?_ (by assumption) | refine Xt.Nw.setCell ?_ (by simp [go_sem] <;> omega) _))⟩, by have := HI.out; simp [intOf]; omega⟩
      · have hP2 := Lib.hid (show P ≤ h by have := fun q => hk (hiff.2 q); omega)
        obtain ⟨z, hz⟩ : ∃ z, z = cmpK x1 k := ⟨_, rfl⟩
        have e1 : decide (z < 0) = false := by rw [hz]; unfold cmpK; rw [if_neg hk]; split <;> rfl
        have HZ := Lib.hid hz
        clear hiff hk hz
        go_wp2_with fail
        refine (HC.out _ _ _).mono ?_
        rintro e w' ⟨rfl, dW, rfl⟩
        rw [← HZ.out]
        go_wp2
        exact ⟨⟨i, h, by have := HI.out; omega, hP2.out, by have := HI.out; omega, rfl, by go_num, (by repeat (first | exact Xt.Nw.refl _ | refine Xt.Nw.drew ?_ | refine Xt.Nw.drewN ?_ _ | refine Xt.Nw.alloc ?_ _ | refine Xt.Nw.joined ?_ | refine Xt.Nw.drewd ?_ | refine Xt.Nw.drewdN ?_ | refine Xt.Nw.ext ?_ | refine Xt.Nw.ext_some ?_ (by assumption) | refine Xt.Nw.setCell ?_ (by simp [go_sem] <;> omega) _))⟩, by have := HI.out; simp [intOf]; omega⟩
    · have i1 : ¬ (i : Int) < (j : Int) := by omega
      have hiP : i = P := by omega
      subst hiP
      by_cases hPn : i < n
      · have p1 : decide ((i : Int) < (n : Int)) = true := by simp; omega
        obtain ⟨⟨x1, x2⟩, hx⟩ : ∃ x, l[i]? = some x := ⟨_, List.getElem?_eq_getElem (by have := hlen.out; omega)⟩
        obtain ⟨ga, oa, rfl, hga, hca⟩ := HR.out.2 (by omega)
        haveI : In ga w := ⟨hga⟩
        obtain ⟨g0, g1⟩ := pcells_get l i _ hx
        have a0 : w.cell? ⟨ga, oa + i * 2, none⟩ = some (.int .u64 x1) := hca _ _ g0
        have a1 : w.cell? ⟨ga, oa + i * 2 + 1, none⟩ = some (.int .u64 x2) := by have := hca _ _ g1; rw [← Nat.add_assoc] at this; exact this
        have hbe : (cmpK x1 k == 0) = b := by
          have e : b = decide (x1 = k) := by have := HH.out; rw [hx] at this; exact this
          rw [e]
          unfold cmpK
          by_cases h1 : x1 < k
          · rw [if_pos h1, decide_eq_false (by show ¬ x1 = k; omega)]; rfl
          · rw [if_neg h1]
            by_cases h2 : k < x1
            · rw [if_pos h2, decide_eq_false (by show ¬ x1 = k; omega)]; rfl
            · rw [if_neg h2, decide_eq_true (by show x1 = k; omega)]; rfl
        obtain ⟨z, hz⟩ : ∃ z, z = cmpK x1 k := ⟨_, rfl⟩
        rw [← hz] at hbe
        have HZ := Lib.hid hz
        have hin : (i : Int) < (n : Int) := by omega
        clear hx g0 g1 hca hz
        go_wp2_with fail
        refine (HC.out _ _ _).mono ?_
        rintro e w' ⟨rfl, dW, rfl⟩
        rw [← HZ.out]
        go_wp2
        refine bodyPost_ret (results_tmp2 rfl _ _ _) rfl ⟨?_, (by repeat (first | exact Xt.Nw.refl _ | refine Xt.Nw.drew ?_ | refine Xt.Nw.drewN ?_ _ | refine Xt.Nw.alloc ?_ _ | refine Xt.Nw.joined ?_ | refine Xt.Nw.drewd ?_ | refine Xt.Nw.drewdN ?_ | refine Xt.Nw.ext ?_ | refine Xt.Nw.ext_some ?_ (by assumption) | refine Xt.Nw.setCell ?_ (by simp [go_sem] <;> omega) _))⟩
        rw [← hbe]; try rfl
      · have p1 : decide ((i : Int) < (n : Int)) = false := by simp; omega
        have hbe : b = false := by
          have := HH.out
          rw [List.getElem?_eq_none (by have := hlen.out; omega)] at this
          exact this
        go_wp2_with fail
        refine bodyPost_ret (results_tmp2 rfl _ _ _) rfl ⟨?_, (by repeat (first | exact Xt.Nw.refl _ | refine Xt.Nw.drew ?_ | refine Xt.Nw.drewN ?_ _ | refine Xt.Nw.alloc ?_ _ | refine Xt.Nw.joined ?_ | refine Xt.Nw.drewd ?_ | refine Xt.Nw.drewdN ?_ | refine Xt.Nw.ext ?_ | refine Xt.Nw.ext_some ?_ (by assumption) | refine Xt.Nw.setCell ?_ (by simp [go_sem] <;> omega) _))⟩
        rfl
set_option maxRecDepth 20000 in
set_option maxHeartbeats 4000000 in
theorem value_any (A : Option Addr) (n c : Nat) (l : List (Int × Int)) (k : Int) (w : World) (hr : Rd w 2 A n (pcells l)) (hs : asc l) (hn : n ≤ 1000000) :
    Calls Tryz.prog 74 #[.slice A n c, .int .u64 k] w fun e w' => e = .returned (.tuple #[.int .u64 (valL k l), .bool (hasK k l)]) ∧ Nw w w' := by
  have HB := Lib.hid (fun W (hq : Nw w W) => bsf_any A n c l k W (hr.nw hq) hs hn)
  have hln : l.length = n := by have := hr.1; rw [pcells_len] at this; omega
  have HR := Lib.hid hr
  obtain ⟨v, hv⟩ : ∃ v, v = valL k l := ⟨_, rfl⟩
  have HV := Lib.hid hv
  rw [← hv]
  cases hb : hasK k l with
  | false =>
    rw [hb] at HB
    have hv0 : v = 0 := by rw [hv]; exact val_not hb
    subst hv0
    obtain ⟨P, hP⟩ : ∃ P, P = pos k l := ⟨_, rfl⟩
    rw [← hP] at HB
    clear hr hs hln hb hP hv
    go_enter Tryz.func74, Tryz.ntmps74
    go_wp2_with fail
    refine (HB.out _ (by repeat (first | exact Xt.Nw.refl _ | refine Xt.Nw.drew ?_ | refine Xt.Nw.drewN ?_ _ | refine Xt.Nw.alloc ?_ _ | refine Xt.Nw.joined ?_ | refine Xt.Nw.drewd ?_ | refine Xt.Nw.drewdN ?_ | refine Xt.Nw.ext ?_ | refine Xt.Nw.ext_some ?_ (by assumption) | refine Xt.Nw.setCell ?_ (by simp [go_sem] <;> omega) _))).mono ?_
    rintro e w' ⟨rfl, dW, rfl⟩
    go_wp2
    exact bodyPost_ret (results_tmp2 rfl _ _ _) rfl ⟨rfl, (by repeat (first | exact Xt.Nw.refl _ | refine Xt.Nw.drew ?_ | refine Xt.Nw.drewN ?_ _ | refine Xt.Nw.alloc ?_ _ | refine Xt.Nw.joined ?_ | refine Xt.Nw.drewd ?_ | refine Xt.Nw.drewdN ?_ | refine Xt.Nw.ext ?_ | refine Xt.Nw.ext_some ?_ (by assumption) | refine Xt.Nw.setCell ?_ (by simp [go_sem] <;> omega) _))⟩
  | true =>
    rw [hb] at HB
    have hx : l[pos k l]? = some (k, v) := by
      refine get_at k l v ?_
      rw [get_val, hb, hv]; rfl
    obtain ⟨P, hP⟩ : ∃ P, P = pos k l := ⟨_, rfl⟩
    rw [← hP] at HB hx
    have hPn : P < n := by have := (List.getElem?_eq_some_iff.1 hx).1; omega
    obtain ⟨ga, oa, rfl, hga, hca⟩ := HR.out.2 (by omega)
    haveI : In ga w := ⟨hga⟩
    obtain ⟨-, g1⟩ := pcells_get l P _ hx
    have a1 : w.cell? ⟨ga, oa + P * 2 + 1, none⟩ = some (.int .u64 v) := by have := hca _ _ g1; rw [← Nat.add_assoc] at this; exact this
    have p1 : (P : Int) < (n : Int) := by omega
    have p2 : P < 1000000 := by omega
    clear hr hs hln hb hP hv hx hca g1
    go_enter Tryz.func74, Tryz.ntmps74
    go_wp2_with fail
    refine (HB.out _ (by repeat (first | exact Xt.Nw.refl _ | refine Xt.Nw.drew ?_ | refine Xt.Nw.drewN ?_ _ | refine Xt.Nw.alloc ?_ _ | refine Xt.Nw.joined ?_ | refine Xt.Nw.drewd ?_ | refine Xt.Nw.drewdN ?_ | refine Xt.Nw.ext ?_ | refine Xt.Nw.ext_some ?_ (by assumption) | refine Xt.Nw.setCell ?_ (by simp [go_sem] <;> omega) _))).mono ?_
    rintro e w' ⟨rfl, dW, rfl⟩
    go_wp2
    exact bodyPost_ret (results_tmp2 rfl _ _ _) rfl ⟨rfl, (by repeat (first | exact Xt.Nw.refl _ | refine Xt.Nw.drew ?_ | refine Xt.Nw.drewN ?_ _ | refine Xt.Nw.alloc ?_ _ | refine Xt.Nw.joined ?_ | refine Xt.Nw.drewd ?_ | refine Xt.Nw.drewdN ?_ | refine Xt.Nw.ext ?_ | refine Xt.Nw.ext_some ?_ (by assumption) | refine Xt.Nw.setCell ?_ (by simp [go_sem] <;> omega) _))⟩
end Go.Proofs.YtfnapkfdocabcaaGreat
namespace Go.Proofs.YtfnapkfdocabcaaGreat
open Go.RowKit Go.Xt
/-! Calls, ints and rows behind changes of some blocks; append behind them. -/
theorem Chg.le {X Y : List Nat} {a b : World} (h : Chg X a b) (hs : ∀ k ∈ X, k ∈ Y) : Chg Y a b := ⟨h.os, h.tape, h.output, h.size, fun k hk hx => h.block k hk fun e => hx (hs k e)⟩
theorem ints_app' (l : List Int) (f : Nat → Int) (i : Nat) : ints (l ++ [i].map f) = ints l ++ [.int .i64 (f i)] := by simp [ints]
theorem AtC.chg {w w' : World} {b o : Nat} {c : Cl} {X : List Nat} (h : AtC w b o c) (hc : Chg X w w') (hbx : b ∉ X) : AtC w' b o c := by
  simp only [AtC] at h ⊢
  obtain ⟨c0, c1, c2, c3, c4, c5, c6, c7, c8, c9, c10, c11, c12, c13, c14, c15, c16, c17⟩ := h
  exact ⟨hc.cell c0 hbx, hc.cell c1 hbx, hc.cell c2 hbx, hc.cell c3 hbx, hc.cell c4 hbx, hc.cell c5 hbx, hc.cell c6 hbx, hc.cell c7 hbx, hc.cell c8 hbx, hc.cell c9 hbx, hc.cell c10 hbx, hc.cell c11 hbx, hc.cell c12 hbx, hc.cell c13 hbx, hc.cell c14 hbx, hc.cell c15 hbx, hc.cell c16 hbx, hc.cell c17 hbx⟩
theorem Cs.chg {w w' : World} {A : Option Addr} {n : Nat} {l : List Cl} {X : List Nat} (h : Cs w A n l) (hc : Chg X w w') (hx : ∀ b o, A = some ⟨b, o, none⟩ → b ∉ X) : Cs w' A n l :=
  ⟨h.1, fun hn => by
    obtain ⟨b, o, rfl, hb, hcl⟩ := h.2 hn
    exact ⟨b, o, rfl, Nat.lt_of_lt_of_le hb hc.size, fun i c hi => (hcl i c hi).chg hc (hx b o rfl)⟩⟩
theorem Is.chg {w w' : World} {A : Option Addr} {n : Nat} {l : List Int} {X : List Nat} (h : Is w A n l) (hc : Chg X w w') (hx : ∀ b o, A = some ⟨b, o, none⟩ → b ∉ X) : Is w' A n l :=
  ⟨h.1, fun hn => by
    obtain ⟨b, o, rfl, hb, hcl⟩ := h.2 hn
    exact ⟨b, o, rfl, Nat.lt_of_lt_of_le hb hc.size, fun i c hi => hc.cell (hcl i c hi) (hx b o rfl)⟩⟩
theorem OwnI.chg {w w' : World} {base : Nat} {v : Value} {l : List Int} {X : List Nat} (h : OwnI w base v l) (hc : Chg X w w') (hx : ∀ g, v.ownBlock = some g → g ∉ X) : OwnI w' base v l := own_chg h hc hx
/-- The last element of a row taken away. -/
theorem own_pop {w : World} {base : Nat} {A : Option Addr} {n cap : Nat} {l : List Int} {x : Int} (h : OwnI w base (.slice A (n + 1) cap) (l ++ [x])) (hl : l.length = n) : OwnI w base (.slice A n cap) l := by
  unfold OwnI at h ⊢
  refine ⟨by simp [ints], ?_⟩
  rcases h.2 with ⟨h1, h2⟩ | ⟨g, cap', cur, h1, h2, h3, h4, h5, h6, h7⟩
  · simp at h2
  · injection h1 with h1 h8 h9
    subst h1 h9
    refine .inr ⟨g, cap, cur, by rw [hl], h2, h3, by omega, h5, h6, ?_⟩
    have := congrArg (List.take l.length) h7
    rw [List.take_take] at this
    rw [show l.length * 1 = l.length by omega]
    rw [show min l.length ((l ++ [x]).length * 1) = l.length by simp] at this
    rw [this, ints_app, List.take_append_of_le_length (by simp [ints])]
    rw [List.take_of_length_le (by simp [ints])]
/-- append of elements just built, beside whatever else lies in memory. -/
theorem wpList_appC {P : Program} {ops : Array Oper} {rest : List Oper} {o : Oper} {a : Act} {Q : Exit → Act → World → Prop} (hgd : o.guard = none) (s x : Operand) (t : TypeId)
    (ho : o.op = .call { callee := .builtin .append, args := #[s, x], argTypes := #[t, t] })
    (e : TypeId) (z : Value) (size bytes : Nat) (ht : P.underlying t = some (.slice e)) (hi : (P.info? e).map (fun i => (i.zero, i.size, i.bytes)) = some (some z, size, bytes)) (hzs : z.cells.size = size) (hsz : 0 < size)
    (base : Nat) (w' : World) (hb : base ≤ w'.heap.size) (v : Value) (n : Nat) (xs : List Value) (hs : a.eval s = v) (hown : w'.ownsRow base e size v n xs)
    (g m c : Nat) (te : TypeId) (news : List Value) (hx : a.eval x = .slice (some ⟨g, 0, none⟩) m c) (hg : g = w'.heap.size) (hl : news.length = m * size) (h1 : ∀ u ∈ news, u.oneCell' = true)
    (h63 : n + m ≤ maxLen) (hbytes : (n + m) * bytes ≤ 140737488355328)
    (h : ∀ v' w1, w1.ownsRow base e size v' (n + m) (xs ++ news) → Chg v.ownBlock.toList w' w1 → (∀ k, v'.ownBlock = some k → v.ownBlock = some k ∨ w'.heap.size ≤ k) → wpList P ops Q rest (a.put o.dst v') w1) :
    wpList P ops Q (o :: rest) a (w'.alloc (.cells news.toArray te)) := by
  obtain ⟨i, hi1, hz0, hz1, hz2⟩ := info_parts hi
  refine wpList_append_own_at _ hgd s x t ho base e i z size bytes ht hi1 hz0 hz1 hz2 hzs hsz v n xs hs (hown.alloc _) ⟨g, 0, none⟩ m c news hx hl (new_cells hg news) h1 h63 hbytes (by simp; omega) ?_
  intro v' w1 hown' hgrow _ hmv
  refine h v' w1 hown' ?_ fun k hk => ?_
  · have h2 : Chg v.ownBlock.toList (w'.alloc (.cells news.toArray te)) w1 := ⟨hgrow.os, hgrow.tape, hgrow.output, hgrow.size, fun k hk hx => hgrow.block k hk fun e => hx (by rw [← e]; simp)⟩
    exact (Chg.of_nw ((Nw.refl w').alloc _)).trans h2
  · rcases hmv with e | e
    · left; rw [← e]; exact hk
    · right; rw [hk] at e; injection e with e; simp at e; omega
end Go.Proofs.YtfnapkfdocabcaaGreat
