import Derived.Test.YtmbjpjpdcmjjgaaGreatDoorGKa
import Derived.Test.YtmbjpjpdcmjjgaaGreatDoorGVe
import Derived.Test.YtmbjpjpdcmjjgaaGreatDoorGPj
import Derived.Test.YtmbjpjpdcmjjgaaGreatDoorGKb
import Derived.Test.YtmbjpjpdcmjjgaaGreatDoorGKe
set_option linter.unusedVariables false
set_option linter.unusedSimpArgs false
set_option linter.unnecessarySimpa false
namespace Go.Proofs.YtmbjpjpdcmjjgaaGreatDoor
open Go.RowKit Go.Xt
/-! Equality of pairs; the value of a key. -/
set_option maxRecDepth 20000 in
set_option maxHeartbeats 4000000 in
theorem slEq_any (A B : Option Addr) (n m ca cb : Nat) (l k : List (Int × Int)) (w : World) (ha : Rd w 2 A n (pcells l)) (hb : Rd w 2 B m (pcells k)) (hn : n ≤ 1000000) (hm : m ≤ 1000000) :
    Calls Tryz.prog 40 #[.slice A n ca, .slice B m cb] w fun e w' => e = .returned (.bool (decide (l = k))) ∧ Nw w w' := by
  have hln : l.length = n := by have := ha.1; rw [pcells_len] at this; omega
  have hkm : k.length = m := by have := hb.1; rw [pcells_len] at this; omega
  by_cases hnm : n = m
  · subst hnm
    have d0 : ((n : Int) != (n : Int)) = false := by simp
    have HA := Lib.hid ha
    have HB := Lib.hid hb
    have HL := Lib.hid hln
    have HK := Lib.hid hkm
    have HN := Lib.hid hn
    clear ha hb hln hkm hm hn
    go_enter Tryz.func40, Tryz.ntmps40
    go_wp2_with fail
    go_loopw [5, 13] (fun _ a wr => ∃ i : Nat, i ≤ n ∧ a = .int .i64 i ∧ Nw w wr ∧ Hid (l.take i = k.take i)) (fun _ a _ => n - (intOf a).toNat)
    case atStart => exact ⟨0, Nat.zero_le _, rfl, nwa, Lib.hid (by simp)⟩
    case round =>
      obtain ⟨i, hi, rfl, ⟨d, rfl⟩, HT⟩ := hrel
      by_cases hin : i < n
      · obtain ⟨ga, oa, rfl, hga, hca⟩ := HA.out.2 (by omega)
        obtain ⟨gb, ob, rfl, hgb, hcb⟩ := HB.out.2 (by omega)
        haveI : In ga w := ⟨hga⟩
        haveI : In gb w := ⟨hgb⟩
        obtain ⟨⟨x1, x2⟩, hx⟩ : ∃ x, l[i]? = some x := ⟨_, List.getElem?_eq_getElem (by have := HL.out; omega)⟩
        obtain ⟨⟨y1, y2⟩, hy⟩ : ∃ x, k[i]? = some x := ⟨_, List.getElem?_eq_getElem (by have := HK.out; omega)⟩
        obtain ⟨g0, g1⟩ := pcells_get l i _ hx
        obtain ⟨g2, g3⟩ := pcells_get k i _ hy
        have a0 : w.cell? ⟨ga, oa + i * 2, none⟩ = some (.int .u64 x1) := hca _ _ g0
        have a1 : w.cell? ⟨ga, oa + i * 2 + 1, none⟩ = some (.int .u64 x2) := by have := hca _ _ g1; rw [← Nat.add_assoc] at this; exact this
        have b0 : w.cell? ⟨gb, ob + i * 2, none⟩ = some (.int .u64 y1) := hcb _ _ g2
        have b1 : w.cell? ⟨gb, ob + i * 2 + 1, none⟩ = some (.int .u64 y2) := by have := hcb _ _ g3; rw [← Nat.add_assoc] at this; exact this
        have HX := Lib.hid hx
        have HY := Lib.hid hy
        have i1 : (i : Int) < (n : Int) := by omega
        have i0 : (0 : Int) ≤ (i : Int) := by omega
        have i2 : i < 1000000 := by have := HN.out; omega
        have HIN := Lib.hid hin
        clear hx hy g0 g1 g2 g3 hca hcb hin hi
        by_cases heq : x1 = y1 ∧ x2 = y2
        · obtain ⟨rfl, rfl⟩ := heq
          go_upto_region 6 with (fail)
          go_region
          go_wp2
          refine ⟨⟨i + 1, by have := HIN.out; omega, by go_num, nwa, Lib.hid ?_⟩, by have := HIN.out; simp [intOf]; omega⟩
          obtain ⟨p1, p2⟩ := List.getElem?_eq_some_iff.1 HX.out
          obtain ⟨p3, p4⟩ := List.getElem?_eq_some_iff.1 HY.out
          rw [List.take_succ_eq_append_getElem p1, List.take_succ_eq_append_getElem p3, p2, p4, HT.out]
        · have e0 : (decide (x1 = y1) && decide (x2 = y2)) = false := by
            cases h1 : (decide (x1 = y1) && decide (x2 = y2)) with
            | false => rfl
            | true => exfalso; simp at h1; exact heq h1
          have hne : ¬ l = k := by
            intro h
            have hx := HX.out
            rw [h, HY.out] at hx
            simp at hx
            exact heq ⟨hx.1.symm, hx.2.symm⟩
          go_upto_region 6 with (fail)
          go_region
          go_wp2
          go_ret
          refine ⟨?_, nwa⟩
          rw [decide_eq_false hne]; try rfl
      · have ei : i = n := by omega
        subst ei
        have hlk : l = k := by
          have h := HT.out
          rw [List.take_of_length_le (by have := HL.out; omega), List.take_of_length_le (by have := HK.out; omega)] at h
          exact h
        go_wp2_with fail
        go_ret
        refine ⟨?_, nwa⟩
        rw [decide_eq_true hlk]; try rfl
  · have d0 : ((n : Int) != (m : Int)) = true := by simp; omega
    have hne : ¬ l = k := by intro h; rw [h] at hln; omega
    clear ha hb hln hkm
    go_enter Tryz.func40, Tryz.ntmps40
    go_wp2
    go_ret
    refine ⟨?_, nwa⟩
    rw [decide_eq_false hne]; try rfl
def cmpK (a k : Int) : Int := if a < k then -1 else if k < a then 1 else 0
set_option maxHeartbeats 1000000 in
theorem cmp_any (a b k : Int) (w : World) :
    Calls Tryz.prog 66 #[.agg #[.int .u64 a, .int .u64 b], .int .u64 k] w fun e w' => e = .returned (.int .i64 (cmpK a k)) ∧ Nw w w' := by
  go_enter Tryz.func66, Tryz.ntmps66
  go_wp2
  all_goals (go_ret; refine ⟨ret_int ?_, nwa⟩)
  all_goals (unfold cmpK; (repeat' split) <;> first | rfl | omega)
set_option maxRecDepth 20000 in
set_option maxHeartbeats 4000000 in
theorem bsf_any (A : Option Addr) (n c : Nat) (l : List (Int × Int)) (k : Int) (w : World) (hr : Rd w 2 A n (pcells l)) (hs : asc l) (hn : n ≤ 1000000) :
    Calls Tryz.prog 65 #[.slice A n c, .int .u64 k, .func (.func 66) #[] #[]] w fun e w' => e = .returned (.tuple #[.int .i64 (pos k l), .bool (hasK k l)]) ∧ Nw w w' := by
  have HC := Lib.hid (fun a b W => cmp_any a b k W)
  have hln : l.length = n := by have := hr.1; rw [pcells_len] at this; omega
  have hlen := Lib.hid hln
  have HR := Lib.hid hr
  have HS := Lib.hid (fun h x hx => pos_lt (k := k) hs (h := h) (x := x) hx)
  have hpl := pos_le k l
  rw [hlen.out] at hpl
  have HH := Lib.hid (show hasK k l = match l[pos k l]? with | some x => decide (x.1 = k) | none => false from rfl)
  obtain ⟨b, hb⟩ : ∃ b, b = hasK k l := ⟨_, rfl⟩
  rw [← hb] at HH ⊢
  obtain ⟨P, hP⟩ : ∃ P, P = pos k l := ⟨_, rfl⟩
  rw [← hP] at HS HH hpl
  rw [← hP]
  have HPN := Lib.hid hpl
  clear hr hs hP hb hln
  go_enter Tryz.func65, Tryz.ntmps65
  go_wp2_with fail
  go_loopw [9, 10, 11] (fun x y _ wr => ∃ i j : Nat, i ≤ P ∧ P ≤ j ∧ j ≤ n ∧ x = .int .i64 i ∧ y = .int .i64 j ∧ Nw w wr) (fun x y _ _ => (intOf y).toNat - (intOf x).toNat)
  case atStart => exact ⟨0, n, by omega, hpl, by omega, rfl, rfl, Nw.refl _⟩
  case round =>
    obtain ⟨i, j, hi, hj, hjn, rfl, rfl, d, rfl⟩ := hrel
    by_cases hlt : i < j
    · have i1 : (i : Int) < (j : Int) := by omega
      obtain ⟨h, hh⟩ : ∃ h : Nat, h = (i + j) / 2 := ⟨_, rfl⟩
      have hhk : ((i : Int) + (j : Int)) / 2 = (h : Int) := by omega
      have h1 : i ≤ h := by omega
      have h2 : h < j := by omega
      have hb8 : j ≤ 1000000 := by omega
      have h3 : (h : Int) < (n : Int) := by omega
      obtain ⟨⟨x1, x2⟩, hx⟩ : ∃ x, l[h]? = some x := ⟨_, List.getElem?_eq_getElem (by have := hlen.out; omega)⟩
      obtain ⟨ga, oa, rfl, hga, hca⟩ := HR.out.2 (by omega)
      haveI : In ga w := ⟨hga⟩
      obtain ⟨g0, g1⟩ := pcells_get l h _ hx
      have a0 : w.cell? ⟨ga, oa + h * 2, none⟩ = some (.int .u64 x1) := hca _ _ g0
      have a1 : w.cell? ⟨ga, oa + h * 2 + 1, none⟩ = some (.int .u64 x2) := by have := hca _ _ g1; rw [← Nat.add_assoc] at this; exact this
      have hiff := HS.out h _ hx
      have HI := Lib.hid (show i ≤ h ∧ h < j ∧ i ≤ P ∧ P ≤ j ∧ j ≤ n from ⟨h1, h2, hi, hj, hjn⟩)
      clear hh hx h1 g0 g1 hca
      by_cases hk : x1 < k
      · have hP2 := Lib.hid (show h < P from hiff.1 hk)
        have e1 : cmpK x1 k = -1 := by unfold cmpK; rw [if_pos hk]
        have E1 := Lib.hid e1
        clear hiff hk e1
        go_wp2_with fail
        refine (HC.out _ _ _).mono ?_
        rintro e w' ⟨rfl, dW, rfl⟩
        rw [E1.out]
        go_wp2
        exact ⟨⟨h + 1, j, hP2.out, by have := HI.out; omega, by have := HI.out; omega, by go_num, rfl, nwa⟩, by have := HI.out; simp [intOf]; omega⟩
      · have hP2 := Lib.hid (show P ≤ h by have := fun q => hk (hiff.2 q); omega)
        obtain ⟨z, hz⟩ : ∃ z, z = cmpK x1 k := ⟨_, rfl⟩
        have e1 : decide (z < 0) = false := by rw [hz]; unfold cmpK; rw [if_neg hk]; split <;> rfl
        have HZ := Lib.hid hz
        clear hiff hk hz
        go_wp2_with fail
        refine (HC.out _ _ _).mono ?_
        rintro e w' ⟨rfl, dW, rfl⟩
        rw [← HZ.out]
        go_wp2
        exact ⟨⟨i, h, by have := HI.out; omega, hP2.out, by have := HI.out; omega, rfl, by go_num, nwa⟩, by have := HI.out; simp [intOf]; omega⟩
    · have i1 : ¬ (i : Int) < (j : Int) := by omega
      have hiP : i = P := by omega
      subst hiP
      by_cases hPn : i < n
      · have p1 : decide ((i : Int) < (n : Int)) = true := by simp; omega
        obtain ⟨⟨x1, x2⟩, hx⟩ : ∃ x, l[i]? = some x := ⟨_, List.getElem?_eq_getElem (by have := hlen.out; omega)⟩
        obtain ⟨ga, oa, rfl, hga, hca⟩ := HR.out.2 (by omega)
        haveI : In ga w := ⟨hga⟩
        obtain ⟨g0, g1⟩ := pcells_get l i _ hx
        have a0 : w.cell? ⟨ga, oa + i * 2, none⟩ = some (.int .u64 x1) := hca _ _ g0
        have a1 : w.cell? ⟨ga, oa + i * 2 + 1, none⟩ = some (.int .u64 x2) := by have := hca _ _ g1; rw [← Nat.add_assoc] at this; exact this
        have hbe : (cmpK x1 k == 0) = b := by
          have e : b = decide (x1 = k) := by have := HH.out; rw [hx] at this; exact this
          rw [e]
          unfold cmpK
          by_cases h1 : x1 < k
          · rw [if_pos h1, decide_eq_false (by show ¬ x1 = k; omega)]; rfl
          · rw [if_neg h1]
            by_cases h2 : k < x1
            · rw [if_pos h2, decide_eq_false (by show ¬ x1 = k; omega)]; rfl
            · rw [if_neg h2, decide_eq_true (by show x1 = k; omega)]; rfl
        obtain ⟨z, hz⟩ : ∃ z, z = cmpK x1 k := ⟨_, rfl⟩
        rw [← hz] at hbe
        have HZ := Lib.hid hz
        have hin : (i : Int) < (n : Int) := by omega
        clear hx g0 g1 hca hz
        go_wp2_with fail
        refine (HC.out _ _ _).mono ?_
        rintro e w' ⟨rfl, dW, rfl⟩
        rw [← HZ.out]
        go_wp2
        refine bodyPost_ret (results_tmp2 rfl _ _ _) rfl ⟨?_, nwa⟩
        rw [← hbe]; try rfl
      · have p1 : decide ((i : Int) < (n : Int)) = false := by simp; omega
        have hbe : b = false := by
          have := HH.out
          rw [List.getElem?_eq_none (by have := hlen.out; omega)] at this
          exact this
        go_wp2_with fail
        refine bodyPost_ret (results_tmp2 rfl _ _ _) rfl ⟨?_, nwa⟩
        rfl
set_option maxRecDepth 20000 in
set_option maxHeartbeats 4000000 in
theorem value_any (A : Option Addr) (n c : Nat) (l : List (Int × Int)) (k : Int) (w : World) (hr : Rd w 2 A n (pcells l)) (hs : asc l) (hn : n ≤ 1000000) :
    Calls Tryz.prog 42 #[.slice A n c, .int .u64 k] w fun e w' => e = .returned (.tuple #[.int .u64 (valL k l), .bool (hasK k l)]) ∧ Nw w w' := by
  have HB := Lib.hid (fun W (hq : Nw w W) => bsf_any A n c l k W (hr.nw hq) hs hn)
  have hln : l.length = n := by have := hr.1; rw [pcells_len] at this; omega
  have HR := Lib.hid hr
  obtain ⟨v, hv⟩ : ∃ v, v = valL k l := ⟨_, rfl⟩
  have HV := Lib.hid hv
  rw [← hv]
  cases hb : hasK k l with
  | false =>
    rw [hb] at HB
    have hv0 : v = 0 := by rw [hv]; exact val_not hb
    subst hv0
    obtain ⟨P, hP⟩ : ∃ P, P = pos k l := ⟨_, rfl⟩
    rw [← hP] at HB
    clear hr hs hln hb hP hv
    go_enter Tryz.func42, Tryz.ntmps42
    go_wp2_with fail
    refine (HB.out _ nwa).mono ?_
    rintro e w' ⟨rfl, dW, rfl⟩
    go_wp2
    exact bodyPost_ret (results_tmp2 rfl _ _ _) rfl ⟨rfl, nwa⟩
  | true =>
    rw [hb] at HB
    have hx : l[pos k l]? = some (k, v) := by
      refine get_at k l v ?_
      rw [get_val, hb, hv]; rfl
    obtain ⟨P, hP⟩ : ∃ P, P = pos k l := ⟨_, rfl⟩
    rw [← hP] at HB hx
    have hPn : P < n := by have := (List.getElem?_eq_some_iff.1 hx).1; omega
    obtain ⟨ga, oa, rfl, hga, hca⟩ := HR.out.2 (by omega)
    haveI : In ga w := ⟨hga⟩
    obtain ⟨-, g1⟩ := pcells_get l P _ hx
    have a1 : w.cell? ⟨ga, oa + P * 2 + 1, none⟩ = some (.int .u64 v) := by have := hca _ _ g1; rw [← Nat.add_assoc] at this; exact this
    have p1 : (P : Int) < (n : Int) := by omega
    have p2 : P < 1000000 := by omega
    clear hr hs hln hb hP hv hx hca g1
    go_enter Tryz.func42, Tryz.ntmps42
    go_wp2_with fail
    refine (HB.out _ nwa).mono ?_
    rintro e w' ⟨rfl, dW, rfl⟩
    go_wp2
    exact bodyPost_ret (results_tmp2 rfl _ _ _) rfl ⟨rfl, nwa⟩
end Go.Proofs.YtmbjpjpdcmjjgaaGreatDoor
namespace Go.Proofs.YtmbjpjpdcmjjgaaGreatDoor
open Go.RowKit Go.Xt
/-! Sets as numbers. -/
theorem i64_nat {a : Nat} (h : a < 4611686018427387904) : IntKind.i64.wrap (a : Int) = a := by rw [IntKind.wrap_i64]; omega
theorem of64 {a : Nat} (h : a < 4611686018427387904) : (BitVec.ofInt 64 (a : Int)).toNat = a := by
  rw [BitVec.ofInt_natCast, BitVec.toNat_ofNat]; exact Nat.mod_eq_of_lt (by omega)
theorem bits_and64 (a b : Nat) (ha : a < 4611686018427387904) (hb : b < 4611686018427387904) : bits .and .i64 (a : Int) (b : Int) = ((a &&& b : Nat) : Int) := by
  show IntKind.i64.wrap ((BitVec.ofInt 64 (a : Int) &&& BitVec.ofInt 64 (b : Int)).toNat : Int) = _
  rw [BitVec.toNat_and, of64 ha, of64 hb, i64_nat (Nat.lt_of_le_of_lt Nat.and_le_left ha)]
theorem bits_or64 (a b : Nat) (ha : a < 1073741824) (hb : b < 1073741824) : bits .or .i64 (a : Int) (b : Int) = ((a ||| b : Nat) : Int) := by
  have hx : a ||| b < 2 ^ 30 := Nat.or_lt_two_pow (by omega) (by omega)
  show IntKind.i64.wrap ((BitVec.ofInt 64 (a : Int) ||| BitVec.ofInt 64 (b : Int)).toNat : Int) = _
  rw [BitVec.toNat_or, of64 (by omega), of64 (by omega), i64_nat (by omega)]
theorem bits_andNot64 (a b : Nat) (ha : a < 1073741824) (hb : b < 1073741824) : bits .andNot .i64 (a : Int) (b : Int) = ((a &&& (18446744073709551615 - b) : Nat) : Int) := by
  have hx : a &&& (18446744073709551615 - b) ≤ a := Nat.and_le_left
  show IntKind.i64.wrap ((BitVec.ofInt 64 (a : Int) &&& ~~~ (BitVec.ofInt 64 (b : Int))).toNat : Int) = _
  rw [BitVec.toNat_and, BitVec.toNat_not, of64 (by omega), of64 (by omega), show 2 ^ 64 - 1 - b = 18446744073709551615 - b by omega]
  exact i64_nat (by omega)
def mk (P : Nat → Bool) : Nat → Nat
  | 0 => 0
  | k + 1 => if P k then mk P k ||| 2 ^ k else mk P k
theorem mk_lt (P : Nat → Bool) : ∀ k, mk P k < 2 ^ k
  | 0 => by simp [mk]
  | k + 1 => by
    have h := mk_lt P k
    have h2 : (2 : Nat) ^ (k + 1) = 2 ^ k + 2 ^ k := by rw [Nat.pow_succ]; omega
    rw [mk]
    split
    · exact Nat.or_lt_two_pow (by omega) (by omega)
    · omega
theorem mk_bit (P : Nat → Bool) : ∀ k j, (mk P k).testBit j = (decide (j < k) && P j)
  | 0, j => by simp [mk]
  | k + 1, j => by
    rw [mk]
    have ih := mk_bit P k j
    by_cases hj : j = k
    · subst hj
      have h0 : (mk P j).testBit j = false := by rw [mk_bit P j j]; simp
      cases hp : P j with
      | true => simp [Nat.testBit_or, Nat.testBit_two_pow_self]
      | false => simp [h0]
    · have e : decide (j < k + 1) = decide (j < k) := by
        by_cases h : j < k
        · simp [h]; omega
        · simp [h]; omega
      rw [e, ← ih]
      split
      · rw [Nat.testBit_or, Nat.testBit_two_pow_of_ne (Ne.symm hj), Bool.or_false]
      · rfl
def Msk (D : Nat) (o : List Nat) : Prop := D < 1048576 ∧ ∀ k, D.testBit k = decide (k ∈ o)
theorem Msk.nil : Msk 0 [] := ⟨by decide, fun k => by simp⟩
theorem Msk.snoc {D i : Nat} {o : List Nat} (h : Msk D o) (hi : i < 20) : Msk (D ||| 2 ^ i) (o ++ [i]) := by
  refine ⟨?_, fun k => ?_⟩
  · have h1 : (2 : Nat) ^ i < 2 ^ 20 := Nat.pow_lt_pow_right (by decide) hi
    exact Nat.or_lt_two_pow (n := 20) h.1 h1
  · rw [Nat.testBit_or, h.2 k]
    by_cases hk : k = i
    · subst hk; simp [Nat.testBit_two_pow_self]
    · rw [Nat.testBit_two_pow_of_ne (Ne.symm hk)]; simp [hk]
theorem Msk.in_ {D i : Nat} {o : List Nat} (h : Msk D o) : D / 2 ^ i &&& 1 = if i ∈ o then 1 else 0 := by
  have h1 := h.2 i
  rw [Nat.testBit_eq_decide_div_mod_eq] at h1
  rw [Nat.and_one_is_mod]
  by_cases hm : i ∈ o
  · rw [if_pos hm]; simpa [hm] using h1
  · rw [if_neg hm]
    simp [hm] at h1
    omega
theorem and_zero {a : Nat} {b : Nat} : a &&& b = 0 ↔ ∀ k, a.testBit k = true → b.testBit k = false := by
  constructor
  · intro h k hk
    have := congrArg (fun z => z.testBit k) h
    simp only [Nat.testBit_and, hk, Nat.zero_testBit, Bool.true_and] at this
    exact this
  · intro h
    apply Nat.eq_of_testBit_eq
    intro k
    rw [Nat.testBit_and, Nat.zero_testBit]
    cases ha : a.testBit k with
    | false => rfl
    | true => rw [h k ha]; rfl
theorem not_bit {D k : Nat} (hD : D < 1048576) (hk : k < 64) : (18446744073709551615 - D).testBit k = !D.testBit k := by
  have := Nat.testBit_two_pow_sub_succ (n := 64) (x := D) (by omega) k
  rw [show (2 : Nat) ^ 64 - (D + 1) = 18446744073709551615 - D by omega] at this
  rw [this]; simp [hk]
theorem Msk.sub {D a : Nat} {o : List Nat} (h : Msk D o) (ha : a < 1048576) : a &&& (18446744073709551615 - D) = 0 ↔ ∀ k, a.testBit k = true → k ∈ o := by
  rw [and_zero]
  refine forall_congr' fun k => imp_congr_right fun hk => ?_
  have hk64 : k < 64 := by
    rcases Nat.lt_or_ge k 64 with h | h
    · exact h
    · exfalso
      have : a.testBit k = false := Nat.testBit_lt_two_pow (Nat.lt_of_lt_of_le ha (Nat.pow_le_pow_right (n := 2) (by decide) (show 20 ≤ k by omega)))
      rw [hk] at this; cases this
  rw [not_bit h.1 hk64, h.2 k]
  simp
theorem Msk.full {D a : Nat} {o : List Nat} (h : Msk D o) : D &&& a = a ↔ ∀ k, a.testBit k = true → k ∈ o := by
  constructor
  · intro e k hk
    have := congrArg (fun z => z.testBit k) e
    simp only [Nat.testBit_and, hk, h.2 k, Bool.and_true] at this
    simpa using this
  · intro e
    apply Nat.eq_of_testBit_eq
    intro k
    rw [Nat.testBit_and]
    cases ha : a.testBit k with
    | false => simp
    | true => rw [h.2 k]; simp [e k ha]
theorem Msk.same {D : Nat} {o o' : List Nat} (h : Msk D o) (h' : Msk D o') : ∀ i, i ∈ o ↔ i ∈ o' := fun i => by
  have := (h.2 i).symm.trans (h'.2 i)
  simpa using this
def bmP (l : List Cl) (i : Nat) : Nat → Bool := fun k => match l[k]?, l[i]? with | some a, some b => bf a b | _, _ => false
def muP (l : List Cl) : Nat → Bool := fun i => match l[i]? with | some c => decide (0 ≤ c.ans) | none => false
def bm (l : List Cl) (i : Nat) : Nat := mk (bmP l i) l.length
def mu (l : List Cl) : Nat := mk (muP l) l.length
theorem mk_lt20 (P : Nat → Bool) {k : Nat} (h : k ≤ 20) : mk P k < 1048576 := Nat.lt_of_lt_of_le (mk_lt _ _) (Nat.pow_le_pow_right (n := 2) (by decide) h)
theorem p20 {k : Nat} (h : k < 20) : 2 ^ k < 1048576 := Nat.pow_lt_pow_right (by decide) h
theorem or_form {q k : Nat} (hq : q < 1048576) (hk : k < 20) : bits .or .i64 (q : Int) (wrap64 (2 ^ k)) = ((q ||| 2 ^ k : Nat) : Int) := by
  have h := p20 hk
  obtain ⟨t, ht⟩ : ∃ t : Nat, t = 2 ^ k := ⟨_, rfl⟩
  have e : wrap64 (2 ^ k) = (t : Int) := by
    rw [show ((2 : Int) ^ k) = (t : Int) by rw [ht]; simp]
    unfold wrap64
    omega
  rw [e, ← ht, bits_or64 _ _ (by omega) (by omega)]
theorem or_form2 {q k : Nat} (hq : q < 1048576) (hk : k < 20) : bits .or .i64 (q : Int) (IntKind.i64.wrap (2 ^ k)) = ((q ||| 2 ^ k : Nat) : Int) := by
  have h := or_form hq hk
  unfold wrap64 at h
  rw [IntKind.wrap_i64]
  exact h
theorem bm_iff {l : List Cl} {D i : Nat} {o : List Nat} (h : Msk D o) (hl : l.length ≤ 20) (hi : i < l.length) : (i ∉ o ∧ bm l i &&& (18446744073709551615 - D) = 0) ↔ mayB l o i = true := by
  have hb := List.getElem?_eq_getElem hi
  rw [mayB_iff hb]
  refine and_congr_right fun _ => ?_
  have hlt : bm l i < 1048576 := Nat.lt_of_lt_of_le (mk_lt _ _) (Nat.pow_le_pow_right (n := 2) (by decide) hl)
  rw [h.sub hlt]
  constructor
  · intro hk k a ha hab
    refine hk k ?_
    rw [bm, mk_bit]; unfold bmP; rw [ha, hb]
    simp [(List.getElem?_eq_some_iff.1 ha).1, hab]
  · intro hk k hbit
    rw [bm, mk_bit] at hbit; unfold bmP at hbit
    simp only [Bool.and_eq_true, decide_eq_true_eq] at hbit
    obtain ⟨h1, h2⟩ := hbit
    rw [List.getElem?_eq_getElem h1, hb] at h2
    exact hk k _ (List.getElem?_eq_getElem h1) h2
theorem mu_iff {l : List Cl} {D : Nat} {o : List Nat} (h : Msk D o) : D &&& mu l = mu l ↔ fullB l o = true := by
  rw [h.full, fullB_iff]
  constructor
  · intro hk i c hc ha
    refine hk i ?_
    rw [mu, mk_bit]; unfold muP; rw [hc]
    simp [(List.getElem?_eq_some_iff.1 hc).1, ha]
  · intro hk i hbit
    rw [mu, mk_bit] at hbit; unfold muP at hbit
    simp only [Bool.and_eq_true, decide_eq_true_eq] at hbit
    obtain ⟨h1, h2⟩ := hbit
    rw [List.getElem?_eq_getElem h1] at h2
    exact hk i _ (List.getElem?_eq_getElem h1) (by simpa using h2)
end Go.Proofs.YtmbjpjpdcmjjgaaGreatDoor
namespace Go.Proofs.YtmbjpjpdcmjjgaaGreatDoor
open Go.RowKit Go.Xt
/-! The map of the places from which there is no linearization. -/
def Vn (l : List Cl) (D : Nat) (z : ByteArray) : Prop := ∃ (o : List Nat) (s : Md), Msk D o ∧ Ord l.length o ∧ s.Nums ∧ U64s s.l ∧ z = ⟨(keyB s).toArray⟩ ∧ exts l (l.length + 1 - o.length) o s = []
theorem sub_len : ∀ (a b : List Nat), a.Nodup → (∀ i ∈ a, i ∈ b) → a.length ≤ b.length
  | [], _, _, _ => Nat.zero_le _
  | x :: a, b, hn, h => by
    have hx := h x (by simp)
    have := sub_len a (b.erase x) (List.nodup_cons.1 hn).2 fun i hi => by
      refine (List.mem_erase_of_ne ?_).2 (h i (List.mem_cons_of_mem _ hi))
      rintro rfl
      exact (List.nodup_cons.1 hn).1 hi
    rw [List.length_erase_of_mem hx] at this
    have hp := List.length_pos_of_mem hx
    simp; omega
theorem nodup_same {a b : List Nat} (ha : a.Nodup) (hb : b.Nodup) (h : ∀ i, i ∈ a ↔ i ∈ b) : a.length = b.length :=
  Nat.le_antisymm (sub_len a b ha fun i hi => (h i).1 hi) (sub_len b a hb fun i hi => (h i).2 hi)
theorem md_ext {s t : Md} (h1 : s.slots = t.slots) (h2 : s.th = t.th) (h3 : s.l = t.l) : s = t := by
  obtain ⟨a, b, c⟩ := s; obtain ⟨d, e, f⟩ := t; simp only at h1 h2 h3; subst h1 h2 h3; rfl
theorem Vn.none {l : List Cl} {D : Nat} {o : List Nat} {s : Md} (hD : Msk D o) (ho : Ord l.length o) (hn : s.Nums) (hu : U64s s.l) (h : Vn l D ⟨(keyB s).toArray⟩) : exts l (l.length + 1 - o.length) o s = [] := by
  obtain ⟨o', s', hD', ho', hn', hu', hk, he⟩ := h
  have hk : keyB s = keyB s' := by
    have := congrArg (fun z : ByteArray => z.data.toList) hk
    simpa using this
  obtain ⟨e1, e2, e3⟩ := keyB_inj hn hn' hu hu' hk
  obtain rfl := md_ext e1 e2 e3
  have hlen := nodup_same ho.1 ho'.1 (hD.same hD')
  rw [hlen]
  exact (exts_same l _ _ _ s (hD.same hD')).2 he
abbrev plV (D : Nat) (z : ByteArray) : Value := .agg #[.int .i64 (D : Int), .string z]
theorem placeKeyed : Maps.Keyed Tryz.prog 83 := Maps.Keyed.of_law (deep_law_laid (by kernel_rfl) (m := 3) (by decide) (of_decide_eq_true (by kernel_rfl)) (by kernel_rfl) (by kernel_rfl))
def VainAt (l : List Cl) (W : World) (vb n : Nat) : Prop :=
  ∃ D : DataW Unit, W.ownsMap Tryz.prog 83 (plainElem Tryz.prog 4) vb n D ∧ ∀ d z kl, keyOf Tryz.prog 83 (plV d z) = some kl → D.atKey kl (.lit (.bool false)) = .lit (.bool true) → Vn l d z
theorem VainAt.kept {l : List Cl} {W W' : World} {vb n : Nat} {row : Option Nat} (h : VainAt l W vb n) (hg : W.grownBy W' row) (hne : some vb ≠ row) : VainAt l W' vb n := by
  obtain ⟨D, h1, h2⟩ := h; exact ⟨D, h1.kept hg hne, h2⟩
theorem VainAt.chg {l : List Cl} {W W' : World} {vb n : Nat} {X : List Nat} (h : VainAt l W vb n) (hc : Chg X W W') (hx : vb ∉ X) : VainAt l W' vb n := by
  obtain ⟨D, ⟨es, clock, hb, hr⟩, h2⟩ := h
  exact ⟨D, ⟨es, clock, (hc.block vb (Array.getElem?_eq_some_iff.1 hb).1 hx).trans hb, hr⟩, h2⟩
theorem VainAt.mono {l : List Cl} {W : World} {vb n n' : Nat} (h : VainAt l W vb n) (hn : n ≤ n') : VainAt l W vb n' := by
  obtain ⟨D, h1, h2⟩ := h; exact ⟨D, h1.mono hn, h2⟩
theorem VainAt.lt {l : List Cl} {W : World} {vb n : Nat} (h : VainAt l W vb n) : vb < W.heap.size := by
  obtain ⟨D, h1, _⟩ := h; exact h1.lt
theorem VainAt.ne {l : List Cl} {W : World} {vb n : Nat} (h : VainAt l W vb n) {b i : Nat} {v : Value} (hc : W.cell? ⟨b, i, none⟩ = some v) : b ≠ vb := by
  obtain ⟨D, ⟨es, clock, hb, -⟩, -⟩ := h
  rintro rfl
  unfold World.cell? at hc
  rw [hb] at hc
  simp at hc
theorem vain_new (l : List Cl) (w : World) : VainAt l (w.alloc (.map #[] 0)) w.heap.size 0 := ⟨_, World.ownsMap_made w _ _ _, fun d z kl _ h => by
  have : (DataW.map [] : DataW Unit).atKey kl (.lit (.bool false)) = .lit (.bool false) := rfl
  rw [this] at h; cases h⟩
theorem cPlace : Tryz.prog.cellsOf 83 = 2 := by kernel_rfl
theorem cIntK : Tryz.prog.cellsOf 3 = 1 := by kernel_rfl
theorem cStrK : Tryz.prog.cellsOf 9 = 1 := by kernel_rfl
theorem place_key {d : Nat} {z : ByteArray} (hd : d < 1048576) (hz : z.size ≤ maxLen) : ∃ kl, keyOf Tryz.prog 83 (plV d z) = some kl := by
  have hw : (Lit.int .i64 (d : Int)).wf = true := by simp [Lit.wf, IntKind.min, IntKind.max, IntKind.bits, IntKind.signed]; omega
  have h1 : Tryz.prog.keyType 83 = true := by kernel_rfl
  obtain ⟨m, hm⟩ : ∃ m, Tryz.prog.types.size = m + 1 := ⟨Tryz.prog.types.size - 1, by have : 0 < Tryz.prog.types.size := of_decide_eq_true (by kernel_rfl); omega⟩
  have ei : Tryz.prog.keyLits (m + 1) 3 [.int .i64 (d : Int)] = some [.int .i64 (d : Int)] := by
    unfold Program.keyLits; simp only [Tryz.underlying3]; simp [hw]
  have es : Tryz.prog.keyLits (m + 1) 9 [.string z] = some [.string z.data.toList] := by
    unfold Program.keyLits; simp only [Tryz.underlying9]; simp [hz]
  have e : Tryz.prog.keyLits (m + 1 + 1) 83 [.int .i64 (d : Int), .string z] = some [.int .i64 (d : Int), .string z.data.toList] := by
    unfold Program.keyLits
    simp only [Tryz.underlying83]
    simp [cPlace, cIntK, cStrK, ei, es]
  unfold keyOf
  simp only [Tryz.underlying83, h1, hm, Value.formed, cPlace, Bool.true_and, Value.cells]
  rw [e]
  exact ⟨_, rfl⟩
end Go.Proofs.YtmbjpjpdcmjjgaaGreatDoor
