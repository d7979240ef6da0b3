import Derived.Test.YtkikdpdainmlcaaGreatGKa
import Derived.Test.YtkikdpdainmlcaaGreatGVe
import Derived.Test.YtkikdpdainmlcaaGreatGPj
import Derived.Maps.AppendAt
import Derived.Test.YtkikdpdainmlcaaGreatGKe
import Derived.Test.YtkikdpdainmlcaaGreatGWf
import Derived.Deep.MidRow
import Derived.Deep.WholeRow
set_option linter.unusedVariables false
set_option linter.unusedSimpArgs false
set_option linter.unnecessarySimpa false
namespace Go.Proofs.YtkikdpdainmlcaaGreat
open Go.RowKit Go.Xt
/-! Equality of pairs; the value of a key. -/
set_option maxRecDepth 20000 in
set_option maxHeartbeats 4000000 in
theorem slEq_any (A B : Option Addr) (n m ca cb : Nat) (l k : List (Int × Int)) (w : World) (ha : Rd w 2 A n (pcells l)) (hb : Rd w 2 B m (pcells k)) (hn : n ≤ 1000000) (hm : m ≤ 1000000) :
    Calls Tryz.prog 55 #[.slice A n ca, .slice B m cb] w fun e w' => e = .returned (.bool (decide (l = k))) ∧ Nw w w' := by
  have hln : l.length = n := by have := ha.1; rw [pcells_len] at this; omega
  have hkm : k.length = m := by have := hb.1; rw [pcells_len] at this; omega
  by_cases hnm : n = m
  · subst hnm
    have d0 : ((n : Int) != (n : Int)) = false := by simp
    have HA := Lib.hid ha
    have HB := Lib.hid hb
    have HL := Lib.hid hln
    have HK := Lib.hid hkm
    have HN := Lib.hid hn
    clear ha hb hln hkm hm hn
    go_enter Tryz.func55, Tryz.ntmps55
    go_wp2_with fail
    go_loopw [5, 13] (fun _ a wr => ∃ i : Nat, i ≤ n ∧ a = .int .i64 i ∧ Nw w wr ∧ Hid (l.take i = k.take i)) (fun _ a _ => n - (intOf a).toNat)
    case atStart => exact ⟨0, Nat.zero_le _, rfl, nwa, Lib.hid (by simp)⟩
    case round =>
      obtain ⟨i, hi, rfl, ⟨d, rfl⟩, HT⟩ := hrel
      by_cases hin : i < n
      · obtain ⟨ga, oa, rfl, hga, hca⟩ := HA.out.2 (by omega)
        obtain ⟨gb, ob, rfl, hgb, hcb⟩ := HB.out.2 (by omega)
        haveI : In ga w := ⟨hga⟩
        haveI : In gb w := ⟨hgb⟩
        obtain ⟨⟨x1, x2⟩, hx⟩ : ∃ x, l[i]? = some x := ⟨_, List.getElem?_eq_getElem (by have := HL.out; omega)⟩
        obtain ⟨⟨y1, y2⟩, hy⟩ : ∃ x, k[i]? = some x := ⟨_, List.getElem?_eq_getElem (by have := HK.out; omega)⟩
        obtain ⟨g0, g1⟩ := pcells_get l i _ hx
        obtain ⟨g2, g3⟩ := pcells_get k i _ hy
        have a0 : w.cell? ⟨ga, oa + i * 2, none⟩ = some (.int .u64 x1) := hca _ _ g0
        have a1 : w.cell? ⟨ga, oa + i * 2 + 1, none⟩ = some (.int .u64 x2) := by have := hca _ _ g1; rw [← Nat.add_assoc] at this; exact this
        have b0 : w.cell? ⟨gb, ob + i * 2, none⟩ = some (.int .u64 y1) := hcb _ _ g2
        have b1 : w.cell? ⟨gb, ob + i * 2 + 1, none⟩ = some (.int .u64 y2) := by have := hcb _ _ g3; rw [← Nat.add_assoc] at this; exact this
        have HX := Lib.hid hx
        have HY := Lib.hid hy
        have i1 : (i : Int) < (n : Int) := by omega
        have i0 : (0 : Int) ≤ (i : Int) := by omega
        have i2 : i < 1000000 := by have := HN.out; omega
        have HIN := Lib.hid hin
        clear hx hy g0 g1 g2 g3 hca hcb hin hi
        by_cases heq : x1 = y1 ∧ x2 = y2
        · obtain ⟨rfl, rfl⟩ := heq
          go_upto_region 6 with (fail)
          go_region
          go_wp2
          refine ⟨⟨i + 1, by have := HIN.out; omega, by go_num, nwa, Lib.hid ?_⟩, by have := HIN.out; simp [intOf]; omega⟩
          obtain ⟨p1, p2⟩ := List.getElem?_eq_some_iff.1 HX.out
          obtain ⟨p3, p4⟩ := List.getElem?_eq_some_iff.1 HY.out
          rw [List.take_succ_eq_append_getElem p1, List.take_succ_eq_append_getElem p3, p2, p4, HT.out]
        · have e0 : (decide (x1 = y1) && decide (x2 = y2)) = false := by
            cases h1 : (decide (x1 = y1) && decide (x2 = y2)) with
            | false => rfl
            | true => exfalso; simp at h1; exact heq h1
          have hne : ¬ l = k := by
            intro h
            have hx := HX.out
            rw [h, HY.out] at hx
            simp at hx
            exact heq ⟨hx.1.symm, hx.2.symm⟩
          go_upto_region 6 with (fail)
          go_region
          go_wp2
          go_ret
          refine ⟨?_, nwa⟩
          rw [decide_eq_false hne]; try rfl
      · have ei : i = n := by omega
        subst ei
        have hlk : l = k := by
          have h := HT.out
          rw [List.take_of_length_le (by have := HL.out; omega), List.take_of_length_le (by have := HK.out; omega)] at h
          exact h
        go_wp2_with fail
        go_ret
        refine ⟨?_, nwa⟩
        rw [decide_eq_true hlk]; try rfl
  · have d0 : ((n : Int) != (m : Int)) = true := by simp; omega
    have hne : ¬ l = k := by intro h; rw [h] at hln; omega
    clear ha hb hln hkm
    go_enter Tryz.func55, Tryz.ntmps55
    go_wp2
    go_ret
    refine ⟨?_, nwa⟩
    rw [decide_eq_false hne]; try rfl
def cmpK (a k : Int) : Int := if a < k then -1 else if k < a then 1 else 0
set_option maxHeartbeats 1000000 in
theorem cmp_any (a b k : Int) (w : World) :
    Calls Tryz.prog 79 #[.agg #[.int .u64 a, .int .u64 b], .int .u64 k] w fun e w' => e = .returned (.int .i64 (cmpK a k)) ∧ Nw w w' := by
  go_enter Tryz.func79, Tryz.ntmps79
  go_wp2
  all_goals (go_ret; refine ⟨ret_int ?_, nwa⟩)
  all_goals (unfold cmpK; (repeat' split) <;> first | rfl | omega)
set_option maxRecDepth 20000 in
set_option maxHeartbeats 4000000 in
theorem bsf_any (A : Option Addr) (n c : Nat) (l : List (Int × Int)) (k : Int) (w : World) (hr : Rd w 2 A n (pcells l)) (hs : asc l) (hn : n ≤ 1000000) :
    Calls Tryz.prog 78 #[.slice A n c, .int .u64 k, .func (.func 79) #[] #[]] w fun e w' => e = .returned (.tuple #[.int .i64 (pos k l), .bool (hasK k l)]) ∧ Nw w w' := by
  have HC := Lib.hid (fun a b W => cmp_any a b k W)
  have hln : l.length = n := by have := hr.1; rw [pcells_len] at this; omega
  have hlen := Lib.hid hln
  have HR := Lib.hid hr
  have HS := Lib.hid (fun h x hx => pos_lt (k := k) hs (h := h) (x := x) hx)
  have hpl := pos_le k l
  rw [hlen.out] at hpl
  have HH := Lib.hid (show hasK k l = match l[pos k l]? with | some x => decide (x.1 = k) | none => false from rfl)
  obtain ⟨b, hb⟩ : ∃ b, b = hasK k l := ⟨_, rfl⟩
  rw [← hb] at HH ⊢
  obtain ⟨P, hP⟩ : ∃ P, P = pos k l := ⟨_, rfl⟩
  rw [← hP] at HS HH hpl
  rw [← hP]
  have HPN := Lib.hid hpl
  clear hr hs hP hb hln
  go_enter Tryz.func78, Tryz.ntmps78
  go_wp2_with fail
  go_loopw [9, 10, 11] (fun x y _ wr => ∃ i j : Nat, i ≤ P ∧ P ≤ j ∧ j ≤ n ∧ x = .int .i64 i ∧ y = .int .i64 j ∧ Nw w wr) (fun x y _ _ => (intOf y).toNat - (intOf x).toNat)
  case atStart => exact ⟨0, n, by omega, hpl, by omega, rfl, rfl, Nw.refl _⟩
  case round =>
    obtain ⟨i, j, hi, hj, hjn, rfl, rfl, d, rfl⟩ := hrel
    by_cases hlt : i < j
    · have i1 : (i : Int) < (j : Int) := by omega
      obtain ⟨h, hh⟩ : ∃ h : Nat, h = (i + j) / 2 := ⟨_, rfl⟩
      have hhk : ((i : Int) + (j : Int)) / 2 = (h : Int) := by omega
      have h1 : i ≤ h := by omega
      have h2 : h < j := by omega
      have hb8 : j ≤ 1000000 := by omega
      have h3 : (h : Int) < (n : Int) := by omega
      obtain ⟨⟨x1, x2⟩, hx⟩ : ∃ x, l[h]? = some x := ⟨_, List.getElem?_eq_getElem (by have := hlen.out; omega)⟩
      obtain ⟨ga, oa, rfl, hga, hca⟩ := HR.out.2 (by omega)
      haveI : In ga w := ⟨hga⟩
      obtain ⟨g0, g1⟩ := pcells_get l h _ hx
      have a0 : w.cell? ⟨ga, oa + h * 2, none⟩ = some (.int .u64 x1) := hca _ _ g0
      have a1 : w.cell? ⟨ga, oa + h * 2 + 1, none⟩ = some (.int .u64 x2) := by have := hca _ _ g1; rw [← Nat.add_assoc] at this; exact this
      have hiff := HS.out h _ hx
      have HI := Lib.hid (show i ≤ h ∧ h < j ∧ i ≤ P ∧ P ≤ j ∧ j ≤ n from ⟨h1, h2, hi, hj, hjn⟩)
      clear hh hx h1 g0 g1 hca
      by_cases hk : x1 < k
      · have hP2 := Lib.hid (show h < P from hiff.1 hk)
        have e1 : cmpK x1 k = -1 := by unfold cmpK; rw [if_pos hk]
        have E1 := Lib.hid e1
        clear hiff hk e1
        go_wp2_with fail
        refine (HC.out _ _ _).mono ?_
        rintro e w' ⟨rfl, dW, rfl⟩
        rw [E1.out]
        go_wp2
        exact ⟨⟨h + 1, j, hP2.out, by have := HI.out; omega, by have := HI.out; omega, by go_num, rfl, nwa⟩, by have := HI.out; simp [intOf]; omega⟩
      · have hP2 := Lib.hid (show P ≤ h by have := fun q => hk (hiff.2 q); omega)
        obtain ⟨z, hz⟩ : ∃ z, z = cmpK x1 k := ⟨_, rfl⟩
        have e1 : decide (z < 0) = false := by rw [hz]; unfold cmpK; rw [if_neg hk]; split <;> rfl
        have HZ := Lib.hid hz
        clear hiff hk hz
        go_wp2_with fail
        refine (HC.out _ _ _).mono ?_
        rintro e w' ⟨rfl, dW, rfl⟩
        rw [← HZ.out]
        go_wp2
        exact ⟨⟨i, h, by have := HI.out; omega, hP2.out, by have := HI.out; omega, rfl, by go_num, nwa⟩, by have := HI.out; simp [intOf]; omega⟩
    · have i1 : ¬ (i : Int) < (j : Int) := by omega
      have hiP : i = P := by omega
      subst hiP
      by_cases hPn : i < n
      · have p1 : decide ((i : Int) < (n : Int)) = true := by simp; omega
        obtain ⟨⟨x1, x2⟩, hx⟩ : ∃ x, l[i]? = some x := ⟨_, List.getElem?_eq_getElem (by have := hlen.out; omega)⟩
        obtain ⟨ga, oa, rfl, hga, hca⟩ := HR.out.2 (by omega)
        haveI : In ga w := ⟨hga⟩
        obtain ⟨g0, g1⟩ := pcells_get l i _ hx
        have a0 : w.cell? ⟨ga, oa + i * 2, none⟩ = some (.int .u64 x1) := hca _ _ g0
        have a1 : w.cell? ⟨ga, oa + i * 2 + 1, none⟩ = some (.int .u64 x2) := by have := hca _ _ g1; rw [← Nat.add_assoc] at this; exact this
        have hbe : (cmpK x1 k == 0) = b := by
          have e : b = decide (x1 = k) := by have := HH.out; rw [hx] at this; exact this
          rw [e]
          unfold cmpK
          by_cases h1 : x1 < k
          · rw [if_pos h1, decide_eq_false (by show ¬ x1 = k; omega)]; rfl
          · rw [if_neg h1]
            by_cases h2 : k < x1
            · rw [if_pos h2, decide_eq_false (by show ¬ x1 = k; omega)]; rfl
            · rw [if_neg h2, decide_eq_true (by show x1 = k; omega)]; rfl
        obtain ⟨z, hz⟩ : ∃ z, z = cmpK x1 k := ⟨_, rfl⟩
        rw [← hz] at hbe
        have HZ := Lib.hid hz
        have hin : (i : Int) < (n : Int) := by omega
        clear hx g0 g1 hca hz
        go_wp2_with fail
        refine (HC.out _ _ _).mono ?_
        rintro e w' ⟨rfl, dW, rfl⟩
        rw [← HZ.out]
        go_wp2
        refine bodyPost_ret (results_tmp2 rfl _ _ _) rfl ⟨?_, nwa⟩
        rw [← hbe]; try rfl
      · have p1 : decide ((i : Int) < (n : Int)) = false := by simp; omega
        have hbe : b = false := by
          have := HH.out
          rw [List.getElem?_eq_none (by have := hlen.out; omega)] at this
          exact this
        go_wp2_with fail
        refine bodyPost_ret (results_tmp2 rfl _ _ _) rfl ⟨?_, nwa⟩
        rfl
set_option maxRecDepth 20000 in
set_option maxHeartbeats 4000000 in
theorem value_any (A : Option Addr) (n c : Nat) (l : List (Int × Int)) (k : Int) (w : World) (hr : Rd w 2 A n (pcells l)) (hs : asc l) (hn : n ≤ 1000000) :
    Calls Tryz.prog 65 #[.slice A n c, .int .u64 k] w fun e w' => e = .returned (.tuple #[.int .u64 (valL k l), .bool (hasK k l)]) ∧ Nw w w' := by
  have HB := Lib.hid (fun W (hq : Nw w W) => bsf_any A n c l k W (hr.nw hq) hs hn)
  have hln : l.length = n := by have := hr.1; rw [pcells_len] at this; omega
  have HR := Lib.hid hr
  obtain ⟨v, hv⟩ : ∃ v, v = valL k l := ⟨_, rfl⟩
  have HV := Lib.hid hv
  rw [← hv]
  cases hb : hasK k l with
  | false =>
    rw [hb] at HB
    have hv0 : v = 0 := by rw [hv]; exact val_not hb
    subst hv0
    obtain ⟨P, hP⟩ : ∃ P, P = pos k l := ⟨_, rfl⟩
    rw [← hP] at HB
    clear hr hs hln hb hP hv
    go_enter Tryz.func65, Tryz.ntmps65
    go_wp2_with fail
    refine (HB.out _ nwa).mono ?_
    rintro e w' ⟨rfl, dW, rfl⟩
    go_wp2
    exact bodyPost_ret (results_tmp2 rfl _ _ _) rfl ⟨rfl, nwa⟩
  | true =>
    rw [hb] at HB
    have hx : l[pos k l]? = some (k, v) := by
      refine get_at k l v ?_
      rw [get_val, hb, hv]; rfl
    obtain ⟨P, hP⟩ : ∃ P, P = pos k l := ⟨_, rfl⟩
    rw [← hP] at HB hx
    have hPn : P < n := by have := (List.getElem?_eq_some_iff.1 hx).1; omega
    obtain ⟨ga, oa, rfl, hga, hca⟩ := HR.out.2 (by omega)
    haveI : In ga w := ⟨hga⟩
    obtain ⟨-, g1⟩ := pcells_get l P _ hx
    have a1 : w.cell? ⟨ga, oa + P * 2 + 1, none⟩ = some (.int .u64 v) := by have := hca _ _ g1; rw [← Nat.add_assoc] at this; exact this
    have p1 : (P : Int) < (n : Int) := by omega
    have p2 : P < 1000000 := by omega
    clear hr hs hln hb hP hv hx hca g1
    go_enter Tryz.func65, Tryz.ntmps65
    go_wp2_with fail
    refine (HB.out _ nwa).mono ?_
    rintro e w' ⟨rfl, dW, rfl⟩
    go_wp2
    exact bodyPost_ret (results_tmp2 rfl _ _ _) rfl ⟨rfl, nwa⟩
end Go.Proofs.YtkikdpdainmlcaaGreat
namespace Go.Proofs.YtkikdpdainmlcaaGreat
open Go.RowKit Go.Xt
/-! Calls, ints and rows behind changes of some blocks; append behind them. -/
theorem Chg.le {X Y : List Nat} {a b : World} (h : Chg X a b) (hs : ∀ k ∈ X, k ∈ Y) : Chg Y a b := ⟨h.os, h.tape, h.output, h.size, fun k hk hx => h.block k hk fun e => hx (hs k e)⟩
theorem AtC.chg {w w' : World} {b o : Nat} {c : Cl} {X : List Nat} (h : AtC w b o c) (hc : Chg X w w') (hbx : b ∉ X) : AtC w' b o c := by
  simp only [AtC] at h ⊢
  obtain ⟨c0, c1, c2, c3, c4, c5, c6, c7, c8, c9, c10, c11, c12, c13, c14, c15, c16, c17⟩ := h
  exact ⟨hc.cell c0 hbx, hc.cell c1 hbx, hc.cell c2 hbx, hc.cell c3 hbx, hc.cell c4 hbx, hc.cell c5 hbx, hc.cell c6 hbx, hc.cell c7 hbx, hc.cell c8 hbx, hc.cell c9 hbx, hc.cell c10 hbx, hc.cell c11 hbx, hc.cell c12 hbx, hc.cell c13 hbx, hc.cell c14 hbx, hc.cell c15 hbx, hc.cell c16 hbx, hc.cell c17 hbx⟩
theorem Cs.chg {w w' : World} {A : Option Addr} {n : Nat} {l : List Cl} {X : List Nat} (h : Cs w A n l) (hc : Chg X w w') (hx : ∀ b o, A = some ⟨b, o, none⟩ → b ∉ X) : Cs w' A n l :=
  ⟨h.1, fun hn => by
    obtain ⟨b, o, rfl, hb, hcl⟩ := h.2 hn
    exact ⟨b, o, rfl, Nat.lt_of_lt_of_le hb hc.size, fun i c hi => (hcl i c hi).chg hc (hx b o rfl)⟩⟩
theorem Is.chg {w w' : World} {A : Option Addr} {n : Nat} {l : List Int} {X : List Nat} (h : Is w A n l) (hc : Chg X w w') (hx : ∀ b o, A = some ⟨b, o, none⟩ → b ∉ X) : Is w' A n l :=
  ⟨h.1, fun hn => by
    obtain ⟨b, o, rfl, hb, hcl⟩ := h.2 hn
    exact ⟨b, o, rfl, Nat.lt_of_lt_of_le hb hc.size, fun i c hi => hc.cell (hcl i c hi) (hx b o rfl)⟩⟩
theorem OwnI.chg {w w' : World} {base : Nat} {v : Value} {l : List Int} {X : List Nat} (h : OwnI w base v l) (hc : Chg X w w') (hx : ∀ g, v.ownBlock = some g → g ∉ X) : OwnI w' base v l := own_chg h hc hx
theorem wpList_appC {P : Program} {ops : Array Oper} {rest : List Oper} {o : Oper} {a : Act} {Q : Exit → Act → World → Prop} (hgd : o.guard = none) (s x : Operand) (t : TypeId)
    (ho : o.op = .call { callee := .builtin .append, args := #[s, x], argTypes := #[t, t] })
    (e : TypeId) (z : Value) (size bytes : Nat) (ht : P.underlying t = some (.slice e)) (hi : (P.info? e).map (fun i => (i.zero, i.size, i.bytes)) = some (some z, size, bytes)) (hzs : z.cells.size = size) (hsz : 0 < size)
    (base : Nat) (w' : World) (hb : base ≤ w'.heap.size) (v : Value) (n : Nat) (xs : List Value) (hs : a.eval s = v) (hown : w'.ownsRow base e size v n xs)
    (g m c : Nat) (te : TypeId) (news : List Value) (hx : a.eval x = .slice (some ⟨g, 0, none⟩) m c) (hg : g = w'.heap.size) (hl : news.length = m * size) (h1 : ∀ u ∈ news, u.oneCell' = true)
    (h63 : n + m ≤ maxLen) (hbytes : (n + m) * bytes ≤ 140737488355328)
    (h : ∀ v' w1, w1.ownsRow base e size v' (n + m) (xs ++ news) → Chg v.ownBlock.toList w' w1 → (∀ k, v'.ownBlock = some k → v.ownBlock = some k ∨ w'.heap.size ≤ k) → wpList P ops Q rest (a.put o.dst v') w1) :
    wpList P ops Q (o :: rest) a (w'.alloc (.cells news.toArray te)) := by
  obtain ⟨i, hi1, hz0, hz1, hz2⟩ := info_parts hi
  refine wpList_append_own_at _ hgd s x t ho base e i z size bytes ht hi1 hz0 hz1 hz2 hzs hsz v n xs hs (hown.alloc _) ⟨g, 0, none⟩ m c news hx hl (new_cells hg news) h1 h63 hbytes (by simp; omega) ?_
  intro v' w1 hown' hgrow _ hmv
  refine h v' w1 hown' ?_ fun k hk => ?_
  · have h2 : Chg v.ownBlock.toList (w'.alloc (.cells news.toArray te)) w1 := ⟨hgrow.os, hgrow.tape, hgrow.output, hgrow.size, fun k hk hx => hgrow.block k hk fun e => hx (by rw [← e]; simp)⟩
    exact (Chg.of_nw ((Nw.refl w').alloc _)).trans h2
  · rcases hmv with e | e
    · left; rw [← e]; exact hk
    · right; rw [hk] at e; injection e with e; simp at e; omega
end Go.Proofs.YtkikdpdainmlcaaGreat
namespace Go.Proofs.YtkikdpdainmlcaaGreat
open Go.RowKit Go.Xt
/-! The maps of a history in memory; the closure that puts one to them. -/
theorem staInfo : (Tryz.prog.info? 92).map (fun i => (i.zero, i.size, i.bytes)) = some (some (.agg #[.int .i64 0, .slice none 0 0]), 2, 32) := by kernel_rfl
def stcs (zs : List (Int × Value)) : List Value := zs.flatMap fun z => [.int .i64 z.1, z.2]
theorem stcs_app (a b : List (Int × Value)) : stcs (a ++ b) = stcs a ++ stcs b := List.flatMap_append
theorem stcs_get : ∀ (l : List (Int × Value)) (i : Nat) (x : Int × Value), l[i]? = some x → (stcs l)[i * 2]? = some (.int .i64 x.1) ∧ (stcs l)[i * 2 + 1]? = some x.2
  | [], i, x, h => by simp at h
  | y :: l, 0, x, h => by simp at h; subst h; exact ⟨rfl, rfl⟩
  | y :: l, i + 1, x, h => by
    have h2 := stcs_get l i x (by simpa using h)
    have e : ∀ j, (stcs (y :: l))[(i + 1) * 2 + j]? = (stcs l)[i * 2 + j]? := fun j => by
      rw [show (i + 1) * 2 + j = (i * 2 + j) + 2 by omega]; rfl
    exact ⟨(e 0).trans h2.1, (e 1).trans h2.2⟩
structure OkP (l : List (Int × Int)) : Prop where
  asc_ : asc l
  len : l.length ≤ 500000
structure Sts (W : World) (base : Nat) (v : Value) (zs : List (Int × Value)) (out : List Sta) : Prop where
  row : W.ownsRow base 92 2 v zs.length (stcs zs)
  len : zs.length = out.length
  el : ∀ (i : Nat) (z : Int × Value) (s : Sta), zs[i]? = some z → out[i]? = some s → z.1 = s.1 ∧ W.ownsRow base 51 2 z.2 s.2.length (pcells s.2)
  ok : ∀ s ∈ out, OkP s.2
theorem Sts.nw {W W' : World} {base : Nat} {v : Value} {zs : List (Int × Value)} {out : List Sta} (h : Sts W base v zs out) (hn : Nw W W') : Sts W' base v zs out :=
  ⟨own_nw h.row hn, h.len, fun i z s hz hs => ⟨(h.el i z s hz hs).1, own_nw (h.el i z s hz hs).2 hn⟩, h.ok⟩
structure SmA (w : World) (ob : Nat) (p : Pl) (s : Md) (N : Nat) (v : Value) (zs : List (Int × Value)) (out : List Sta) (W : World) : Prop where
  ms : MW W p s N
  ft : ∀ g ∈ p.foot, w.heap.size ≤ g ∧ g ≠ ob
  nw : Nw w W
  obw : w.heap.size ≤ ob
  c0 : W.cell? ⟨ob, 0, none⟩ = some v
  z0 : W.frozen? ⟨ob, 0, none⟩ = false
  sts : Sts W w.heap.size v zs out
  rv : ∀ g, v.ownBlock = some g → g ∉ p.foot ∧ g ≠ ob
  pv : ∀ z ∈ zs, ∀ g, z.2.ownBlock = some g → g ∉ p.foot ∧ g ≠ ob ∧ v.ownBlock ≠ some g
theorem SmA.lt {w : World} {ob : Nat} {p : Pl} {s : Md} {N : Nat} {v : Value} {zs : List (Int × Value)} {out : List Sta} {W : World} (h : SmA w ob p s N v zs out W) {z : Int × Value} (hz : z ∈ zs) {g : Nat} (hg : z.2.ownBlock = some g) : g < W.heap.size := by
  obtain ⟨i, hi⟩ := List.mem_iff_getElem?.1 hz
  have hil : i < out.length := by rw [← h.sts.len]; exact (List.getElem?_eq_some_iff.1 hi).1
  exact ((h.sts.el i z _ hi (List.getElem?_eq_getElem hil)).2.lt g hg).2
theorem SmA.grow {w : World} {ob : Nat} {p : Pl} {s : Md} {N : Nat} {v : Value} {zs : List (Int × Value)} {out : List Sta} {W W' : World} (h : SmA w ob p s N v zs out W) (hn : Nw W W') : SmA w ob p s N v zs out W' :=
  ⟨h.ms.nw hn, h.ft, h.nw.trans hn, h.obw, cell_nw h.c0 hn, (frozen_nw (World.block_lt_of_cell? W _ h.c0) hn).trans h.z0, h.sts.nw hn, h.rv, h.pv⟩
theorem SmA.up {w : World} {ob : Nat} {p p' : Pl} {s s' : Md} {N N' : Nat} {v : Value} {zs : List (Int × Value)} {out : List Sta} {W W' : World} (h : SmA w ob p s N v zs out W) (hu : MUp W p s' p' W') (hm : MW W' p' s' N') : SmA w ob p' s' N' v zs out W' := by
  have hob : ob < W.heap.size := World.block_lt_of_cell? W _ h.c0
  have hobp : ob ∉ p.foot := fun e => (h.ft ob e).2 rfl
  refine ⟨hm, fun g hg => ?_, nw_chg2 h.nw hu.chg (fun k hk => (h.ft k hk).1), h.obw, hu.chg.cell h.c0 hobp, (hu.chg.frozen hob hobp).trans h.z0, ⟨own_chg h.sts.row hu.chg (fun g hg => (h.rv g hg).1), h.sts.len, fun i z s hz hs => ⟨(h.sts.el i z s hz hs).1, own_chg (h.sts.el i z s hz hs).2 hu.chg (fun g hg => (h.pv z (List.mem_of_getElem? hz) g hg).1)⟩, h.sts.ok⟩, fun g hg => ?_, fun z hz g hg => ?_⟩
  · rcases hu.mv g hg with e | e
    · exact h.ft g e
    · exact ⟨Nat.le_trans h.nw.grown.size e, by rintro rfl; omega⟩
  · refine ⟨fun e => ?_, (h.rv g hg).2⟩
    rcases hu.mv g e with e2 | e2
    · exact (h.rv g hg).1 e2
    · have := (h.sts.row.lt g hg).2; omega
  · refine ⟨fun e => ?_, (h.pv z hz g hg).2⟩
    rcases hu.mv g e with e2 | e2
    · exact (h.pv z hz g hg).1 e2
    · have := h.lt hz hg; omega
theorem SmA.push {w : World} {ob : Nat} {p : Pl} {s : Md} {N : Nat} {v v2 : Value} {zs : List (Int × Value)} {out : List Sta} {W W1 wA : World} {st : Int} {pv : Value} (h : SmA w ob p s N v zs out W) (hN : N ≤ 500000) (hn : Nw W W1) (hp : W1.ownsRow W.heap.size 51 2 pv s.l.length (pcells s.l))
    (hrow : wA.ownsRow w.heap.size 92 2 v2 (zs ++ [(st, pv)]).length (stcs (zs ++ [(st, pv)]))) (hc : Chg v.ownBlock.toList W1 wA) (hmv : ∀ k, v2.ownBlock = some k → v.ownBlock = some k ∨ W1.heap.size ≤ k) :
    SmA w ob p s N v2 (zs ++ [(st, pv)]) (out ++ [(st, s.l)]) (wA.setCell ⟨ob, 0, none⟩ v2) := by
  have h1 := h.grow hn
  have hob : ob < W1.heap.size := World.block_lt_of_cell? W1 _ h1.c0
  have hobW : ob < W.heap.size := World.block_lt_of_cell? W _ h.c0
  have hobv : ob ∉ v.ownBlock.toList := fun e => by rw [Option.mem_toList] at e; exact (h1.rv ob e).2 rfl
  have hWs := h.nw.grown.size
  have hpl : ∀ g, pv.ownBlock = some g → W.heap.size ≤ g ∧ g < W1.heap.size := fun g hg => hp.lt g hg
  have hvl : ∀ g, v.ownBlock = some g → g < W.heap.size := fun g hg => (h.sts.row.lt g hg).2
  have hpA : wA.ownsRow W.heap.size 51 2 pv s.l.length (pcells s.l) := own_chg hp hc (fun g hg e => by
    rw [Option.mem_toList] at e; have := hvl g e; have := (hpl g hg).1; omega)
  have hset : Chg [ob] wA (wA.setCell ⟨ob, 0, none⟩ v2) := Chg.set1 wA ob 0 _
  have hv2 : ∀ g, v2.ownBlock = some g → g ∉ p.foot ∧ g ≠ ob ∧ pv.ownBlock ≠ some g ∧ ∀ z ∈ zs, z.2.ownBlock ≠ some g := fun g hg => by
    rcases hmv g hg with e | e
    · refine ⟨(h.rv g e).1, (h.rv g e).2, fun e2 => ?_, fun z hz e2 => (h.pv z hz g e2).2.2 e⟩
      have := hvl g e; have := (hpl g e2).1; omega
    · refine ⟨fun e2 => ?_, by rintro rfl; omega, fun e2 => ?_, fun z hz e2 => ?_⟩
      · have := h1.ms.at_.lt e2; omega
      · have := (hpl g e2).2; omega
      · have := h1.lt hz e2; omega
  have hc0 : wA.cell? ⟨ob, 0, none⟩ = some v := hc.cell h1.c0 hobv
  refine ⟨⟨(h1.ms.at_.chg hc (fun g hg e => by rw [Option.mem_toList] at e; exact (h.rv g e).1 hg)).chg hset (fun g hg e => (h.ft g hg).2 (by simpa using e)), h.ms.ok, h.ms.pos⟩, h.ft, ?_, h.obw, World.cell?_setCell_same' _ _ _ (by rw [hc0]; rfl), (World.frozen?_setCell ..).trans ((hc.frozen hob hobv).trans h1.z0), ⟨own_chg hrow hset (fun g hg e => (hv2 g hg).2.1 (by simpa using e)), by simp [h.sts.len], fun i z t hz ht => ?_, fun t ht => ?_⟩, fun g hg => ⟨(hv2 g hg).1, (hv2 g hg).2.1⟩, fun z hz g hg => ?_⟩
  · exact nw_chg2 (nw_chg2 h1.nw hc (fun k hk => by rw [Option.mem_toList] at hk; exact (h.sts.row.lt k hk).1)) hset (fun k hk => by simp at hk; rw [hk]; exact h.obw)
  · by_cases hi : i < zs.length
    · rw [List.getElem?_append_left hi] at hz
      rw [List.getElem?_append_left (by rw [← h.sts.len]; exact hi)] at ht
      have h2 := h1.sts.el i z t hz ht
      have hm := List.mem_of_getElem? hz
      exact ⟨h2.1, own_chg (own_chg h2.2 hc (fun g hg e => by rw [Option.mem_toList] at e; exact (h.pv z hm g hg).2.2 e)) hset (fun g hg e => (h.pv z hm g hg).2.1 (by simpa using e))⟩
    · rw [List.getElem?_append_right (by omega)] at hz
      rw [List.getElem?_append_right (by rw [← h.sts.len]; omega)] at ht
      have hiz : i - zs.length = 0 := by
        have := (List.getElem?_eq_some_iff.1 hz).1
        simp at this; omega
      rw [hiz] at hz
      rw [← h.sts.len, hiz] at ht
      simp at hz ht
      subst hz ht
      refine ⟨rfl, own_le (own_chg hpA hset (fun g hg e => ?_)) hWs⟩
      have := (hpl g hg).1
      simp at e; omega
  · rcases List.mem_append.1 ht with e | e
    · exact h.sts.ok t e
    · simp at e; subst e
      exact ⟨h.ms.ok.asc, Nat.le_trans h.ms.ok.len hN⟩
  · rcases List.mem_append.1 hz with e | e
    · exact ⟨(h.pv z e g hg).1, (h.pv z e g hg).2.1, fun e2 => (hv2 g e2).2.2.2 z e hg⟩
    · simp at e; subst e
      have h3 := (hpl g hg).1
      refine ⟨fun e2 => ?_, by rintro rfl; omega, fun e2 => (hv2 g e2).2.2.1 hg⟩
      have := h.ms.at_.lt e2; omega
theorem own_rd {W : World} {base : Nat} {e : TypeId} {size : Nat} {A : Option Addr} {n c : Nat} {xs : List Value} (h : W.ownsRow base e size (.slice A n c) n xs) : Rd W size A n xs := by
  refine ⟨h.1, fun hn => ?_⟩
  rcases h.2 with ⟨h1, h2⟩ | ⟨g, cap, cur, h1, h2, h3, h4, h5, h6, h7⟩
  · omega
  · injection h1 with h1 _ _
    refine ⟨g, 0, h1, (Array.getElem?_eq_some_iff.1 h3).1, fun j u hu => ?_⟩
    subst h1
    have hj := (List.getElem?_eq_some_iff.1 hu).1
    rw [h.1] at hj
    rw [Nat.zero_add, h.cellAt j hj]; exact hu
theorem putS_nil (st : Int) (l : List (Int × Int)) : putS [] st l = [(st, l)] := rfl
theorem putS_same {out : List Sta} {st : Int} {l : List (Int × Int)} {t : Sta} (h : out.getLast? = some t) (e : t.2 = l) : putS out st l = out := by unfold putS; rw [h]; simp [e]
theorem putS_new {out : List Sta} {st : Int} {l : List (Int × Int)} {t : Sta} (h : out.getLast? = some t) (e : t.2 ≠ l) : putS out st l = out ++ [(st, l)] := by unfold putS; rw [h]; simp [e]
def PutP (w : World) (ob : Nat) (p : Pl) (s : Md) (N : Nat) (v : Value) (W : World) (out : List Sta) (e : Ending) (W' : World) : Prop := e = .returned (.tuple #[]) ∧ ∃ v' zs', SmA w ob p s N v' zs' out W' ∧ Chg (ob :: v.ownBlock.toList) W W' ∧ ∀ k, v'.ownBlock = some k → v.ownBlock = some k ∨ W.heap.size ≤ k
set_option maxRecDepth 20000 in
set_option maxHeartbeats 8000000 in
theorem wput_new (w : World) (ob : Nat) (p : Pl) (s : Md) (N : Nat) (v : Value) (zs : List (Int × Value)) (out : List Sta) (W : World) (h : SmA w ob p s N v zs out W) (hN : N ≤ 500000) (ho : out.length ≤ 500000) (st : Int) (hne : out = [] ∨ ∃ t, out.getLast? = some t ∧ t.2 ≠ s.l) :
    Calls Tryz.prog 60 #[.int .i64 st, .pointer (some ⟨p.gm, 0, none⟩), .pointer (some ⟨ob, 0, none⟩)] W (PutP w ob p s N v W (out ++ [(st, s.l)])) := by
  have HP := Lib.hid (pairs_M W p s h.ms.at_ (by have := h.ms.ok.len; omega))
  obtain ⟨n, hn⟩ : ∃ n, n = zs.length := ⟨_, rfl⟩
  obtain ⟨A, c, rfl⟩ := own_slice h.sts.row
  have hzn : n ≤ 500000 := by rw [hn, h.sts.len]; exact ho
  obtain ⟨ln, hln⟩ : ∃ k, k = s.l.length := ⟨_, rfl⟩
  have hl5 : ln ≤ 500000 := by rw [hln]; exact Nat.le_trans h.ms.ok.len hN
  obtain ⟨gm, hgm⟩ : ∃ g, g = p.gm := ⟨_, rfl⟩
  rw [← hgm, ← hln] at HP
  rw [← hgm]
  haveI : In gm W := ⟨hgm ▸ h.ms.at_.im⟩
  have HS := Lib.hid h
  have HN := Lib.hid hn
  have HNN := Lib.hid hN
  have HLN := Lib.hid hln
  have hob : ob < W.heap.size := World.block_lt_of_cell? W _ h.c0
  haveI : In ob W := ⟨hob⟩
  have hdec : n = 0 ∨ ∃ (m : Nat) (z : Int × Value) (t : Sta), n = m + 1 ∧ zs[m]? = some z ∧ out[m]? = some t ∧ t.2 ≠ s.l := by
    rcases hne with e | ⟨t, ht, hts⟩
    · left; rw [hn, h.sts.len, e]; rfl
    · right
      rw [List.getLast?_eq_getElem?] at ht
      have h0 := (List.getElem?_eq_some_iff.1 ht).1
      have hz : out.length - 1 < zs.length := by rw [h.sts.len]; exact h0
      exact ⟨out.length - 1, _, t, by rw [hn, h.sts.len]; omega, List.getElem?_eq_getElem hz, ht, hts⟩
  clear hgm hn hN hne h hob ho hln
  go_enter Tryz.func60, Tryz.ntmps60
  go_wp2_with fail
  refine HP.out.mono ?_
  rintro e W1 ⟨pv, rfl, hown, hn1⟩
  obtain ⟨Ap, cp, rfl⟩ := own_slice hown
  have h1 := HS.out.grow hn1
  have c0 := h1.c0
  have z0 := h1.z0
  have hrow := h1.sts.row
  have hwW := h1.nw.grown.size
  rw [← HN.out] at c0 hrow
  haveI : In ob W1 := ⟨World.block_lt_of_cell? W1 _ c0⟩
  have H1 := Lib.hid h1
  have HOWN := Lib.hid hown
  have HN1 := Lib.hid hn1
  have HROW := Lib.hid hrow
  have HWW := Lib.hid hwW
  have hov : ob ∉ (Value.slice A n c).ownBlock.toList := fun e => by
    rw [Option.mem_toList] at e
    exact (h1.rv ob (by rw [← HN.out]; exact e)).2 rfl
  have HOV := Lib.hid hov
  rcases hdec with rfl | ⟨m, z, t, rfl, hz, ht, hts⟩
  · clear h1 hown hn1 hrow hwW hov
    go_wp2_with (at_builtin; refine wpList_appC rfl _ _ 88 rfl 92 (.agg #[.int .i64 0, .slice none 0 0]) 2 32 Tryz.underlying88 staInfo rfl (by decide) w.heap.size W1 HWW.out (.slice A 0 c) 0 _ rfl HROW.out _ 1 1 _ [.int .i64 st, .slice Ap ln cp] rfl rfl rfl (by intro u hu; simp at hu; rcases hu with rfl | rfl <;> rfl) (by unfold maxLen; omega) (by omega) ?_; intro v2 wA hA hcA hmA; obtain ⟨A2, c2, rfl⟩ := own_slice hA; have j0 := hcA.cell c0 HOV.out; have jz := (hcA.frozen (World.block_lt_of_cell? W1 _ c0) HOV.out).trans z0; haveI : In ob wA := ⟨World.block_lt_of_cell? wA _ j0⟩; have HA := Lib.hid hA; have HCA := Lib.hid hcA; have HMA := Lib.hid hmA; clear hA hcA hmA)
    go_end0
    refine ⟨rfl, _, zs ++ [(st, .slice Ap ln cp)], HS.out.push HNN.out HN1.out (by rw [← HLN.out]; exact HOWN.out) ?_ (by rw [← HN.out]; exact HCA.out) (by rw [← HN.out]; exact HMA.out), ?_, ?_⟩
    · have := HA.out
      rw [List.length_append, ← HN.out, stcs_app]
      exact this
    · rw [← HN.out]
      exact ((Chg.of_nw HN1.out).trans (HCA.out.le (fun k hk => List.mem_cons_of_mem _ hk))).trans ((Chg.set1 _ ob 0 _).le (fun k hk => by simp at hk; rw [hk]; exact List.mem_cons_self))
    · intro k hk
      rw [← HN.out]
      exact (HMA.out k hk).imp id fun h => Nat.le_trans HN1.out.grown.size h
  · have hrd := own_rd hrow
    obtain ⟨g, o, rfl, hg, hcl⟩ := hrd.2 (by omega)
    haveI : In g W1 := ⟨hg⟩
    obtain ⟨-, k1⟩ := stcs_get zs m z hz
    have a1 : W1.cell? ⟨g, o + m * 2 + 1, none⟩ = some z.2 := by have := hcl _ _ k1; rw [← Nat.add_assoc] at this; exact this
    have hel := (h1.sts.el m z t hz ht).2
    have hokt := h1.sts.ok t (List.mem_of_getElem? ht)
    obtain ⟨At, ct, hzt⟩ := own_slice hel
    rw [hzt] at hel a1
    have HEL := Lib.hid (own_rd hel)
    obtain ⟨lt, hlt⟩ : ∃ k, k = t.2.length := ⟨_, rfl⟩
    rw [← hlt] at a1 HEL
    have hlt5 : lt ≤ 500000 := by rw [hlt]; exact hokt.len
    have HTS := Lib.hid hts
    have hPd := Lib.hid (own_rd hown)
    have q1 : (m : Int) < (m : Int) + 1 := by omega
    have q2 : wrap64 ((m : Int) + 1 - 1) = (m : Int) := by unfold wrap64; omega
    have q3 : IntKind.i64.wrap ((m : Int) + 1 - 1) = (m : Int) := by rw [IntKind.wrap_i64] <;> omega
    clear h1 hown hn1 hrow hwW hov hrd hcl hz ht hts k1 hel hokt hzt hlt hg
    go_wp2_with fail
    refine (slEq_any At Ap lt ln ct cp t.2 s.l W1 HEL.out hPd.out (by omega) (by omega)).mono ?_
    rw [decide_eq_false HTS.out]
    rintro e w' ⟨rfl, dW, rfl⟩
    go_wp2_with (at_builtin; refine wpList_appC rfl _ _ 88 rfl 92 (.agg #[.int .i64 0, .slice none 0 0]) 2 32 Tryz.underlying88 staInfo rfl (by decide) w.heap.size (W1.ext none dW) (Nat.le_trans HWW.out (le_size _ _ _)) (.slice (some ⟨g, o, none⟩) (m + 1) c) (m + 1) _ rfl (own_nw HROW.out ⟨dW, rfl⟩) _ 1 1 _ [.int .i64 st, .slice Ap ln cp] rfl rfl rfl (by intro u hu; simp at hu; rcases hu with rfl | rfl <;> rfl) (by unfold maxLen; omega) (by omega) ?_; intro v2 wA hA hcA hmA; obtain ⟨A2, c2, rfl⟩ := own_slice hA; have hnd : Nw W1 (W1.ext none dW) := ⟨dW, rfl⟩; have c02 := cell_nw c0 hnd; have j0 := hcA.cell c02 HOV.out; have jz := (hcA.frozen (World.block_lt_of_cell? _ _ c02) HOV.out).trans ((frozen_nw (World.block_lt_of_cell? W1 _ c0) hnd).trans z0); haveI : In ob wA := ⟨World.block_lt_of_cell? wA _ j0⟩; have HA := Lib.hid hA; have HCA := Lib.hid hcA; have HMA := Lib.hid hmA; have HND := Lib.hid hnd; clear hA hcA hmA hnd c02)
    go_end0
    refine ⟨rfl, _, zs ++ [(st, .slice Ap ln cp)], HS.out.push HNN.out (HN1.out.trans HND.out) (by rw [← HLN.out]; exact own_nw HOWN.out HND.out) ?_ (by rw [← HN.out]; exact HCA.out) (by rw [← HN.out]; exact HMA.out), ?_, ?_⟩
    · have := HA.out
      rw [List.length_append, ← HN.out, stcs_app]
      exact this
    · rw [← HN.out]
      exact ((Chg.of_nw (HN1.out.trans HND.out)).trans (HCA.out.le (fun k hk => List.mem_cons_of_mem _ hk))).trans ((Chg.set1 _ ob 0 _).le (fun k hk => by simp at hk; rw [hk]; exact List.mem_cons_self))
    · intro k hk
      rw [← HN.out]
      exact (HMA.out k hk).imp id fun h => Nat.le_trans (HN1.out.trans HND.out).grown.size h
set_option maxRecDepth 20000 in
set_option maxHeartbeats 8000000 in
theorem wput_same (w : World) (ob : Nat) (p : Pl) (s : Md) (N : Nat) (v : Value) (zs : List (Int × Value)) (out : List Sta) (W : World) (h : SmA w ob p s N v zs out W) (hN : N ≤ 500000) (ho : out.length ≤ 500000) (st : Int) (t : Sta) (ht0 : out.getLast? = some t) (hts : t.2 = s.l) :
    Calls Tryz.prog 60 #[.int .i64 st, .pointer (some ⟨p.gm, 0, none⟩), .pointer (some ⟨ob, 0, none⟩)] W (PutP w ob p s N v W out) := by
  have HP := Lib.hid (pairs_M W p s h.ms.at_ (by have := h.ms.ok.len; omega))
  obtain ⟨n, hn⟩ : ∃ n, n = zs.length := ⟨_, rfl⟩
  obtain ⟨A, c, rfl⟩ := own_slice h.sts.row
  have hzn : n ≤ 500000 := by rw [hn, h.sts.len]; exact ho
  obtain ⟨ln, hln⟩ : ∃ k, k = s.l.length := ⟨_, rfl⟩
  have hl5 : ln ≤ 500000 := by rw [hln]; exact Nat.le_trans h.ms.ok.len hN
  obtain ⟨gm, hgm⟩ : ∃ g, g = p.gm := ⟨_, rfl⟩
  rw [← hgm, ← hln] at HP
  rw [← hgm]
  haveI : In gm W := ⟨hgm ▸ h.ms.at_.im⟩
  have HS := Lib.hid h
  have HN := Lib.hid hn
  have hob : ob < W.heap.size := World.block_lt_of_cell? W _ h.c0
  haveI : In ob W := ⟨hob⟩
  obtain ⟨m, z, rfl, hz, ht⟩ : ∃ (m : Nat) (z : Int × Value), n = m + 1 ∧ zs[m]? = some z ∧ out[m]? = some t := by
    rw [List.getLast?_eq_getElem?] at ht0
    have h0 := (List.getElem?_eq_some_iff.1 ht0).1
    have hz : out.length - 1 < zs.length := by rw [h.sts.len]; exact h0
    exact ⟨out.length - 1, _, by rw [hn, h.sts.len]; omega, List.getElem?_eq_getElem hz, ht0⟩
  clear hgm hn hN h hob ho hln ht0
  go_enter Tryz.func60, Tryz.ntmps60
  go_wp2_with fail
  refine HP.out.mono ?_
  rintro e W1 ⟨pv, rfl, hown, hn1⟩
  obtain ⟨Ap, cp, rfl⟩ := own_slice hown
  have h1 := HS.out.grow hn1
  have c0 := h1.c0
  have hrow := h1.sts.row
  rw [← HN.out] at c0 hrow
  haveI : In ob W1 := ⟨World.block_lt_of_cell? W1 _ c0⟩
  have H1 := Lib.hid h1
  have HN1 := Lib.hid hn1
  have hrd := own_rd hrow
  obtain ⟨g, o, rfl, hg, hcl⟩ := hrd.2 (by omega)
  haveI : In g W1 := ⟨hg⟩
  obtain ⟨-, k1⟩ := stcs_get zs m z hz
  have a1 : W1.cell? ⟨g, o + m * 2 + 1, none⟩ = some z.2 := by have := hcl _ _ k1; rw [← Nat.add_assoc] at this; exact this
  have hel := (h1.sts.el m z t hz ht).2
  have hokt := h1.sts.ok t (List.mem_of_getElem? ht)
  obtain ⟨At, ct, hzt⟩ := own_slice hel
  rw [hzt] at hel a1
  have HEL := Lib.hid (own_rd hel)
  obtain ⟨lt, hlt⟩ : ∃ k, k = t.2.length := ⟨_, rfl⟩
  rw [← hlt] at a1 HEL
  have hlt5 : lt ≤ 500000 := by rw [hlt]; exact hokt.len
  have HTS := Lib.hid hts
  have hPd := Lib.hid (own_rd hown)
  have q1 : (m : Int) < (m : Int) + 1 := by omega
  have q2 : wrap64 ((m : Int) + 1 - 1) = (m : Int) := by unfold wrap64; omega
  have q3 : IntKind.i64.wrap ((m : Int) + 1 - 1) = (m : Int) := by rw [IntKind.wrap_i64] <;> omega
  clear h1 hown hn1 hrow hrd hcl hz ht hts k1 hel hokt hzt hlt hg
  go_wp2_with (go_at_call 55; refine (slEq_any At Ap lt ln ct cp t.2 s.l W1 HEL.out hPd.out (by omega) (by omega)).mono ?_; rw [decide_eq_true HTS.out]; rintro e w' ⟨rfl, dW, rfl⟩)
  go_end0
  exact ⟨rfl, _, zs, H1.out.grow nwa, Chg.of_nw (HN1.out.trans nwa), fun k hk => .inl hk⟩
theorem wput_any (w : World) (ob : Nat) (p : Pl) (s : Md) (N : Nat) (v : Value) (zs : List (Int × Value)) (out : List Sta) (W : World) (h : SmA w ob p s N v zs out W) (hN : N ≤ 500000) (ho : out.length ≤ 500000) (st : Int) :
    Calls Tryz.prog 60 #[.int .i64 st, .pointer (some ⟨p.gm, 0, none⟩), .pointer (some ⟨ob, 0, none⟩)] W (PutP w ob p s N v W (putS out st s.l)) := by
  cases ht : out.getLast? with
  | none =>
    have e : out = [] := List.getLast?_eq_none_iff.1 ht
    have := wput_new w ob p s N v zs out W h hN ho st (.inl e)
    rw [e] at this ⊢
    exact this
  | some t =>
    by_cases e : t.2 = s.l
    · rw [putS_same ht e]; exact wput_same w ob p s N v zs out W h hN ho st t ht e
    · rw [putS_new ht e]; exact wput_new w ob p s N v zs out W h hN ho st (.inr ⟨t, ht, e⟩)
end Go.Proofs.YtkikdpdainmlcaaGreat
namespace Go.Proofs.YtkikdpdainmlcaaGreat
open Go.RowKit Go.Xt
/-! The reference's New at any configuration. -/
theorem sizeConf : (Tryz.prog.info? 27).map (·.size) = some 16 := by kernel_rfl
class ConfAt (w : World) (b : Nat) (c : outParam Cf) : Prop where
  at_ : ∀ i v, (ccells c)[i]? = some v → w.cell? ⟨b, i, none⟩ = some v
  lt : b < w.heap.size
theorem ConfAt.nw {w w' : World} {b : Nat} {c : Cf} (h : ConfAt w b c) (hn : Nw w w') : ConfAt w' b c := ⟨fun i v hv => cell_nw (h.at_ i v hv) hn, Nat.lt_of_lt_of_le h.lt hn.grown.size⟩
instance {w d : World} {b : Nat} {c : Cf} [h : ConfAt w b c] : ConfAt (w.ext none d) b c := h.nw ⟨d, rfl⟩
instance {w : World} {b : Nat} {c : Cf} {x : Obj} [h : ConfAt w b c] : ConfAt (w.alloc x) b c := h.nw ((Nw.refl _).alloc _)
instance {w : World} {b : Nat} {c : Cf} [h : ConfAt w b c] : ConfAt w.drew b c := ⟨h.at_, h.lt⟩
instance {w : World} {b n : Nat} {c : Cf} [h : ConfAt w b c] : ConfAt (w.drewN n) b c := ⟨h.at_, h.lt⟩
instance {w d : World} {b : Nat} {c : Cf} [h : ConfAt w b c] : ConfAt (w.reg d) b c := h.nw ⟨d, rfl⟩
def loadConf (p : Value) : Sem Value := Instr.loadAt 27 p
@[go_sem ↓] theorem loadConf_in (p : Value) : Instr.loadAt 27 p = loadConf p := rfl
@[go_sem] theorem run_loadConf {w : World} {b : Nat} {c : Cf} [h : ConfAt w b c] : (loadConf (.pointer (some ⟨b, 0, none⟩))).run Tryz.prog w = .ok (.agg #[.int .i64 c.thr, .int .i64 c.sl, .int .u8 c.eng, .int .i64 c.bk, .int .u8 c.dk, .int .i64 c.dn, .slice c.cA c.cn c.cc, .int .i64 c.t1, .int .i64 c.t2, .int .i64 c.t3, .int .i64 c.t4, .int .i64 c.t5, .int .i64 c.t6, .int .i64 c.lk, .int .i64 c.tr, .int .i64 c.ba]) w :=
  run_loadAt_mid w b 0 27 (ccells c) _ (fun j v hv => by rw [Nat.zero_add]; exact h.at_ j v hv) Tryz.underlying27 rfl sizeConf
end Go.Proofs.YtkikdpdainmlcaaGreat
