import Derived.Test.YtahagplegmcaaaaGreatDoorGVb
import Derived.Maps.AppendAt
import Derived.Test.YtahagplegmcaaaaGreatDoorGPj
set_option linter.unusedVariables false
set_option linter.unusedSimpArgs false
set_option linter.unnecessarySimpa false
namespace Go.Proofs.YtahagplegmcaaaaGreatDoor
open Go.RowKit Go.Xt
/-! The reference's map: cut. -/
/-- append of a few elements just built, beside another row of the call's own. -/
theorem wpList_app2 {P : Program} {ops : Array Oper} {rest : List Oper} {o : Oper} {a : Act} {Q : Exit → Act → World → Prop} (hgd : o.guard = none) (s x : Operand) (t : TypeId)
    (ho : o.op = .call { callee := .builtin .append, args := #[s, x], argTypes := #[t, t] })
    (e : TypeId) (z : Value) (size bytes : Nat) (ht : P.underlying t = some (.slice e)) (hi : (P.info? e).map (fun i => (i.zero, i.size, i.bytes)) = some (some z, size, bytes)) (hzs : z.cells.size = size) (hsz : 0 < size)
    (W0 w' : World) (hW : Nw W0 w') (v : Value) (n : Nat) (xs : List Value) (hs : a.eval s = v) (hown : w'.ownsRow W0.heap.size e size v n xs)
    (v2 : Value) (e2 : TypeId) (size2 n2 : Nat) (xs2 : List Value) (hown2 : w'.ownsRow W0.heap.size e2 size2 v2 n2 xs2) (hd : ∀ g, v.ownBlock = some g → v2.ownBlock ≠ some g)
    (g m c : Nat) (te : TypeId) (news : List Value) (hx : a.eval x = .slice (some ⟨g, 0, none⟩) m c) (hg : g = w'.heap.size) (hl : news.length = m * size) (h1 : ∀ u ∈ news, u.oneCell' = true)
    (h63 : n + m ≤ maxLen) (hbytes : (n + m) * bytes ≤ 140737488355328)
    (h : ∀ v' d', (W0.ext none d').ownsRow W0.heap.size e size v' (n + m) (xs ++ news) → (W0.ext none d').ownsRow W0.heap.size e2 size2 v2 n2 xs2 → (∀ g, v'.ownBlock = some g → v2.ownBlock ≠ some g) → wpList P ops Q rest (a.put o.dst v') (W0.ext none d')) :
    wpList P ops Q (o :: rest) a (w'.alloc (.cells news.toArray te)) := by
  obtain ⟨i, hi1, hz0, hz1, hz2⟩ := info_parts hi
  have hsz' := hW.grown.size
  refine wpList_append_own_at _ hgd s x t ho W0.heap.size e i z size bytes ht hi1 hz0 hz1 hz2 hzs hsz v n xs hs (hown.alloc _) ⟨g, 0, none⟩ m c news hx hl (new_cells hg news) h1 h63 hbytes (by simp; omega) ?_
  intro v' w1 hown' hgrow _ hmv
  have hk2 : w1.ownsRow W0.heap.size e2 size2 v2 n2 xs2 := (hown2.alloc _).kept hgrow (by
    cases hv : v2.ownBlock with
    | none => exact .inl rfl
    | some b => exact .inr (fun e => hd b e.symm hv))
  obtain ⟨d', rfl⟩ : Nw W0 w1 := (hW.alloc _).row hgrow fun k hk => (hown.lt k hk).1
  refine h v' d' hown' hk2 fun b hb hb2 => ?_
  rcases hmv with e | e
  · exact hd b (by rw [← e]; exact hb) hb2
  · rw [hb] at e
    have h3 := (hown2.lt b hb2).2
    injection e with e
    simp at e
    omega
theorem rhas_any (lo hi k : Int) (w : World) :
    Calls Tryz.prog 95 #[.agg #[.int .u64 lo, .int .u64 hi], .int .u64 k] w fun e w' => e = .returned (.bool (decide (lo ≤ k) && decide (k ≤ hi))) ∧ Nw w w' := by
  obtain ⟨b1, h1⟩ : ∃ b1, decide (lo ≤ k) = b1 := ⟨_, rfl⟩
  obtain ⟨b2, h2⟩ : ∃ b2, decide (k ≤ hi) = b2 := ⟨_, rfl⟩
  rw [h1, h2]
  cases b1 <;> cases b2
  all_goals
    go_enter Tryz.func95, Tryz.ntmps95
    go_wp2
    go_ret
    exact ⟨rfl, (by repeat (first | exact Xt.Nw.refl _ | refine Xt.Nw.drew ?_ | refine Xt.Nw.drewN ?_ _ | refine Xt.Nw.alloc ?_ _ | refine Xt.Nw.joined ?_ | refine Xt.Nw.drewd ?_ | refine Xt.Nw.drewdN ?_ | refine Xt.Nw.ext ?_ | refine Xt.Nw.ext_some ?_ (by assumption) | refine Xt.Nw.setCell ?_ (by simp [go_sem] <;> omega) _))⟩
theorem filter_take {α : Type} (p : α → Bool) {l : List α} {i : Nat} {y : α} (h : l[i]? = some y) : (l.take (i + 1)).filter p = (l.take i).filter p ++ (if p y = true then [y] else []) := by
  obtain ⟨q, e⟩ := List.getElem?_eq_some_iff.1 h
  rw [List.take_succ_eq_append_getElem q, e, List.filter_append, List.filter_cons, List.filter_nil]
/-- What cut leaves. -/
def CutP (w : World) (gp : Nat) (v : Value) (lo hi : Int) (l : List (Int × Int)) (e : Ending) (w' : World) : Prop :=
  ∃ A c v', e = .returned (.slice A (inR lo hi l).length c) ∧ w'.ownsRow w.heap.size 106 2 (.slice A (inR lo hi l).length c) (inR lo hi l).length (pcells (inR lo hi l)) ∧ RUpd w gp v (outR lo hi l) v' w' ∧ ∀ g, (Value.slice A (inR lo hi l).length c).ownBlock = some g → v'.ownBlock ≠ some g
set_option maxRecDepth 20000 in
set_option maxHeartbeats 8000000 in
theorem rcut_om {w : World} {gp : Nat} {v : Value} {l : List (Int × Int)} (h : OM w gp v l) (hn : l.length ≤ 1000000) (lo hi : Int) :
    Calls Tryz.prog 67 #[.pointer (some ⟨gp, 0, none⟩), spV lo hi] w (CutP w gp v lo hi l) := by
  unfold spV
  obtain ⟨wB, hwB⟩ : ∃ W, W = w.alloc (.cells #[.int .u64 lo, .int .u64 hi] 71) := ⟨_, rfl⟩
  obtain ⟨q, hq⟩ : ∃ q, q = w.heap.size := ⟨_, rfl⟩
  have hnB : Nw w wB := by rw [hwB]; exact (Nw.refl w).alloc _
  have b0 : wB.cell? ⟨q, 0, none⟩ = some (.int .u64 lo) := by rw [hwB, hq]; simp [go_sem]
  have b1 : wB.cell? ⟨q, 1, none⟩ = some (.int .u64 hi) := by rw [hwB, hq]; simp [go_sem]
  have hB := h.nw hnB
  have p0 := hB.p0
  haveI : In gp w := ⟨h.lt⟩
  haveI : In gp wB := ⟨hB.lt⟩
  haveI : In q wB := ⟨World.block_lt_of_cell? _ _ b0⟩
  obtain ⟨A, c, rfl, hr⟩ := om_rd hB
  have HH := Lib.hid h
  have HB := Lib.hid hB
  have HR := Lib.hid hr
  obtain ⟨n, hne⟩ : ∃ n, n = l.length := ⟨_, rfl⟩
  rw [← hne] at p0 HR hn HH HB ⊢
  have HN := Lib.hid hne
  have HNN := Lib.hid hn
  have HWB := Lib.hid hwB
  have HQ := Lib.hid hq
  have HNB := Lib.hid hnB
  clear h hB hr hne hn hwB hq hnB
  go_enter Tryz.func67, Tryz.ntmps67
  go_upto_region 2 with (fail)
  rw [← HWB.out, ← HQ.out]
  go_wp2_with fail
  go_loopw [5, 6, 7] (fun u z a wr => ∃ i : Nat, i ≤ n ∧ a = .int .i64 i ∧ Nw wB wr ∧ ∃ U, U = u ∧ ∃ Z, Z = z ∧ Hid (Coll wr wB.heap.size U (inR lo hi (l.take i)) ∧ Coll wr wB.heap.size Z (outR lo hi (l.take i)) ∧ ∀ g, U.ownBlock = some g → Z.ownBlock ≠ some g))
    (fun _ _ a _ => n - (intOf a).toNat)
  case atStart => exact ⟨0, Nat.zero_le _, rfl, Nw.refl _, _, rfl, _, rfl, Lib.hid ⟨World.ownsRow_nil _ _ _ _, World.ownsRow_nil _ _ _ _, fun g hg => by cases hg⟩⟩
  case round =>
    obtain ⟨i, hi', rfl, ⟨d, rfl⟩, u, hu, z, hz, HC⟩ := hrel
    subst hu hz
    have i0 : (0 : Int) ≤ (i : Int) := by omega
    have hl1 : (inR lo hi (l.take i)).length ≤ i := Nat.le_trans (List.length_filter_le _ _) (List.length_take_le _ _)
    have hl2 : (outR lo hi (l.take i)).length ≤ i := Nat.le_trans (List.length_filter_le _ _) (List.length_take_le _ _)
    by_cases hin : i < n
    · have i1 : (i : Int) < (n : Int) := by omega
      have i2 : i < 1000000 := by have := HNN.out; omega
      obtain ⟨g, o, rfl, hg, hc⟩ := HR.out.2 (by omega)
      haveI : In g wB := ⟨hg⟩
      obtain ⟨⟨yk, yx⟩, hy⟩ : ∃ z, l[i]? = some z := ⟨_, List.getElem?_eq_getElem (by have := HN.out; omega)⟩
      have y0 : wB.cell? ⟨g, o + i * 2, none⟩ = some (.int .u64 yk) := hc _ _ (pcells_get l i _ hy).1
      have y1 : wB.cell? ⟨g, o + i * 2 + 1, none⟩ = some (.int .u64 yx) := by have := hc _ _ (pcells_get l i _ hy).2; rwa [← Nat.add_assoc] at this
      have hs1 : inR lo hi (l.take (i + 1)) = inR lo hi (l.take i) ++ (if (decide (lo ≤ yk) && decide (yk ≤ hi)) = true then [(yk, yx)] else []) := filter_take _ hy
      have hs2 : outR lo hi (l.take (i + 1)) = outR lo hi (l.take i) ++ (if (!(decide (lo ≤ yk) && decide (yk ≤ hi))) = true then [(yk, yx)] else []) := filter_take _ hy
      have HIN := Lib.hid hin
      have HHAS := Lib.hid (fun W => rhas_any lo hi yk W)
      obtain ⟨b, hb⟩ : ∃ b, b = (decide (lo ≤ yk) && decide (yk ≤ hi)) := ⟨_, rfl⟩
      rw [← hb] at hs1 hs2
      simp only [← hb] at HHAS
      have H1 := Lib.hid hs1
      have H2 := Lib.hid hs2
      obtain ⟨O1, hO1⟩ : ∃ O, O = inR lo hi (l.take i) := ⟨_, rfl⟩
      obtain ⟨O2, hO2⟩ : ∃ O, O = outR lo hi (l.take i) := ⟨_, rfl⟩
      obtain ⟨hown1, hown2, hdis⟩ := HC.out
      rw [← hO1] at hown1 hl1
      rw [← hO2] at hown2 hl2
      have HO1 := Lib.hid hO1
      have HO2 := Lib.hid hO2
      unfold Coll at hown1 hown2
      clear HC hb hs1 hs2 hy hc hin hi' hO1 hO2
      cases b with
      | true =>
        go_upto_region 5 with (fail)
        (refine wp_region_nw (by kernel_rfl) (by kernel_rfl) ?_; (repeat (go_big_quiet_step ((go_at_call 95; exact quiet_of (HHAS.out _))))); refine wpQuiet_nil ?_; intro _ hreg; obtain ⟨dW, rfl⟩ : Nw _ _ := hreg)
        replace hown1 := own_nw hown1 ((by repeat (first | exact Xt.Nw.refl _ | refine Xt.Nw.drew ?_ | refine Xt.Nw.drewN ?_ _ | refine Xt.Nw.alloc ?_ _ | refine Xt.Nw.joined ?_ | refine Xt.Nw.drewd ?_ | refine Xt.Nw.drewdN ?_ | refine Xt.Nw.ext ?_ | refine Xt.Nw.ext_some ?_ (by assumption) | refine Xt.Nw.setCell ?_ (by simp [go_sem] <;> omega) _)) : Nw (wB.ext none d) ((wB.ext none d).reg dW))
        replace hown2 := own_nw hown2 ((by repeat (first | exact Xt.Nw.refl _ | refine Xt.Nw.drew ?_ | refine Xt.Nw.drewN ?_ _ | refine Xt.Nw.alloc ?_ _ | refine Xt.Nw.joined ?_ | refine Xt.Nw.drewd ?_ | refine Xt.Nw.drewdN ?_ | refine Xt.Nw.ext ?_ | refine Xt.Nw.ext_some ?_ (by assumption) | refine Xt.Nw.setCell ?_ (by simp [go_sem] <;> omega) _)) : Nw (wB.ext none d) ((wB.ext none d).reg dW))
        go_wp2_with (at_builtin; refine wpList_app2 rfl _ _ 62 rfl 106 (.agg #[.int .u64 0, .int .u64 0]) 2 16 Tryz.underlying62 pairInfo rfl (by decide) wB ((wB.ext none d).reg dW) ((by repeat (first | exact Xt.Nw.refl _ | refine Xt.Nw.drew ?_ | refine Xt.Nw.drewN ?_ _ | refine Xt.Nw.alloc ?_ _ | refine Xt.Nw.joined ?_ | refine Xt.Nw.drewd ?_ | refine Xt.Nw.drewdN ?_ | refine Xt.Nw.ext ?_ | refine Xt.Nw.ext_some ?_ (by assumption) | refine Xt.Nw.setCell ?_ (by simp [go_sem] <;> omega) _))) _ _ _ rfl (by exact hown1) _ _ _ _ _ (by exact hown2) (by exact hdis) _ 1 1 _ [.int .u64 yk, .int .u64 yx] rfl rfl rfl (by intro z hz; simp at hz; rcases hz with rfl | rfl <;> rfl) (by unfold maxLen; omega) (by omega) ?_; intro vA dA hownA hownB hdis2)
        have hA := Coll.snoc hownA
        have HA := Lib.hid (⟨hA, hownB, hdis2⟩ : Coll _ _ _ (O1 ++ [(yk, yx)]) ∧ _ ∧ ∀ g, vA.ownBlock = some g → z.ownBlock ≠ some g)
        clear hownA hownB hdis2 hA hown1 hown2 hdis
        go_wp2
        refine ⟨⟨i + 1, by have := HIN.out; omega, by go_num, (by repeat (first | exact Xt.Nw.refl _ | refine Xt.Nw.drew ?_ | refine Xt.Nw.drewN ?_ _ | refine Xt.Nw.alloc ?_ _ | refine Xt.Nw.joined ?_ | refine Xt.Nw.drewd ?_ | refine Xt.Nw.drewdN ?_ | refine Xt.Nw.ext ?_ | refine Xt.Nw.ext_some ?_ (by assumption) | refine Xt.Nw.setCell ?_ (by simp [go_sem] <;> omega) _)), _, rfl, _, rfl, Lib.hid ?_⟩, by have := HIN.out; simp [intOf]; omega⟩
        rw [H1.out, H2.out, ← HO1.out, ← HO2.out]
        obtain ⟨x1, x2, x3⟩ := HA.out
        exact ⟨by simpa using x1.nw (by exact (by repeat (first | exact Xt.Nw.refl _ | refine Xt.Nw.drew ?_ | refine Xt.Nw.drewN ?_ _ | refine Xt.Nw.alloc ?_ _ | refine Xt.Nw.joined ?_ | refine Xt.Nw.drewd ?_ | refine Xt.Nw.drewdN ?_ | refine Xt.Nw.ext ?_ | refine Xt.Nw.ext_some ?_ (by assumption) | refine Xt.Nw.setCell ?_ (by simp [go_sem] <;> omega) _))), by simpa using Coll.nw x2 (by exact (by repeat (first | exact Xt.Nw.refl _ | refine Xt.Nw.drew ?_ | refine Xt.Nw.drewN ?_ _ | refine Xt.Nw.alloc ?_ _ | refine Xt.Nw.joined ?_ | refine Xt.Nw.drewd ?_ | refine Xt.Nw.drewdN ?_ | refine Xt.Nw.ext ?_ | refine Xt.Nw.ext_some ?_ (by assumption) | refine Xt.Nw.setCell ?_ (by simp [go_sem] <;> omega) _))), x3⟩
      | false =>
        go_upto_region 5 with (fail)
        (refine wp_region_nw (by kernel_rfl) (by kernel_rfl) ?_; (repeat (go_big_quiet_step ((go_at_call 95; exact quiet_of (HHAS.out _))))); refine wpQuiet_nil ?_; intro _ hreg; obtain ⟨dW, rfl⟩ : Nw _ _ := hreg)
        replace hown1 := own_nw hown1 ((by repeat (first | exact Xt.Nw.refl _ | refine Xt.Nw.drew ?_ | refine Xt.Nw.drewN ?_ _ | refine Xt.Nw.alloc ?_ _ | refine Xt.Nw.joined ?_ | refine Xt.Nw.drewd ?_ | refine Xt.Nw.drewdN ?_ | refine Xt.Nw.ext ?_ | refine Xt.Nw.ext_some ?_ (by assumption) | refine Xt.Nw.setCell ?_ (by simp [go_sem] <;> omega) _)) : Nw (wB.ext none d) ((wB.ext none d).reg dW))
        replace hown2 := own_nw hown2 ((by repeat (first | exact Xt.Nw.refl _ | refine Xt.Nw.drew ?_ | refine Xt.Nw.drewN ?_ _ | refine Xt.Nw.alloc ?_ _ | refine Xt.Nw.joined ?_ | refine Xt.Nw.drewd ?_ | refine Xt.Nw.drewdN ?_ | refine Xt.Nw.ext ?_ | refine Xt.Nw.ext_some ?_ (by assumption) | refine Xt.Nw.setCell ?_ (by simp [go_sem] <;> omega) _)) : Nw (wB.ext none d) ((wB.ext none d).reg dW))
        go_wp2_with (at_builtin; refine wpList_app2 rfl _ _ 62 rfl 106 (.agg #[.int .u64 0, .int .u64 0]) 2 16 Tryz.underlying62 pairInfo rfl (by decide) wB ((wB.ext none d).reg dW) ((by repeat (first | exact Xt.Nw.refl _ | refine Xt.Nw.drew ?_ | refine Xt.Nw.drewN ?_ _ | refine Xt.Nw.alloc ?_ _ | refine Xt.Nw.joined ?_ | refine Xt.Nw.drewd ?_ | refine Xt.Nw.drewdN ?_ | refine Xt.Nw.ext ?_ | refine Xt.Nw.ext_some ?_ (by assumption) | refine Xt.Nw.setCell ?_ (by simp [go_sem] <;> omega) _))) _ _ _ rfl (by exact hown2) _ _ _ _ _ (by exact hown1) (by exact fun g h1 h2 => hdis g h2 h1) _ 1 1 _ [.int .u64 yk, .int .u64 yx] rfl rfl rfl (by intro z hz; simp at hz; rcases hz with rfl | rfl <;> rfl) (by unfold maxLen; omega) (by omega) ?_; intro vA dA hownA hownB hdis2)
        have hA := Coll.snoc hownA
        have HA := Lib.hid (⟨hownB, hA, fun g h1 h2 => hdis2 g h2 h1⟩ : _ ∧ Coll _ _ _ (O2 ++ [(yk, yx)]) ∧ ∀ g, u.ownBlock = some g → vA.ownBlock ≠ some g)
        clear hownA hownB hdis2 hA hown1 hown2 hdis
        go_wp2
        refine ⟨⟨i + 1, by have := HIN.out; omega, by go_num, (by repeat (first | exact Xt.Nw.refl _ | refine Xt.Nw.drew ?_ | refine Xt.Nw.drewN ?_ _ | refine Xt.Nw.alloc ?_ _ | refine Xt.Nw.joined ?_ | refine Xt.Nw.drewd ?_ | refine Xt.Nw.drewdN ?_ | refine Xt.Nw.ext ?_ | refine Xt.Nw.ext_some ?_ (by assumption) | refine Xt.Nw.setCell ?_ (by simp [go_sem] <;> omega) _)), _, rfl, _, rfl, Lib.hid ?_⟩, by have := HIN.out; simp [intOf]; omega⟩
        rw [H1.out, H2.out, ← HO1.out, ← HO2.out]
        obtain ⟨x1, x2, x3⟩ := HA.out
        exact ⟨by simpa using Coll.nw x1 (by exact (by repeat (first | exact Xt.Nw.refl _ | refine Xt.Nw.drew ?_ | refine Xt.Nw.drewN ?_ _ | refine Xt.Nw.alloc ?_ _ | refine Xt.Nw.joined ?_ | refine Xt.Nw.drewd ?_ | refine Xt.Nw.drewdN ?_ | refine Xt.Nw.ext ?_ | refine Xt.Nw.ext_some ?_ (by assumption) | refine Xt.Nw.setCell ?_ (by simp [go_sem] <;> omega) _))), by simpa using x2.nw (by exact (by repeat (first | exact Xt.Nw.refl _ | refine Xt.Nw.drew ?_ | refine Xt.Nw.drewN ?_ _ | refine Xt.Nw.alloc ?_ _ | refine Xt.Nw.joined ?_ | refine Xt.Nw.drewd ?_ | refine Xt.Nw.drewdN ?_ | refine Xt.Nw.ext ?_ | refine Xt.Nw.ext_some ?_ (by assumption) | refine Xt.Nw.setCell ?_ (by simp [go_sem] <;> omega) _))), x3⟩
    · have i1 : ¬ (i : Int) < (n : Int) := by omega
      have hfl := HC.out
      rw [List.take_of_length_le (by have := HN.out; omega)] at hfl
      obtain ⟨hown1, hown2, hdis⟩ := hfl
      unfold Coll at hown1 hown2
      have hz0 : (wB.ext none d).frozen? ⟨gp, 0, none⟩ = false := by rw [frozen_ext]; exact HB.out.pz
      have p1 : (wB.ext none d).cell? ⟨gp, 0, none⟩ = some (.slice A n c) := by rw [cell_ext]; exact p0
      obtain ⟨A1, c1, rfl⟩ : ∃ A c, u = .slice A (inR lo hi l).length c := by
        rcases own_forms hown1 with ⟨h1, h2⟩ | ⟨g, c, h1, _⟩
        · exact ⟨none, 0, by rw [h1, h2]⟩
        · exact ⟨_, c, h1⟩
      obtain ⟨A2, c2, rfl⟩ : ∃ A c, z = .slice A (outR lo hi l).length c := by
        rcases own_forms hown2 with ⟨h1, h2⟩ | ⟨g, c, h1, _⟩
        · exact ⟨none, 0, by rw [h1, h2]⟩
        · exact ⟨_, c, h1⟩
      obtain ⟨m1, hm1⟩ : ∃ m, m = (inR lo hi l).length := ⟨_, rfl⟩
      obtain ⟨m2, hm2⟩ : ∃ m, m = (outR lo hi l).length := ⟨_, rfl⟩
      rw [← hm1] at hown1 hdis
      rw [← hm2] at hown2 hdis
      have HM2 := Lib.hid hm2
      have HM1 := Lib.hid hm1
      have HO1 := Lib.hid hown1
      have HO2 := Lib.hid hown2
      have HD := Lib.hid hdis
      rw [← hm1, ← hm2]
      clear HC hown1 hown2 hdis hm1 hm2 hl1 hl2
      go_wp2
      have hnw : Nw w (wB.ext none d) := HNB.out.trans ⟨d, rfl⟩
      have hsB := HNB.out.grown.size
      have hne : ∀ g, (Value.slice A2 m2 c2).ownBlock = some g → w.heap.size ≤ g := fun g hg => by have := (HO2.out.lt g hg).1; omega
      have hup : RUpd w gp (.slice A n c) (outR lo hi l) (.slice A2 m2 c2) ((wB.ext none d).setCell ⟨gp, 0, none⟩ (.slice A2 m2 c2)) := RUpd.store p1 hz0 (by rw [← HM2.out]; exact own_le HO2.out (Nat.zero_le _)) (fun e => by have := hne gp e; have := HH.out.lt; omega) (asc_sub HH.out.asc (outR_sub _ _ _)) hnw hne
      refine bodyPost_ret (results_tmp rfl _ _ _) rfl ⟨A1, c1, .slice A2 m2 c2, by rw [HM1.out]; rfl, ?_, ?_, by rw [← HM1.out]; exact HD.out⟩
      · rw [← (setCell_ext (w := wB) (r := none) (d := d) (n := gp) (i := 0) (.slice A2 m2 c2))]
        have hs1 := Chg.set1 (wB.ext none d) gp 0 (.slice A2 m2 c2)
        rw [← HM1.out]
        refine own_chg (own_le HO1.out hsB) hs1 (fun g hg hx => ?_)
        simp at hx; subst hx
        have h1 := (HO1.out.lt g hg).1
        have h2 := HH.out.lt
        omega
      · rw [← (setCell_ext (w := wB) (r := none) (d := d) (n := gp) (i := 0) (.slice A2 m2 c2))]
        exact hup
end Go.Proofs.YtahagplegmcaaaaGreatDoor
namespace Go.Proofs.YtahagplegmcaaaaGreatDoor
open Go.RowKit Go.Xt
/-! The ordered map at any pairs: Next, Move. -/
theorem inR_head {lo hi : Int} (hlh : lo ≤ hi) {l : List (Int × Int)} (ha : asc l) : (inR lo hi l)[0]? = if pos lo l < posTo hi l then l[pos lo l]? else none := by
  rw [← (split_range hlh ha).1, List.getElem?_drop, List.getElem?_take]
  simp
/-- The first pair of a range. -/
def nextL (lo hi : Int) (l : List (Int × Int)) : Option (Int × Int) := (inR lo hi l)[0]?
set_option maxRecDepth 20000 in
set_option maxHeartbeats 4000000 in
theorem next_none {w : World} {gp : Nat} {v : Value} {l : List (Int × Int)} (h : OM w gp v l) (hn : l.length ≤ 1000000) (lo hi : Int) (hlh : lo ≤ hi) (hx : nextL lo hi l = none) :
    Calls Tryz.prog 90 #[.pointer (some ⟨gp, 0, none⟩), spV lo hi] w fun e w' => e = .returned (.tuple #[spV 0 0, .bool false, .int .i64 0]) ∧ Nw w w' := by
  haveI : In gp w := ⟨h.lt⟩
  have HE := Lib.hid (fun W (hw : Nw w W) => ends_om (h.nw hw) hn lo hi hlh)
  have hpe : posTo hi l = pos lo l := by
    have h1 := inR_head hlh h.asc
    have h2 := pos_le_to hlh h.asc
    have h3 := posTo_le hi l
    unfold nextL at hx
    rw [hx] at h1
    split at h1
    · rw [List.getElem?_eq_getElem (by omega)] at h1; cases h1
    · omega
  rw [hpe] at HE
  obtain ⟨i, hi'⟩ : ∃ i, i = pos lo l := ⟨_, rfl⟩
  simp only [← hi'] at HE
  unfold spV at HE ⊢
  clear h hlh hi' hpe hx
  go_enter Tryz.func90, Tryz.ntmps90
  go_wp2_with fail
  refine (HE.out _ ((by repeat (first | exact Xt.Nw.refl _ | refine Xt.Nw.drew ?_ | refine Xt.Nw.drewN ?_ _ | refine Xt.Nw.alloc ?_ _ | refine Xt.Nw.joined ?_ | refine Xt.Nw.drewd ?_ | refine Xt.Nw.drewdN ?_ | refine Xt.Nw.ext ?_ | refine Xt.Nw.ext_some ?_ (by assumption) | refine Xt.Nw.setCell ?_ (by simp [go_sem] <;> omega) _)))).mono ?_
  rintro e W2 ⟨rfl, d2, rfl⟩
  go_wp2
  refine bodyPost_ret (v := .tuple #[.agg #[.int .u64 0, .int .u64 0], .bool false, .int .i64 0]) ?_ rfl ⟨rfl, (by repeat (first | exact Xt.Nw.refl _ | refine Xt.Nw.drew ?_ | refine Xt.Nw.drewN ?_ _ | refine Xt.Nw.alloc ?_ _ | refine Xt.Nw.joined ?_ | refine Xt.Nw.drewd ?_ | refine Xt.Nw.drewdN ?_ | refine Xt.Nw.ext ?_ | refine Xt.Nw.ext_some ?_ (by assumption) | refine Xt.Nw.setCell ?_ (by simp [go_sem] <;> omega) _))⟩
  simp [results, Tryz.results90, go_sem]
set_option maxRecDepth 20000 in
set_option maxHeartbeats 4000000 in
theorem next_some {w : World} {gp : Nat} {v : Value} {l : List (Int × Int)} (h : OM w gp v l) (hn : l.length ≤ 1000000) (lo hi : Int) (hlh : lo ≤ hi) (k x : Int) (hx : nextL lo hi l = some (k, x)) :
    Calls Tryz.prog 90 #[.pointer (some ⟨gp, 0, none⟩), spV lo hi] w fun e w' => e = .returned (.tuple #[spV k x, .bool true, .int .i64 0]) ∧ Nw w w' := by
  haveI : In gp w := ⟨h.lt⟩
  have HE := Lib.hid (fun W (hw : Nw w W) => ends_om (h.nw hw) hn lo hi hlh)
  have hpe : pos lo l < posTo hi l ∧ l[pos lo l]? = some (k, x) := by
    have h1 := inR_head hlh h.asc
    unfold nextL at hx
    rw [hx] at h1
    split at h1
    · rename_i h2; exact ⟨h2, h1.symm⟩
    · cases h1
  have p0 := h.p0
  rcases h.form with ⟨rfl, rfl⟩ | ⟨g, c, rfl, -, -, -⟩
  · simp at hpe
  have c0 := (h.pat.at' _ _ hpe.2).1
  have c1 := (h.pat.at' _ _ hpe.2).2
  have hP := (List.getElem?_eq_some_iff.1 hpe.2).1
  haveI : In g w := ⟨World.block_lt_of_cell? w _ c0⟩
  obtain ⟨i, hi'⟩ : ∃ i, i = pos lo l := ⟨_, rfl⟩
  obtain ⟨j, hj'⟩ : ∃ j, j = posTo hi l := ⟨_, rfl⟩
  obtain ⟨n, hne⟩ : ∃ n, n = l.length := ⟨_, rfl⟩
  simp only [← hi', ← hj'] at HE hpe hP c0 c1
  rw [← hne] at hP p0
  have q0 : ((i : Int) == (j : Int)) = false := by simp; omega
  have q1 : (i : Int) < (n : Int) := by omega
  have q2 : (0 : Int) ≤ (i : Int) := by omega
  have q3 : ¬ i = j := by omega
  unfold spV at HE ⊢
  clear h hlh hi' hj' hne hpe hx
  go_enter Tryz.func90, Tryz.ntmps90
  go_wp2_with fail
  refine (HE.out _ ((by repeat (first | exact Xt.Nw.refl _ | refine Xt.Nw.drew ?_ | refine Xt.Nw.drewN ?_ _ | refine Xt.Nw.alloc ?_ _ | refine Xt.Nw.joined ?_ | refine Xt.Nw.drewd ?_ | refine Xt.Nw.drewdN ?_ | refine Xt.Nw.ext ?_ | refine Xt.Nw.ext_some ?_ (by assumption) | refine Xt.Nw.setCell ?_ (by simp [go_sem] <;> omega) _)))).mono ?_
  rintro e W2 ⟨rfl, d2, rfl⟩
  go_wp2
  refine bodyPost_ret (v := .tuple #[.agg #[.int .u64 k, .int .u64 x], .bool true, .int .i64 0]) ?_ rfl ⟨rfl, (by repeat (first | exact Xt.Nw.refl _ | refine Xt.Nw.drew ?_ | refine Xt.Nw.drewN ?_ _ | refine Xt.Nw.alloc ?_ _ | refine Xt.Nw.joined ?_ | refine Xt.Nw.drewd ?_ | refine Xt.Nw.drewdN ?_ | refine Xt.Nw.ext ?_ | refine Xt.Nw.ext_some ?_ (by assumption) | refine Xt.Nw.setCell ?_ (by simp [go_sem] <;> omega) _))⟩
  simp [results, Tryz.results90, go_sem]
/-- Pairs put, their keys moved. -/
def mvL (b : Int) (r l : List (Int × Int)) : List (Int × Int) := r.foldl (fun m p => putL (p.1 + b) p.2 m) l
/-- A map after a move. -/
def moveL (lo hi b : Int) (l : List (Int × Int)) : List (Int × Int) := mvL b (inR lo hi l) (outR lo hi l)
theorem mvL_snoc (b : Int) (r l : List (Int × Int)) (p : Int × Int) : mvL b (r ++ [p]) l = putL (p.1 + b) p.2 (mvL b r l) := by simp [mvL]
theorem mvL_len (b : Int) : ∀ (r l : List (Int × Int)), (mvL b r l).length ≤ l.length + r.length
  | [], l => Nat.le_refl _
  | p :: r, l => by
    have h1 := mvL_len b r (putL (p.1 + b) p.2 l)
    have h2 := put_le (p.1 + b) p.2 l
    show (mvL b r (putL (p.1 + b) p.2 l)).length ≤ _
    simp; omega
theorem mvL_asc (b : Int) : ∀ (r l : List (Int × Int)), asc l → asc (mvL b r l)
  | [], l, h => h
  | p :: r, l, h => mvL_asc b r _ (put_asc _ _ h)
theorem filter_two {α : Type} (p : α → Bool) (l : List α) : (l.filter fun x => !p x).length + (l.filter p).length = l.length := by
  induction l with
  | nil => rfl
  | cons x l ih => cases hp : p x <;> simp [List.filter_cons, hp] <;> omega
theorem outR_inR (lo hi : Int) (l : List (Int × Int)) : (outR lo hi l).length + (inR lo hi l).length = l.length := filter_two _ _
/-- Keys and values are numbers of 64 bits. -/
def U64s (l : List (Int × Int)) : Prop := ∀ p ∈ l, (0 ≤ p.1 ∧ p.1 < 18446744073709551616) ∧ 0 ≤ p.2 ∧ p.2 < 18446744073709551616
set_option maxRecDepth 20000 in
set_option maxHeartbeats 4000000 in
theorem move_nil {w : World} {gp : Nat} (h : OM w gp (.slice none 0 0) []) (lo hi by_ : Int) (hlh : lo ≤ hi) (hlo : 0 ≤ lo) (hb0 : 0 < by_) (hb1 : by_ ≤ 18446744073709551615 - hi) :
    Calls Tryz.prog 86 #[.pointer (some ⟨gp, 0, none⟩), spV lo hi, .int .u64 by_] w fun e w' => e = .returned (.tuple #[.int .i64 0, .int .i64 0]) ∧ ∃ v', Upd w gp (.slice none 0 0) [] v' w' := by
  haveI : In gp w := ⟨h.lt⟩
  have p0 := h.p0
  have z0 := h.pz
  have HE := Lib.hid (fun W (hw : Nw w W) => ends_om (h.nw hw) (by simp) lo hi hlh)
  have q1 : (by_ == 0) = false := by simp; omega
  have q2 : ¬ by_ = 0 := by omega
  have q3 : IntKind.u64.wrap (18446744073709551615 - hi) = 18446744073709551615 - hi := by rw [IntKind.wrap_u64]; omega
  have q4 : decide (18446744073709551615 - hi < by_) = false := by simp; omega
  have HH := Lib.hid h
  have HCN := Lib.hid (fun W => clone_any none 0 0 [] W ⟨rfl, fun h => by omega⟩ (by omega) (fun _ => ⟨rfl, rfl⟩))
  have HDN := Lib.hid delete_nil
  have e1 : pos lo [] = 0 := rfl
  have e2 : posTo hi [] = 0 := rfl
  rw [e1, e2] at HE
  unfold spV at HE ⊢
  clear h hlh hlo hb0 hb1 e1 e2
  go_enter Tryz.func86, Tryz.ntmps86
  go_wp2_with fail
  refine (HE.out _ ((by repeat (first | exact Xt.Nw.refl _ | refine Xt.Nw.drew ?_ | refine Xt.Nw.drewN ?_ _ | refine Xt.Nw.alloc ?_ _ | refine Xt.Nw.joined ?_ | refine Xt.Nw.drewd ?_ | refine Xt.Nw.drewdN ?_ | refine Xt.Nw.ext ?_ | refine Xt.Nw.ext_some ?_ (by assumption) | refine Xt.Nw.setCell ?_ (by simp [go_sem] <;> omega) _)))).mono ?_
  rintro e W2 ⟨rfl, d2, rfl⟩
  go_wp2_with fail
  refine (HCN.out _).mono ?_
  rintro e W3 ⟨vC, rfl, hown, d3, rfl⟩
  obtain ⟨A, cC, hvC⟩ : ∃ A cC, vC = .slice A 0 cC := by
    rcases own_forms hown with ⟨rfl, _⟩ | ⟨g, c, rfl, _⟩
    · exact ⟨_, _, rfl⟩
    · exact ⟨_, _, rfl⟩
  subst hvC
  clear hown
  go_wp2_with fail
  refine (HDN.out _).mono ?_
  rintro e W4 ⟨rfl, hn4⟩
  have hn4 : Nw w W4 := Nw.trans (by exact (by repeat (first | exact Xt.Nw.refl _ | refine Xt.Nw.drew ?_ | refine Xt.Nw.drewN ?_ _ | refine Xt.Nw.alloc ?_ _ | refine Xt.Nw.joined ?_ | refine Xt.Nw.drewd ?_ | refine Xt.Nw.drewdN ?_ | refine Xt.Nw.ext ?_ | refine Xt.Nw.ext_some ?_ (by assumption) | refine Xt.Nw.setCell ?_ (by simp [go_sem] <;> omega) _))) hn4
  have r0 := cell_nw p0 hn4
  have rz := (frozen_nw HH.out.lt hn4).trans z0
  have hu : Upd W4 gp (.slice none 0 0) [] (.slice none 0 0) (W4.setCell ⟨gp, 0, none⟩ (.slice none 0 0)) :=
    Upd.store r0 rz (World.ownsRow_nil _ _ _ _) (by simp [Value.ownBlock]) List.Pairwise.nil ((Chg.of_nw (Nw.refl W4) : Chg [] W4 W4).wide (by simp)) (.inl rfl)
  have HU := Lib.hid (hu.after hn4)
  clear hu hn4
  go_wp2
  go_loopw [54] (fun a wr => a = .int .i64 0 ∧ wr = W4.setCell ⟨gp, 0, none⟩ (.slice none 0 0)) (fun _ _ => 0)
  case atStart => exact ⟨rfl, rfl⟩
  case round =>
    obtain ⟨rfl, rfl⟩ := hrel
    go_wp2
    refine bodyPost_ret (v := .tuple #[.int .i64 0, .int .i64 0]) ?_ rfl ⟨rfl, _, HU.out⟩
    simp [results, Tryz.results86, go_sem]
end Go.Proofs.YtahagplegmcaaaaGreatDoor
