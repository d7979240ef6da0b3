import Derived.Test.YtahagplegmcaaaaGreatDoorGPf
set_option linter.unusedVariables false
set_option linter.unusedSimpArgs false
set_option linter.unnecessarySimpa false
namespace Go.Proofs.YtahagplegmcaaaaGreatDoor
open Go.RowKit Go.Xt
/-! slices.Delete, slices.Clone at any pairs. -/
theorem step_app_eq {Q0 : Program} {ops : Array Oper} {o : Oper} {a : Act} {w : World} {K : Act → World → Prop} {Q : Exit → Act → World → Prop} {E : Prop}
    (hg : o.guard = none) (d x : Operand) (dT sT : TypeId) (hop : o.op = Op.call { callee := Callee.builtin Builtin.append, args := #[d, x], argTypes := #[dT, sT] })
    (v u : Value) (hd : a.eval d = v) (hx : a.eval x = u) {v' : Value} {w' : World} (hr : (Builtin.append_ #[dT, sT] o.type #[v, u]).run Q0 w = .ok v' w') (hK : K (a.put o.dst v') w') :
    if Region.wanted o (yielded ops a.tmps) = true then Oper.wp Q0 o a w K Q else E := by
  have hw : Region.wanted o (yielded ops a.tmps) = true := by simp [Region.wanted, hg]
  rw [if_pos hw]
  unfold Oper.wp
  simp [execOp, hop, resolve, invoke, builtin, hd, hx, hr, Result.andThen]
  exact hK
theorem clear_any (b o m c : Nat) (w : World) (hc : ∀ j, j < m * 2 → (w.cell? ⟨b, o + j, none⟩).isSome = true) (hf : ∀ j, j < m * 2 → w.frozen? ⟨b, o + j, none⟩ = false) (ty : TypeId) :
    (Builtin.clear_ #[62] ty #[.slice (some ⟨b, o, none⟩) m c]).run Tryz.prog w = .ok (.tuple #[]) (w.setCells b o (Builtin.zeroCells (Value.agg #[.int .u64 0, .int .u64 0]).cells m).toList) := by
  have hv : ∀ w, (zeroValue 106).run Tryz.prog w = .ok (.agg #[.int .u64 0, .int .u64 0]) w := fun w => by kernel_rfl
  have hl : (Builtin.zeroCells (Value.agg #[.int .u64 0, .int .u64 0]).cells m).toList.length = m * 2 := by
    rw [Array.length_toList, size_zeroCells]; rfl
  have hone : ∀ v ∈ (Builtin.zeroCells (Value.agg #[.int .u64 0, .int .u64 0]).cells m).toList, v.oneCell' = true := by
    intro v hv
    have e : (Value.agg #[.int .u64 0, .int .u64 0]).cells = #[.int .u64 0, .int .u64 0] := by kernel_rfl
    rw [e] at hv
    simp [Builtin.zeroCells] at hv
    obtain ⟨q, _, hv⟩ := hv
    subst hv
    rcases Nat.mod_two_eq_zero_or_one q with h | h <;> rw [h] <;> rfl
  have hst := run_storeCells_cells (P := Tryz.prog) b o (Builtin.zeroCells (Value.agg #[.int .u64 0, .int .u64 0]).cells m).toList 0 w (fun j hj => by rw [hl] at hj; simpa using hc j hj) (fun j hj => by rw [hl] at hj; simpa using hf j hj) hone
  simp only [Nat.add_zero] at hst
  cases m with
  | zero =>
    have hz : (Builtin.zeroCells (Value.agg #[.int .u64 0, .int .u64 0]).cells 0).toList = [] := by simp [Builtin.zeroCells]
    rw [hz]
    simp [Builtin.clear_, run_underlying (Tryz.underlying62)]
    rfl
  | succ m =>
    simp [Builtin.clear_, run_underlying (Tryz.underlying62), hv, hst]
theorem del_cells {l : List (Int × Int)} {cur zs : List Value} {i j n c m : Nat} (hl : l.length = n) (hij : i ≤ j) (hj : j ≤ n) (hm : m = i + (n - j)) (hc : n ≤ c) (hcur : cur.take (n * 2) = pcells l) (hlen : cur.length = c * 2) :
    (setL (setL cur (i * 2) (pcells (l.drop j))) (m * 2) zs).take (m * 2) = pcells (l.take i ++ l.drop j) := by
  have hd : (pcells (l.drop j)).length = (n - j) * 2 := by rw [pcells_len, List.length_drop, hl]
  have ht : (pcells (l.take i)).length = i * 2 := by rw [pcells_len, List.length_take, hl]; congr 1; omega
  have hpl : pcells l = pcells (l.take i) ++ pcells (l.drop i) := by rw [← pcells_app, List.take_append_drop]
  rw [pcells_app]
  apply List.ext_getElem?
  intro q
  rw [List.getElem?_take]
  by_cases hq : q < m * 2
  · rw [if_pos hq, setL_out _ _ _ _ (by omega)]
    by_cases h1 : q < i * 2
    · rw [setL_out _ _ _ _ (by omega), List.getElem?_append_left (by omega)]
      have : cur[q]? = (pcells l)[q]? := by rw [← hcur, List.getElem?_take, if_pos (by omega)]
      rw [this, hpl, List.getElem?_append_left (by omega)]
    · have e : q = i * 2 + (q - i * 2) := by omega
      rw [e, setL_in _ _ _ _ (by omega) (by omega), List.getElem?_append_right (by omega)]
      congr 1; omega
  · rw [if_neg hq, List.getElem?_eq_none (by simp [hd, ht]; omega)]
set_option maxRecDepth 20000 in
set_option maxHeartbeats 4000000 in
theorem delete_nil (w : World) :
    Calls Tryz.prog 104 #[.slice none 0 0, .int .i64 0, .int .i64 0] w fun e w' => e = .returned (.slice none 0 0) ∧ Nw w w' := by
  go_enter Tryz.func104, Tryz.ntmps104
  go_wp2
  refine bodyPost_ret (results_tmp rfl _ _ _) rfl ⟨rfl, (by repeat (first | exact Xt.Nw.refl _ | refine Xt.Nw.drew ?_ | refine Xt.Nw.drewN ?_ _ | refine Xt.Nw.alloc ?_ _ | refine Xt.Nw.joined ?_ | refine Xt.Nw.drewd ?_ | refine Xt.Nw.drewdN ?_ | refine Xt.Nw.ext ?_ | refine Xt.Nw.ext_some ?_ (by assumption) | refine Xt.Nw.setCell ?_ (by simp [go_sem] <;> omega) _))⟩
set_option maxRecDepth 20000 in
set_option maxHeartbeats 4000000 in
theorem delete_some (base g n c : Nat) (l : List (Int × Int)) (i j m : Nat) (w : World) (hown : w.ownsRow base 106 2 (.slice (some ⟨g, 0, none⟩) n c) n (pcells l)) (hl : l.length = n) (hij : i < j) (hj : j ≤ n) (hn : n ≤ 1000000) (hm : m = i + (n - j)) :
    Calls Tryz.prog 104 #[.slice (some ⟨g, 0, none⟩) n c, .int .i64 i, .int .i64 j] w fun e w' => e = .returned (.slice (some ⟨g, 0, none⟩) m c) ∧ w'.ownsRow base 106 2 (.slice (some ⟨g, 0, none⟩) m c) m (pcells (l.take i ++ l.drop j)) ∧ Chg [g] w w' := by
  obtain ⟨cur, hfull, hcur, hclen, hnc⟩ := own_full hown
  have hadd : ∀ (b o j : Nat), (⟨b, o, none⟩ : Addr).add j = ⟨b, o + j, none⟩ := fun b o j => by unfold Addr.add; split <;> simp_all
  obtain ⟨ti, hi1, hz0, hz1, hz2⟩ := info_parts pairInfo
  have hfd := own_nw hfull (Nw.drew (Nw.refl w))
  have hsome : ∀ (W : World) (xs : List Value), W.ownsRow base 106 2 (.slice (some ⟨g, 0, none⟩) c c) c xs → ∀ q, q < c * 2 → (W.cell? ⟨g, q, none⟩).isSome = true := fun W xs h q hq => by
    rw [h.cellAt q hq, List.getElem?_eq_getElem (by rw [h.1]; exact hq)]; rfl
  have hdl : (pcells (l.drop j)).length = (n - j) * 2 := by rw [pcells_len, List.length_drop, hl]
  have htl : (pcells (l.take j)).length = j * 2 := by rw [pcells_len, List.length_take, hl]; congr 1; omega
  have hsrc : ∀ q v, (pcells (l.drop j))[q]? = some v → w.drew.cell? ⟨g, j * 2 + q, none⟩ = some v := fun q v hq => by
    have hql := (List.getElem?_eq_some_iff.1 hq).1
    rw [hfd.cellAt _ (by omega)]
    have h1 : (pcells l)[j * 2 + q]? = some v := by
      rw [← List.take_append_drop j l, pcells_app, List.getElem?_append_right (by omega), htl, show j * 2 + q - j * 2 = q by omega]; exact hq
    rw [← hcur, List.getElem?_take, if_pos (by omega)] at h1
    exact h1
  obtain ⟨W3, hW3⟩ : ∃ W3, W3 = w.drew.setCells g (i * 2) (pcells (l.drop j)) := ⟨_, rfl⟩
  have hroom : ∀ (x : Value) (ty : TypeId), Src Tryz.prog ti.size 62 x (n - j) (pcells (l.drop j)) w.drew → (Builtin.append_ #[62, 62] ty #[.slice (some ⟨g, 0, none⟩) i c, x]).run Tryz.prog w.drew = .ok (.slice (some ⟨g, 0, none⟩) m c) W3 := fun x ty hs => by
    have := run_append_room_src w.drew 62 62 ty 106 ti Tryz.underlying62 hi1 g 0 i c x (n - j) _ hs (by omega) (fun q hq => by rw [hz1]; exact hsome _ _ hfd _ (by omega)) (fun q hq => hfd.frozenAt _)
    rw [this, hz1, Nat.zero_add, hW3, hm]
  have hap : ∀ ty sc, (Builtin.append_ #[62, 62] ty #[.slice (some ⟨g, 0, none⟩) i c, .slice (some ⟨g, j * 2, none⟩) (n - j) sc]).run Tryz.prog w.drew = .ok (.slice (some ⟨g, 0, none⟩) m c) W3 := fun ty sc =>
    hroom _ ty (Src.ofSlice w.drew Tryz.underlying62 _ _ _ _ (by rw [hz1, hdl]) (fun q v hq => by rw [hadd]; exact hsrc q v hq) (pcells_one _))
  have hrow3 := own_setCells (pcells (l.drop j)) cur (i * 2) w.drew hfd
  rw [← hW3] at hrow3
  obtain ⟨zs, hzs⟩ : ∃ zs, zs = (Builtin.zeroCells (Value.agg #[.int .u64 0, .int .u64 0]).cells (n - m)).toList := ⟨_, rfl⟩
  obtain ⟨W4, hW4⟩ : ∃ W4, W4 = W3.setCells g (m * 2) zs := ⟨_, rfl⟩
  have hcl : ∀ ty sc, (Builtin.clear_ #[62] ty #[.slice (some ⟨g, m * 2, none⟩) (n - m) sc]).run Tryz.prog W3 = .ok (.tuple #[]) W4 := fun ty sc => by
    rw [hW4, hzs]
    exact clear_any g (m * 2) (n - m) sc W3 (fun q hq => hsome _ _ hrow3.1 _ (by omega)) (fun q _ => hrow3.1.frozenAt _) ty
  have hrow4 := own_setCells zs _ (m * 2) W3 hrow3.1
  rw [← hW4] at hrow4
  have hfin := own_take hrow4.1 (by omega : m ≤ c)
  rw [del_cells hl (by omega) hj hm hnc hcur hclen] at hfin
  have hch : Chg [g] w W4 := (Chg.of_nw (Nw.drew (Nw.refl w))).trans ((Chg.of_grownBy hrow3.2).trans (Chg.of_grownBy hrow4.2))
  have AP := Lib.hid hap
  have FIN := Lib.hid hfin
  have HCH := Lib.hid hch
  have HRM := Lib.hid hroom
  haveI : In g w := ⟨hown.lt _ rfl |>.2⟩
  have HSZ := Lib.hid hz1
  have a1 : (i : Int) ≤ (j : Int) := by omega
  have a2 : (j : Int) ≤ (n : Int) := by omega
  have a3 : (n : Int) ≤ (c : Int) := by omega
  have a4 : (i : Int) ≤ (c : Int) := by omega
  have a5 : ((i : Int) == (j : Int)) = false := by simp; omega
  have a6 : ¬ i = j := by omega
  have a7 : (m : Int) ≤ (n : Int) := by omega
  have a8 : ¬ n ≤ i := by omega
  have a9 : ¬ n = i := by omega
  have b1 : ¬ c ≤ m := by omega
  have b2 : ¬ c = m := by omega
  have b3 : m ≤ n := by omega
  have b4 : i ≤ j := by omega
  have b5 : i ≤ c := by omega
  have HN := Lib.hid (by omega : n - j = 0 ∨ j < c)
  clear hm hij hadd hsome hdl htl hsrc hW3 hap hrow3 hzs hW4 hrow4 hfin hch hroom hfd hfull hcur hclen hown hz0 hz1 hz2 hi1
  by_cases hjc : c ≤ j
  · have hj0 : n - j = 0 := by rcases HN.out with h | h <;> omega
    obtain rfl : j = n := by omega
    obtain rfl : c = j := by omega
    have hdr : pcells (l.drop c) = [] := by rw [← hl, List.drop_length]; rfl
    have hap2 : ∀ ty a sc, (Builtin.append_ #[62, 62] ty #[.slice (some ⟨g, 0, none⟩) i c, .slice (some a) 0 sc]).run Tryz.prog w.drew = .ok (.slice (some ⟨g, 0, none⟩) m c) W3 := fun ty a sc =>
      HRM.out _ ty (by rw [hj0, hdr]; exact Src.ofSlice w.drew Tryz.underlying62 a 0 sc [] (by simp) (by simp) (by simp))
    have AP2 := Lib.hid hap2
    clear hap2 hdr hj0
    go_enter Tryz.func104, Tryz.ntmps104
    go_upto_region 5 with (fail)
    go_region_law (refine step_app_eq rfl (.tmp 22) (.tmp 25) 62 62 rfl _ _ (by first | (simp [Act.eval, Act.put]; done) | (simp [Act.eval, Act.put]; rfl)) (by first | (simp [Act.eval, Act.put]; done) | (simp [Act.eval, Act.put]; rfl) | (simp [Act.eval, Act.put]; exact ⟨rfl, rfl⟩)) (AP2.out _ _ _) ?_)
    go_wp2
    exact bodyPost_ret (results_tmp rfl _ _ _) rfl ⟨rfl, FIN.out, HCH.out⟩
  · have c1 : ¬ c = j := by omega
    go_enter Tryz.func104, Tryz.ntmps104
    go_upto_region 5 with (fail)
    go_region_law (refine step_app_eq rfl (.tmp 22) (.tmp 25) 62 62 rfl _ _ (by first | (simp [Act.eval, Act.put]; done) | (simp [Act.eval, Act.put]; rfl)) (by first | (simp [Act.eval, Act.put]; done) | (simp [Act.eval, Act.put]; rfl)) (AP.out _ _) ?_)
    go_wp2
    exact bodyPost_ret (results_tmp rfl _ _ _) rfl ⟨rfl, FIN.out, HCH.out⟩
set_option maxRecDepth 20000 in
set_option maxHeartbeats 4000000 in
theorem delete_none (g n c : Nat) (i : Nat) (w : World) (hi : i ≤ n) (hc : n ≤ c) :
    Calls Tryz.prog 104 #[.slice (some ⟨g, 0, none⟩) n c, .int .i64 i, .int .i64 i] w fun e w' => e = .returned (.slice (some ⟨g, 0, none⟩) n c) ∧ Nw w w' := by
  have a1 : (i : Int) ≤ (n : Int) := by omega
  have a2 : (n : Int) ≤ (c : Int) := by omega
  by_cases h : n ≤ i
  · obtain rfl : i = n := by omega
    go_enter Tryz.func104, Tryz.ntmps104
    go_wp2
    refine bodyPost_ret (results_tmp rfl _ _ _) rfl ⟨rfl, (by repeat (first | exact Xt.Nw.refl _ | refine Xt.Nw.drew ?_ | refine Xt.Nw.drewN ?_ _ | refine Xt.Nw.alloc ?_ _ | refine Xt.Nw.joined ?_ | refine Xt.Nw.drewd ?_ | refine Xt.Nw.drewdN ?_ | refine Xt.Nw.ext ?_ | refine Xt.Nw.ext_some ?_ (by assumption) | refine Xt.Nw.setCell ?_ (by simp [go_sem] <;> omega) _))⟩
  · have h2 : ¬ n = i := by omega
    go_enter Tryz.func104, Tryz.ntmps104
    go_wp2
    refine bodyPost_ret (results_tmp rfl _ _ _) rfl ⟨rfl, (by repeat (first | exact Xt.Nw.refl _ | refine Xt.Nw.drew ?_ | refine Xt.Nw.drewN ?_ _ | refine Xt.Nw.alloc ?_ _ | refine Xt.Nw.joined ?_ | refine Xt.Nw.drewd ?_ | refine Xt.Nw.drewdN ?_ | refine Xt.Nw.ext ?_ | refine Xt.Nw.ext_some ?_ (by assumption) | refine Xt.Nw.setCell ?_ (by simp [go_sem] <;> omega) _))⟩
/-- slices.Delete of a row of one's own. -/
theorem delete_any (v : Value) (l : List (Int × Int)) (i j m : Nat) (w : World) (hown : w.ownsRow 0 106 2 v l.length (pcells l)) (hij : i ≤ j) (hj : j ≤ l.length) (hn : l.length ≤ 1000000) (hm : m = i + (l.length - j)) :
    Calls Tryz.prog 104 #[v, .int .i64 i, .int .i64 j] w fun e w' => ∃ v', e = .returned v' ∧ w'.ownsRow 0 106 2 v' m (pcells (l.take i ++ l.drop j)) ∧ Chg v.ownBlock.toList w w' ∧ v'.ownBlock = v.ownBlock := by
  rcases own_forms hown with ⟨rfl, h0⟩ | ⟨g, c, rfl, _, _, hc, _⟩
  · obtain rfl : l = [] := List.length_eq_zero_iff.1 h0
    obtain rfl : j = 0 := by simpa using hj
    obtain rfl : i = 0 := by omega
    subst hm
    refine (delete_nil w).mono ?_
    rintro e w' ⟨rfl, hn⟩
    exact ⟨_, rfl, own_nw hown hn, (Chg.of_nw hn : Chg [] w w').wide (by simp), rfl⟩
  · by_cases h : i = j
    · subst h
      obtain rfl : m = l.length := by omega
      rw [List.take_append_drop]
      refine (delete_none g l.length c i w (by omega) hc).mono ?_
      rintro e w' ⟨rfl, hn⟩
      exact ⟨_, rfl, own_nw hown hn, (Chg.of_nw hn : Chg [] w w').wide (by simp), rfl⟩
    · refine (delete_some 0 g l.length c l i j m w hown rfl (by omega) hj hn hm).mono ?_
      rintro e w' ⟨rfl, h1, h2⟩
      exact ⟨_, rfl, h1, h2, rfl⟩
set_option maxRecDepth 20000 in
set_option maxHeartbeats 4000000 in
/-- slices.Clone. -/
theorem clone_any (A : Option Addr) (n c : Nat) (l : List (Int × Int)) (w : World) (hr : Rd w 2 A n (pcells l)) (hn : n ≤ 1000000) (hA : A = none → n = 0 ∧ c = 0) :
    Calls Tryz.prog 70 #[.slice A n c] w fun e w' => ∃ v', e = .returned v' ∧ w'.ownsRow w.heap.size 106 2 v' n (pcells l) ∧ Nw w w' := by
  have q22 : ∀ (w : World) (a : Option Addr) (n c n' c' : Nat), (binOp .eql 62 (.slice a n c) (.slice none n' c')).run Tryz.prog w = .ok (.bool a.isNone) w := fun w a n c n' c' => Lib.run_eql_slice_nil w _ _ a n c n' c' Tryz.underlying62
  cases A with
  | none =>
    obtain ⟨rfl, rfl⟩ := hA rfl
    have hl : pcells l = [] := List.eq_nil_of_length_eq_zero (by simpa using hr.1)
    rw [hl]
    clear hr hl
    go_enter Tryz.func70, Tryz.ntmps70
    go_wp2
    refine bodyPost_ret (results_tmp rfl _ _ _) rfl ⟨_, rfl, World.ownsRow_nil _ _ _ _, (by repeat (first | exact Xt.Nw.refl _ | refine Xt.Nw.drew ?_ | refine Xt.Nw.drewN ?_ _ | refine Xt.Nw.alloc ?_ _ | refine Xt.Nw.joined ?_ | refine Xt.Nw.drewd ?_ | refine Xt.Nw.drewdN ?_ | refine Xt.Nw.ext ?_ | refine Xt.Nw.ext_some ?_ (by assumption) | refine Xt.Nw.setCell ?_ (by simp [go_sem] <;> omega) _))⟩
  | some a =>
    have HR := Lib.hid (hr.nw ((by repeat (first | exact Xt.Nw.refl _ | refine Xt.Nw.drew ?_ | refine Xt.Nw.drewN ?_ _ | refine Xt.Nw.alloc ?_ _ | refine Xt.Nw.joined ?_ | refine Xt.Nw.drewd ?_ | refine Xt.Nw.drewdN ?_ | refine Xt.Nw.ext ?_ | refine Xt.Nw.ext_some ?_ (by assumption) | refine Xt.Nw.setCell ?_ (by simp [go_sem] <;> omega) _)) : Nw w (w.alloc (.cells #[] 106))))
    have HL := Lib.hid (pcells_one l)
    clear hr hA
    go_enter Tryz.func70, Tryz.ntmps70
    go_wp2_with (at_builtin; refine wpList_appS rfl (.tmp 5) (.tmp 6) 62 rfl 106 (.agg #[.int .u64 0, .int .u64 0]) 2 16 Tryz.underlying62 pairInfo rfl (by decide) w _ (by repeat (first | exact Xt.Nw.refl _ | refine Xt.Nw.drew ?_ | refine Xt.Nw.drewN ?_ _ | refine Xt.Nw.alloc ?_ _ | refine Xt.Nw.joined ?_ | refine Xt.Nw.drewd ?_ | refine Xt.Nw.drewdN ?_ | refine Xt.Nw.ext ?_ | refine Xt.Nw.ext_some ?_ (by assumption) | refine Xt.Nw.setCell ?_ (by simp [go_sem] <;> omega) _)) _ 0 [] rfl (World.ownsRow_made w #[] 0 (Nat.le_refl _) (Nat.zero_le _) rfl) (some a) n c _ rfl HR.out HL.out (by unfold maxLen; omega) (by omega) ?_; intro v' d' hown _)
    rw [Nat.zero_add, List.nil_append] at hown
    refine bodyPost_ret (results_tmp rfl _ _ _) rfl ⟨v', rfl, hown, (by repeat (first | exact Xt.Nw.refl _ | refine Xt.Nw.drew ?_ | refine Xt.Nw.drewN ?_ _ | refine Xt.Nw.alloc ?_ _ | refine Xt.Nw.joined ?_ | refine Xt.Nw.drewd ?_ | refine Xt.Nw.drewdN ?_ | refine Xt.Nw.ext ?_ | refine Xt.Nw.ext_some ?_ (by assumption) | refine Xt.Nw.setCell ?_ (by simp [go_sem] <;> omega) _))⟩
end Go.Proofs.YtahagplegmcaaaaGreatDoor
