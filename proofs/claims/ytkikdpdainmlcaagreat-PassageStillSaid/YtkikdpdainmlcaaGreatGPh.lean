import Derived.Test.YtkikdpdainmlcaaGreatGPe
set_option linter.unusedVariables false
set_option linter.unusedSimpArgs false
set_option linter.unnecessarySimpa false
namespace Go.Proofs.YtkikdpdainmlcaaGreat
open Go.RowKit Go.Xt
/-! The ordered map in memory; find, set. -/
structure OM (W : World) (gp : Nat) (v : Value) (l : List (Int × Int)) : Prop where
  p0 : W.cell? ⟨gp, 0, none⟩ = some v
  row : W.ownsRow 0 51 2 v l.length (pcells l)
  ne : v.ownBlock ≠ some gp
  pz : W.frozen? ⟨gp, 0, none⟩ = false
  asc : asc l
theorem own_chg {base : Nat} {e : TypeId} {size n : Nat} {v : Value} {xs : List Value} {W W' : World} {X : List Nat} (h : W.ownsRow base e size v n xs) (hc : Chg X W W') (hx : ∀ g, v.ownBlock = some g → g ∉ X) : W'.ownsRow base e size v n xs := by
  refine ⟨h.1, ?_⟩
  rcases h.2 with ⟨h1, h2⟩ | ⟨g, cap, cur, h1, h2, h3, h4⟩
  · exact .inl ⟨h1, h2⟩
  · refine .inr ⟨g, cap, cur, h1, h2, ?_, h4⟩
    rw [← h3]
    exact hc.block g (Array.getElem?_eq_some_iff.1 h3).1 (hx g (by rw [h1]; rfl))
theorem OM.chg {W W' : World} {gp : Nat} {v : Value} {l : List (Int × Int)} {X : List Nat} (h : OM W gp v l) (hc : Chg X W W') (h1 : gp ∉ X) (h2 : ∀ g, v.ownBlock = some g → g ∉ X) : OM W' gp v l :=
  ⟨hc.cell h.p0 h1, own_chg h.row hc h2, h.ne, (hc.frozen (World.block_lt_of_cell? W _ h.p0) h1).trans h.pz, h.asc⟩
theorem OM.nw {W W' : World} {gp : Nat} {v : Value} {l : List (Int × Int)} (h : OM W gp v l) (hn : Nw W W') : OM W' gp v l := h.chg (Chg.of_nw hn : Chg [] W W') (by simp) (by simp)
theorem OM.lt {W : World} {gp : Nat} {v : Value} {l : List (Int × Int)} (h : OM W gp v l) : gp < W.heap.size := World.block_lt_of_cell? W _ h.p0
theorem OM.rlt {W : World} {gp : Nat} {v : Value} {l : List (Int × Int)} (h : OM W gp v l) {g : Nat} (hg : v.ownBlock = some g) : g < W.heap.size := by
  rcases own_forms h.row with ⟨rfl, _⟩ | ⟨g', c, rfl, _, hin, _, _⟩
  · cases hg
  · cases hg; exact hin.lt
theorem OM.form {W : World} {gp : Nat} {v : Value} {l : List (Int × Int)} (h : OM W gp v l) : (v = .slice none 0 0 ∧ l = []) ∨ ∃ g c, v = .slice (some ⟨g, 0, none⟩) l.length c ∧ l.length ≤ c ∧ c ≤ maxLen ∧ In g W := by
  rcases own_forms h.row with ⟨h1, h2⟩ | ⟨g, c, h1, _, h3, h4, h5⟩
  · exact .inl ⟨h1, List.length_eq_zero_iff.1 h2⟩
  · exact .inr ⟨g, c, h1, h4, h5, h3⟩
theorem OM.pat {W : World} {gp g c : Nat} {l : List (Int × Int)} (h : OM W gp (.slice (some ⟨g, 0, none⟩) l.length c) l) : PAt W gp g l.length c l :=
  ⟨h.p0, rfl, fun i x hx => by
    have hi := (List.getElem?_eq_some_iff.1 hx).1
    have := pcells_get l i x hx
    rw [h.row.cellAt _ (by omega), h.row.cellAt _ (by omega)]
    exact this⟩
set_option maxRecDepth 20000 in
set_option maxHeartbeats 4000000 in
theorem find_nil (gp : Nat) (k : Int) (w : World) (h : w.cell? ⟨gp, 0, none⟩ = some (.slice none 0 0)) :
    Calls Tryz.prog 100 #[.pointer (some ⟨gp, 0, none⟩), .int .u64 k] w fun e w' => e = .returned (.tuple #[.int .i64 0, .bool false]) ∧ Nw w w' := by
  haveI : In gp w := ⟨World.block_lt_of_cell? w _ h⟩
  go_enter Tryz.func100, Tryz.ntmps100
  go_wp2_with fail
  refine (search_0 _ _).mono ?_
  rintro e w' ⟨rfl, dW, rfl⟩
  go_wp2_with fail
  (refine wp_region_nw (by kernel_rfl) (by kernel_rfl) ?_; (repeat (go_big_quiet_step (fail))); refine wpQuiet_nil ?_; intro _ hreg; obtain ⟨dW, rfl⟩ : Nw _ _ := hreg)
  go_wp2
  exact bodyPost_ret (results_tmp2 rfl _ _ _) rfl ⟨rfl, nwa⟩
theorem find_om {w : World} {gp : Nat} {v : Value} {l : List (Int × Int)} (h : OM w gp v l) (hn : l.length ≤ 1000000) (k : Int) :
    Calls Tryz.prog 100 #[.pointer (some ⟨gp, 0, none⟩), .int .u64 k] w fun e w' => e = .returned (.tuple #[.int .i64 (pos k l), .bool (hasK k l)]) ∧ Nw w w' := by
  rcases h.form with ⟨rfl, rfl⟩ | ⟨g, c, rfl, -, -, -⟩
  · exact find_nil gp k w h.p0
  · exact find_any gp g l.length c l k w h.pat h.asc hn
theorem pcells_set : ∀ (l : List (Int × Int)) (i : Nat) (k x : Int) (y : Int × Int), l[i]? = some y → y.1 = k → (pcells l).set (i * 2 + 1) (.int .u64 x) = pcells (l.set i (k, x))
  | [], i, k, x, y, h, _ => by simp at h
  | z :: r, 0, k, x, y, h, e => by simp at h; subst h; subst e; rfl
  | z :: r, i + 1, k, x, y, h, e => by
    have h2 := pcells_set r i k x y (by simpa using h) e
    show (.int .u64 z.1 :: .int .u64 z.2 :: pcells r).set ((i + 1) * 2 + 1) _ = .int .u64 z.1 :: .int .u64 z.2 :: pcells (r.set i (k, x))
    rw [show (i + 1) * 2 + 1 = (i * 2 + 1) + 1 + 1 by omega, List.set_cons_succ, List.set_cons_succ, h2]
def foot (gp : Nat) (v : Value) : List Nat := gp :: v.ownBlock.toList
theorem mem_foot {gp g : Nat} {v : Value} : g ∈ foot gp v ↔ g = gp ∨ v.ownBlock = some g := by
  simp [foot, Option.mem_toList]
theorem Chg.then {X Y : List Nat} {a b c : World} (h : Chg X a b) (k : Chg Y b c) (hs : ∀ y ∈ Y, y ∈ X ∨ a.heap.size ≤ y) : Chg X a c :=
  ⟨k.os.trans h.os, k.tape.trans h.tape, k.output.trans h.output, Nat.le_trans h.size k.size, fun j hj hx => (k.block j (Nat.lt_of_lt_of_le hj h.size) (fun hy => (hs j hy).elim hx (fun h => by omega))).trans (h.block j hj hx)⟩
theorem Chg.wide {X Y : List Nat} {a b : World} (h : Chg X a b) (hs : ∀ k ∈ X, k ∈ Y) : Chg Y a b := ⟨h.os, h.tape, h.output, h.size, fun k hk hx => h.block k hk fun e => hx (hs k e)⟩
theorem Chg.of_grownBy {w w' : World} {r : Option Nat} (h : w.grownBy w' r) : Chg r.toList w w' := ⟨h.os, h.tape, h.output, h.size, fun k hk hx => h.block k hk (fun e => hx (by rw [Option.mem_toList]; exact e.symm))⟩
set_option maxRecDepth 20000 in
set_option maxHeartbeats 4000000 in
theorem set_had (w : World) (gp g c : Nat) (l : List (Int × Int)) (k x : Int) (h : OM w gp (.slice (some ⟨g, 0, none⟩) l.length c) l) (hn : l.length ≤ 1000000) (hh : hasK k l = true) :
    Calls Tryz.prog 101 #[.pointer (some ⟨gp, 0, none⟩), .int .u64 k, .int .u64 x] w fun e w' => e = .returned (.tuple #[]) ∧ OM w' gp (.slice (some ⟨g, 0, none⟩) l.length c) (putL k x l) ∧ Chg [g] w w' := by
  obtain ⟨z, hz⟩ : ∃ z, getL k l = some z := by rw [hasK_get] at hh; exact Option.isSome_iff_exists.1 hh
  have hat := get_at k l z hz
  have hP := (List.getElem?_eq_some_iff.1 hat).1
  have c1 := (h.pat.at' _ _ hat).2
  have hf : w.frozen? ⟨g, pos k l * 2 + 1, none⟩ = false := h.row.frozenAt _
  have p0 := h.p0
  haveI : In gp w := ⟨h.lt⟩
  haveI : In g w := ⟨World.block_lt_of_cell? w _ c1⟩
  have HF := Lib.hid (find_om h hn k)
  have HH := Lib.hid h
  have HP := Lib.hid (pcells_set l (pos k l) k x _ hat rfl)
  have HS := Lib.hid (put_had k x l hh)
  rw [hh] at HF
  obtain ⟨P, hPe⟩ : ∃ P, P = pos k l := ⟨_, rfl⟩
  rw [← hPe] at HF HP HS hP c1 hf
  obtain ⟨n, hne⟩ : ∃ n, n = l.length := ⟨_, rfl⟩
  rw [← hne] at hP p0 HH ⊢
  have q1 : (P : Int) < (n : Int) := by omega
  have q0 : (0 : Int) ≤ (P : Int) := by omega
  have HN := Lib.hid hne
  clear h hz hat hPe hne
  go_enter Tryz.func101, Tryz.ntmps101
  go_wp2_with fail
  refine HF.out.mono ?_
  rintro e W2 ⟨rfl, hn2⟩
  have h2 := HH.out.nw hn2
  have hrow := h2.row
  rw [← HN.out] at hrow
  have q2 := cell_nw p0 hn2
  have q3 := cell_nw c1 hn2
  have q4 : W2.frozen? ⟨g, P * 2 + 1, none⟩ = false := hrow.frozenAt _
  haveI : In gp W2 := ⟨h2.lt⟩
  haveI : In g W2 := ⟨World.block_lt_of_cell? W2 _ q3⟩
  have H2 := Lib.hid h2
  have HR := Lib.hid hrow
  have HN2 := Lib.hid hn2
  clear h2 hrow hn2
  go_wp2
  have hne2 : g ≠ gp := fun e => HH.out.ne (by rw [e]; rfl)
  have hst := HR.out.stored (P * 2 + 1) (.int .u64 x)
  have hch : Chg [g] W2 (W2.setCell ⟨g, P * 2 + 1, none⟩ (.int .u64 x)) := Chg.set1 _ _ _ _
  have hgp : gp ∉ [g] := by simp; omega
  refine bodyPost_ret (results_none rfl _ _ _) rfl ⟨rfl, ⟨hch.cell H2.out.p0 hgp, ?_, H2.out.ne, (hch.frozen H2.out.lt hgp).trans H2.out.pz, put_asc k x H2.out.asc⟩, (Chg.of_nw HN2.out).trans hch⟩
  have e1 : (putL k x l).length = l.length := by rw [put_len, hh, if_pos rfl]
  rw [e1, ← HN.out, ← HS.out, ← HP.out]
  exact hst.1
set_option maxRecDepth 20000 in
set_option maxHeartbeats 4000000 in
theorem set_new (w : World) (gp : Nat) (v : Value) (l : List (Int × Int)) (k x : Int) (h : OM w gp v l) (hn : l.length ≤ 1000000) (hh : hasK k l = false) :
    Calls Tryz.prog 101 #[.pointer (some ⟨gp, 0, none⟩), .int .u64 k, .int .u64 x] w fun e w' => e = .returned (.tuple #[]) ∧ ∃ v', OM w' gp v' (putL k x l) ∧ Chg (foot gp v) w w' ∧ Moved w v v' := by
  have p0 := h.p0
  haveI : In gp w := ⟨h.lt⟩
  have HF := Lib.hid (find_om h hn k)
  have HH := Lib.hid h
  have HS := Lib.hid (put_new k x l hh)
  rw [hh] at HF
  have HPL := Lib.hid (pos_le k l)
  clear h
  go_enter Tryz.func101, Tryz.ntmps101
  go_wp2_with fail
  refine HF.out.mono ?_
  rintro e w' ⟨rfl, dW, rfl⟩
  have h2 := HH.out.nw (⟨dW, rfl⟩ : Nw w (w.ext none dW))
  have H2 := Lib.hid h2
  clear h2
  go_wp2_with fail
  have hnA : Nw (w.ext none dW) ((w.ext none dW).alloc (.cells #[.int .u64 k, .int .u64 x] 51)) := (Nw.refl _).alloc _
  refine (insert_any v l.length l (pos k l) _ k x _ (H2.out.nw hnA).row rfl HPL.out hn (by simp [go_sem]) (by simp [go_sem]) (fun e => by have := H2.out.rlt e; omega) 51 2 (by unfold World.shape?; rw [heap_alloc_new]; rfl) (by simp [go_sem])).mono ?_
  rintro e W3 ⟨vN, rfl, hown, hgr, hmv⟩
  obtain ⟨gN, cN, hvN⟩ : ∃ gN cN, vN = .slice (some ⟨gN, 0, none⟩) (l.length + 1) cN := by
    rcases own_forms hown with ⟨_, h0⟩ | ⟨gl, cap, hv, _, _, _, _⟩
    · omega
    · exact ⟨gl, cap, hv⟩
  subst hvN
  have hc3 := (Chg.of_nw hnA).then (X := v.ownBlock.toList) (Chg.of_grownBy hgr) (fun y hy => .inl hy)
  have hgpx : gp ∉ v.ownBlock.toList := by rw [Option.mem_toList]; exact H2.out.ne
  have p3 := hc3.cell H2.out.p0 hgpx
  have z3 := (hc3.frozen H2.out.lt hgpx).trans H2.out.pz
  have HC3 := Lib.hid hc3
  have HMV := Lib.hid hmv
  have HOW := Lib.hid hown
  have hsz : (w.ext none dW).heap.size ≤ ((w.ext none dW).alloc (.cells #[.int .u64 k, .int .u64 x] 51)).heap.size := by simp
  have HSZ := Lib.hid hsz
  clear hc3 hmv hown hgr hgpx hnA hsz
  go_wp2
  have hs1 := Chg.set1 W3 gp 0 (.slice (some ⟨gN, 0, none⟩) (l.length + 1) cN)
  have hs0 := le_size w none dW
  have hs2 := HSZ.out
  have hne' : (Value.slice (some ⟨gN, 0, none⟩) (l.length + 1) cN).ownBlock ≠ some gp := by
    rcases HMV.out with e | ⟨q, e, hq⟩
    · rw [e]; exact H2.out.ne
    · rw [e]; intro he; cases he; have := HH.out.lt; omega
  go_end0
  refine ⟨rfl, _, ⟨World.cell?_setCell_same _ _ _ p3, ?_, hne', by rw [World.frozen?_setCell]; exact z3, put_asc k x H2.out.asc⟩, ?_, ?_⟩
  · have e1 : (putL k x l).length = l.length + 1 := by rw [put_len, hh]; rfl
    rw [e1, ← HS.out]
    exact own_chg HOW.out hs1 (fun g hg hx => by simp at hx; subst hx; exact hne' hg)
  · exact (((Chg.of_nw (⟨dW, rfl⟩ : Nw w (w.ext none dW))).then (X := v.ownBlock.toList) HC3.out (fun y hy => .inl hy)).wide (Y := foot gp v) (fun y hy => by rw [mem_foot]; exact .inr (by simpa using hy))).then hs1 (fun y hy => by simp at hy; subst hy; exact .inl (mem_foot.2 (.inl rfl)))
  · rcases HMV.out with e | ⟨q, e, hq⟩
    · exact .inl e
    · exact .inr ⟨q, e, by omega⟩
theorem set_any (w : World) (gp : Nat) (v : Value) (l : List (Int × Int)) (k x : Int) (h : OM w gp v l) (hn : l.length ≤ 1000000) :
    Calls Tryz.prog 101 #[.pointer (some ⟨gp, 0, none⟩), .int .u64 k, .int .u64 x] w fun e w' => e = .returned (.tuple #[]) ∧ ∃ v', OM w' gp v' (putL k x l) ∧ Chg (foot gp v) w w' ∧ Moved w v v' := by
  cases hh : hasK k l with
  | true =>
    rcases h.form with ⟨rfl, rfl⟩ | ⟨g, c, rfl, -, -, -⟩
    · cases hh
    · refine (set_had w gp g c l k x h hn hh).mono ?_
      rintro e w' ⟨rfl, ho, hc⟩
      exact ⟨rfl, _, ho, hc.wide (fun y hy => by simp at hy; subst hy; exact mem_foot.2 (.inr rfl)), .inl rfl⟩
  | false => exact set_new w gp v l k x h hn hh
end Go.Proofs.YtkikdpdainmlcaaGreat
namespace Go.Proofs.YtkikdpdainmlcaaGreat
open Go.RowKit Go.Xt
/-! slices.Delete, slices.Clone at any pairs. -/
theorem step_app_eq {Q0 : Program} {ops : Array Oper} {o : Oper} {a : Act} {w : World} {K : Act → World → Prop} {Q : Exit → Act → World → Prop} {E : Prop}
    (hg : o.guard = none) (d x : Operand) (dT sT : TypeId) (hop : o.op = Op.call { callee := Callee.builtin Builtin.append, args := #[d, x], argTypes := #[dT, sT] })
    (v u : Value) (hd : a.eval d = v) (hx : a.eval x = u) {v' : Value} {w' : World} (hr : (Builtin.append_ #[dT, sT] o.type #[v, u]).run Q0 w = .ok v' w') (hK : K (a.put o.dst v') w') :
    if Region.wanted o (yielded ops a.tmps) = true then Oper.wp Q0 o a w K Q else E := by
  have hw : Region.wanted o (yielded ops a.tmps) = true := by simp [Region.wanted, hg]
  rw [if_pos hw]
  unfold Oper.wp
  simp [execOp, hop, resolve, invoke, builtin, hd, hx, hr, Result.andThen]
  exact hK
theorem clear_any (b o m c : Nat) (w : World) (hc : ∀ j, j < m * 2 → (w.cell? ⟨b, o + j, none⟩).isSome = true) (hf : ∀ j, j < m * 2 → w.frozen? ⟨b, o + j, none⟩ = false) (ty : TypeId) :
    (Builtin.clear_ #[47] ty #[.slice (some ⟨b, o, none⟩) m c]).run Tryz.prog w = .ok (.tuple #[]) (w.setCells b o (Builtin.zeroCells (Value.agg #[.int .u64 0, .int .u64 0]).cells m).toList) := by
  have hv : ∀ w, (zeroValue 51).run Tryz.prog w = .ok (.agg #[.int .u64 0, .int .u64 0]) w := fun w => by kernel_rfl
  have hl : (Builtin.zeroCells (Value.agg #[.int .u64 0, .int .u64 0]).cells m).toList.length = m * 2 := by
    rw [Array.length_toList, size_zeroCells]; rfl
  have hone : ∀ v ∈ (Builtin.zeroCells (Value.agg #[.int .u64 0, .int .u64 0]).cells m).toList, v.oneCell' = true := by
    intro v hv
    have e : (Value.agg #[.int .u64 0, .int .u64 0]).cells = #[.int .u64 0, .int .u64 0] := by kernel_rfl
    rw [e] at hv
    simp [Builtin.zeroCells] at hv
    obtain ⟨q, _, hv⟩ := hv
    subst hv
    rcases Nat.mod_two_eq_zero_or_one q with h | h <;> rw [h] <;> rfl
  have hst := run_storeCells_cells (P := Tryz.prog) b o (Builtin.zeroCells (Value.agg #[.int .u64 0, .int .u64 0]).cells m).toList 0 w (fun j hj => by rw [hl] at hj; simpa using hc j hj) (fun j hj => by rw [hl] at hj; simpa using hf j hj) hone
  simp only [Nat.add_zero] at hst
  cases m with
  | zero =>
    have hz : (Builtin.zeroCells (Value.agg #[.int .u64 0, .int .u64 0]).cells 0).toList = [] := by simp [Builtin.zeroCells]
    rw [hz]
    simp [Builtin.clear_, run_underlying (Tryz.underlying47)]
    rfl
  | succ m =>
    simp [Builtin.clear_, run_underlying (Tryz.underlying47), hv, hst]
theorem del_cells {l : List (Int × Int)} {cur zs : List Value} {i j n c m : Nat} (hl : l.length = n) (hij : i ≤ j) (hj : j ≤ n) (hm : m = i + (n - j)) (hc : n ≤ c) (hcur : cur.take (n * 2) = pcells l) (hlen : cur.length = c * 2) :
    (setL (setL cur (i * 2) (pcells (l.drop j))) (m * 2) zs).take (m * 2) = pcells (l.take i ++ l.drop j) := by
  have hd : (pcells (l.drop j)).length = (n - j) * 2 := by rw [pcells_len, List.length_drop, hl]
  have ht : (pcells (l.take i)).length = i * 2 := by rw [pcells_len, List.length_take, hl]; congr 1; omega
  have hpl : pcells l = pcells (l.take i) ++ pcells (l.drop i) := by rw [← pcells_app, List.take_append_drop]
  rw [pcells_app]
  apply List.ext_getElem?
  intro q
  rw [List.getElem?_take]
  by_cases hq : q < m * 2
  · rw [if_pos hq, setL_out _ _ _ _ (by omega)]
    by_cases h1 : q < i * 2
    · rw [setL_out _ _ _ _ (by omega), List.getElem?_append_left (by omega)]
      have : cur[q]? = (pcells l)[q]? := by rw [← hcur, List.getElem?_take, if_pos (by omega)]
      rw [this, hpl, List.getElem?_append_left (by omega)]
    · have e : q = i * 2 + (q - i * 2) := by omega
      rw [e, setL_in _ _ _ _ (by omega) (by omega), List.getElem?_append_right (by omega)]
      congr 1; omega
  · rw [if_neg hq, List.getElem?_eq_none (by simp [hd, ht]; omega)]
set_option maxRecDepth 20000 in
set_option maxHeartbeats 4000000 in
theorem delete_nil (w : World) :
    Calls Tryz.prog 154 #[.slice none 0 0, .int .i64 0, .int .i64 0] w fun e w' => e = .returned (.slice none 0 0) ∧ Nw w w' := by
  go_enter Tryz.func154, Tryz.ntmps154
  go_wp2
  refine bodyPost_ret (results_tmp rfl _ _ _) rfl ⟨rfl, nwa⟩
set_option maxRecDepth 20000 in
set_option maxHeartbeats 4000000 in
theorem delete_some (base g n c : Nat) (l : List (Int × Int)) (i j m : Nat) (w : World) (hown : w.ownsRow base 51 2 (.slice (some ⟨g, 0, none⟩) n c) n (pcells l)) (hl : l.length = n) (hij : i < j) (hj : j ≤ n) (hn : n ≤ 1000000) (hm : m = i + (n - j)) :
    Calls Tryz.prog 154 #[.slice (some ⟨g, 0, none⟩) n c, .int .i64 i, .int .i64 j] w fun e w' => e = .returned (.slice (some ⟨g, 0, none⟩) m c) ∧ w'.ownsRow base 51 2 (.slice (some ⟨g, 0, none⟩) m c) m (pcells (l.take i ++ l.drop j)) ∧ Chg [g] w w' := by
  obtain ⟨cur, hfull, hcur, hclen, hnc⟩ := own_full hown
  have hadd : ∀ (b o j : Nat), (⟨b, o, none⟩ : Addr).add j = ⟨b, o + j, none⟩ := fun b o j => by unfold Addr.add; split <;> simp_all
  obtain ⟨ti, hi1, hz0, hz1, hz2⟩ := info_parts pairInfo
  have hfd := own_nw hfull (Nw.drew (Nw.refl w))
  have hsome : ∀ (W : World) (xs : List Value), W.ownsRow base 51 2 (.slice (some ⟨g, 0, none⟩) c c) c xs → ∀ q, q < c * 2 → (W.cell? ⟨g, q, none⟩).isSome = true := fun W xs h q hq => by
    rw [h.cellAt q hq, List.getElem?_eq_getElem (by rw [h.1]; exact hq)]; rfl
  have hdl : (pcells (l.drop j)).length = (n - j) * 2 := by rw [pcells_len, List.length_drop, hl]
  have htl : (pcells (l.take j)).length = j * 2 := by rw [pcells_len, List.length_take, hl]; congr 1; omega
  have hsrc : ∀ q v, (pcells (l.drop j))[q]? = some v → w.drew.cell? ⟨g, j * 2 + q, none⟩ = some v := fun q v hq => by
    have hql := (List.getElem?_eq_some_iff.1 hq).1
    rw [hfd.cellAt _ (by omega)]
    have h1 : (pcells l)[j * 2 + q]? = some v := by
      rw [← List.take_append_drop j l, pcells_app, List.getElem?_append_right (by omega), htl, show j * 2 + q - j * 2 = q by omega]; exact hq
    rw [← hcur, List.getElem?_take, if_pos (by omega)] at h1
    exact h1
  obtain ⟨W3, hW3⟩ : ∃ W3, W3 = w.drew.setCells g (i * 2) (pcells (l.drop j)) := ⟨_, rfl⟩
  have hroom : ∀ (x : Value) (ty : TypeId), Src Tryz.prog ti.size 47 x (n - j) (pcells (l.drop j)) w.drew → (Builtin.append_ #[47, 47] ty #[.slice (some ⟨g, 0, none⟩) i c, x]).run Tryz.prog w.drew = .ok (.slice (some ⟨g, 0, none⟩) m c) W3 := fun x ty hs => by
    have := run_append_room_src w.drew 47 47 ty 51 ti Tryz.underlying47 hi1 g 0 i c x (n - j) _ hs (by omega) (fun q hq => by rw [hz1]; exact hsome _ _ hfd _ (by omega)) (fun q hq => hfd.frozenAt _)
    rw [this, hz1, Nat.zero_add, hW3, hm]
  have hap : ∀ ty sc, (Builtin.append_ #[47, 47] ty #[.slice (some ⟨g, 0, none⟩) i c, .slice (some ⟨g, j * 2, none⟩) (n - j) sc]).run Tryz.prog w.drew = .ok (.slice (some ⟨g, 0, none⟩) m c) W3 := fun ty sc =>
    hroom _ ty (Src.ofSlice w.drew Tryz.underlying47 _ _ _ _ (by rw [hz1, hdl]) (fun q v hq => by rw [hadd]; exact hsrc q v hq) (pcells_one _))
  have hrow3 := own_setCells (pcells (l.drop j)) cur (i * 2) w.drew hfd
  rw [← hW3] at hrow3
  obtain ⟨zs, hzs⟩ : ∃ zs, zs = (Builtin.zeroCells (Value.agg #[.int .u64 0, .int .u64 0]).cells (n - m)).toList := ⟨_, rfl⟩
  obtain ⟨W4, hW4⟩ : ∃ W4, W4 = W3.setCells g (m * 2) zs := ⟨_, rfl⟩
  have hcl : ∀ ty sc, (Builtin.clear_ #[47] ty #[.slice (some ⟨g, m * 2, none⟩) (n - m) sc]).run Tryz.prog W3 = .ok (.tuple #[]) W4 := fun ty sc => by
    rw [hW4, hzs]
    exact clear_any g (m * 2) (n - m) sc W3 (fun q hq => hsome _ _ hrow3.1 _ (by omega)) (fun q _ => hrow3.1.frozenAt _) ty
  have hrow4 := own_setCells zs _ (m * 2) W3 hrow3.1
  rw [← hW4] at hrow4
  have hfin := own_take hrow4.1 (by omega : m ≤ c)
  rw [del_cells hl (by omega) hj hm hnc hcur hclen] at hfin
  have hch : Chg [g] w W4 := (Chg.of_nw (Nw.drew (Nw.refl w))).trans ((Chg.of_grownBy hrow3.2).trans (Chg.of_grownBy hrow4.2))
  have AP := Lib.hid hap
  have FIN := Lib.hid hfin
  have HCH := Lib.hid hch
  have HRM := Lib.hid hroom
  haveI : In g w := ⟨hown.lt _ rfl |>.2⟩
  have HSZ := Lib.hid hz1
  have a1 : (i : Int) ≤ (j : Int) := by omega
  have a2 : (j : Int) ≤ (n : Int) := by omega
  have a3 : (n : Int) ≤ (c : Int) := by omega
  have a4 : (i : Int) ≤ (c : Int) := by omega
  have a5 : ((i : Int) == (j : Int)) = false := by simp; omega
  have a6 : ¬ i = j := by omega
  have a7 : (m : Int) ≤ (n : Int) := by omega
  have a8 : ¬ n ≤ i := by omega
  have a9 : ¬ n = i := by omega
  have b1 : ¬ c ≤ m := by omega
  have b2 : ¬ c = m := by omega
  have b3 : m ≤ n := by omega
  have b4 : i ≤ j := by omega
  have b5 : i ≤ c := by omega
  have HN := Lib.hid (by omega : n - j = 0 ∨ j < c)
  clear hm hij hadd hsome hdl htl hsrc hW3 hap hrow3 hzs hW4 hrow4 hfin hch hroom hfd hfull hcur hclen hown hz0 hz1 hz2 hi1
  by_cases hjc : c ≤ j
  · have hj0 : n - j = 0 := by rcases HN.out with h | h <;> omega
    obtain rfl : j = n := by omega
    obtain rfl : c = j := by omega
    have hdr : pcells (l.drop c) = [] := by rw [← hl, List.drop_length]; rfl
    have hap2 : ∀ ty a sc, (Builtin.append_ #[47, 47] ty #[.slice (some ⟨g, 0, none⟩) i c, .slice (some a) 0 sc]).run Tryz.prog w.drew = .ok (.slice (some ⟨g, 0, none⟩) m c) W3 := fun ty a sc =>
      HRM.out _ ty (by rw [hj0, hdr]; exact Src.ofSlice w.drew Tryz.underlying47 a 0 sc [] (by simp) (by simp) (by simp))
    have AP2 := Lib.hid hap2
    clear hap2 hdr hj0
    go_enter Tryz.func154, Tryz.ntmps154
    go_upto_region 5 with (fail)
    go_region_law (refine step_app_eq rfl (.tmp 22) (.tmp 25) 47 47 rfl _ _ (by first | (simp [Act.eval, Act.put]; done) | (simp [Act.eval, Act.put]; rfl)) (by first | (simp [Act.eval, Act.put]; done) | (simp [Act.eval, Act.put]; rfl) | (simp [Act.eval, Act.put]; exact ⟨rfl, rfl⟩)) (AP2.out _ _ _) ?_)
    go_wp2
    exact bodyPost_ret (results_tmp rfl _ _ _) rfl ⟨rfl, FIN.out, HCH.out⟩
  · have c1 : ¬ c = j := by omega
    go_enter Tryz.func154, Tryz.ntmps154
    go_upto_region 5 with (fail)
    go_region_law (refine step_app_eq rfl (.tmp 22) (.tmp 25) 47 47 rfl _ _ (by first | (simp [Act.eval, Act.put]; done) | (simp [Act.eval, Act.put]; rfl)) (by first | (simp [Act.eval, Act.put]; done) | (simp [Act.eval, Act.put]; rfl)) (AP.out _ _) ?_)
    go_wp2
    exact bodyPost_ret (results_tmp rfl _ _ _) rfl ⟨rfl, FIN.out, HCH.out⟩
set_option maxRecDepth 20000 in
set_option maxHeartbeats 4000000 in
theorem delete_none (g n c : Nat) (i : Nat) (w : World) (hi : i ≤ n) (hc : n ≤ c) :
    Calls Tryz.prog 154 #[.slice (some ⟨g, 0, none⟩) n c, .int .i64 i, .int .i64 i] w fun e w' => e = .returned (.slice (some ⟨g, 0, none⟩) n c) ∧ Nw w w' := by
  have a1 : (i : Int) ≤ (n : Int) := by omega
  have a2 : (n : Int) ≤ (c : Int) := by omega
  by_cases h : n ≤ i
  · obtain rfl : i = n := by omega
    go_enter Tryz.func154, Tryz.ntmps154
    go_wp2
    refine bodyPost_ret (results_tmp rfl _ _ _) rfl ⟨rfl, nwa⟩
  · have h2 : ¬ n = i := by omega
    go_enter Tryz.func154, Tryz.ntmps154
    go_wp2
    refine bodyPost_ret (results_tmp rfl _ _ _) rfl ⟨rfl, nwa⟩
theorem delete_any (v : Value) (l : List (Int × Int)) (i j m : Nat) (w : World) (hown : w.ownsRow 0 51 2 v l.length (pcells l)) (hij : i ≤ j) (hj : j ≤ l.length) (hn : l.length ≤ 1000000) (hm : m = i + (l.length - j)) :
    Calls Tryz.prog 154 #[v, .int .i64 i, .int .i64 j] w fun e w' => ∃ v', e = .returned v' ∧ w'.ownsRow 0 51 2 v' m (pcells (l.take i ++ l.drop j)) ∧ Chg v.ownBlock.toList w w' ∧ v'.ownBlock = v.ownBlock := by
  rcases own_forms hown with ⟨rfl, h0⟩ | ⟨g, c, rfl, _, _, hc, _⟩
  · obtain rfl : l = [] := List.length_eq_zero_iff.1 h0
    obtain rfl : j = 0 := by simpa using hj
    obtain rfl : i = 0 := by omega
    subst hm
    refine (delete_nil w).mono ?_
    rintro e w' ⟨rfl, hn⟩
    exact ⟨_, rfl, own_nw hown hn, (Chg.of_nw hn : Chg [] w w').wide (by simp), rfl⟩
  · by_cases h : i = j
    · subst h
      obtain rfl : m = l.length := by omega
      rw [List.take_append_drop]
      refine (delete_none g l.length c i w (by omega) hc).mono ?_
      rintro e w' ⟨rfl, hn⟩
      exact ⟨_, rfl, own_nw hown hn, (Chg.of_nw hn : Chg [] w w').wide (by simp), rfl⟩
    · refine (delete_some 0 g l.length c l i j m w hown rfl (by omega) hj hn hm).mono ?_
      rintro e w' ⟨rfl, h1, h2⟩
      exact ⟨_, rfl, h1, h2, rfl⟩
set_option maxRecDepth 20000 in
set_option maxHeartbeats 4000000 in
theorem clone_any (A : Option Addr) (n c : Nat) (l : List (Int × Int)) (w : World) (hr : Rd w 2 A n (pcells l)) (hn : n ≤ 1000000) (hA : A = none → n = 0 ∧ c = 0) :
    Calls Tryz.prog 38 #[.slice A n c] w fun e w' => ∃ v', e = .returned v' ∧ w'.ownsRow w.heap.size 51 2 v' n (pcells l) ∧ Nw w w' := by
  have q22 : ∀ (w : World) (a : Option Addr) (n c n' c' : Nat), (binOp .eql 47 (.slice a n c) (.slice none n' c')).run Tryz.prog w = .ok (.bool a.isNone) w := fun w a n c n' c' => Lib.run_eql_slice_nil w _ _ a n c n' c' Tryz.underlying47
  cases A with
  | none =>
    obtain ⟨rfl, rfl⟩ := hA rfl
    have hl : pcells l = [] := List.eq_nil_of_length_eq_zero (by simpa using hr.1)
    rw [hl]
    clear hr hl
    go_enter Tryz.func38, Tryz.ntmps38
    go_wp2
    refine bodyPost_ret (results_tmp rfl _ _ _) rfl ⟨_, rfl, World.ownsRow_nil _ _ _ _, nwa⟩
  | some a =>
    have HR := Lib.hid (hr.nw (nwa : Nw w (w.alloc (.cells #[] 51))))
    have HL := Lib.hid (pcells_one l)
    clear hr hA
    go_enter Tryz.func38, Tryz.ntmps38
    go_wp2_with (at_builtin; refine wpList_appS rfl (.tmp 5) (.tmp 6) 47 rfl 51 (.agg #[.int .u64 0, .int .u64 0]) 2 16 Tryz.underlying47 pairInfo rfl (by decide) w _ nwa _ 0 [] rfl (World.ownsRow_made w #[] 0 (Nat.le_refl _) (Nat.zero_le _) rfl) (some a) n c _ rfl HR.out HL.out (by unfold maxLen; omega) (by omega) ?_; intro v' d' hown _)
    rw [Nat.zero_add, List.nil_append] at hown
    refine bodyPost_ret (results_tmp rfl _ _ _) rfl ⟨v', rfl, hown, nwa⟩
end Go.Proofs.YtkikdpdainmlcaaGreat
