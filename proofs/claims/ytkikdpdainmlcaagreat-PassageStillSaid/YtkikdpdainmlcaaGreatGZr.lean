import Derived.Test.YtkikdpdainmlcaaGreatGZq
set_option linter.unusedVariables false
set_option linter.unusedSimpArgs false
set_option linter.unnecessarySimpa false
namespace Go.Proofs.YtkikdpdainmlcaaGreat
open Go.RowKit Go.Xt
attribute [local go_sem] Oper.semAt_some
/-! Owed. -/
def onlyN (Q : Exit → Act → World → Prop) : Exit → Act → World → Prop
  | .normal, a, w => Q .normal a w
  | _, _, _ => False
theorem onlyN_normal (Q : Exit → Act → World → Prop) (a : Act) (w : World) : onlyN Q .normal a w = Q .normal a w := rfl
theorem wp_onlyN {P : Program} {Q : Exit → Act → World → Prop} {a : Act} {w : World} {c : Code} (h : c.wp P (onlyN Q) a w) : c.wp P Q a w := by
  intro b k cs
  obtain ⟨e, a', w', q, r⟩ := h b k cs
  refine ⟨e, a', w', ?_, r⟩
  cases e with
  | normal => exact q
  | _ => exact q.elim
def u64c (l : List Int) : List Value := l.map fun k => .int .u64 k
def OwedP (w : World) (r : Int × List Int) (e : Ending) (w' : World) : Prop := ∃ v, e = .returned (.tuple #[v, .int .i64 r.1]) ∧ w'.ownsRow w.heap.size 39 1 v r.2.length (u64c r.2) ∧ Nw w w'
theorem owR_at {l : List Cl} {x : Lf} {ps : List (Int × Int)} {L : List Nat} {j q : Nat} {y : Cl} (hj : L[j]? = some q) (hy : l[q]? = some y) :
    owR l x ps (L.drop j) = if y.kd = 12 ∧ y.re = 14 then some (q, ps) else owR l (aftL x y) (if y.kd = 13 ∧ y.re = 0 ∧ x.more = true ∧ x.lo < y.ka then ps ++ [(x.lo, min x.hi (y.ka - 1))] else ps) (L.drop (j + 1)) := by
  obtain ⟨p, e⟩ := List.getElem?_eq_some_iff.1 hj
  rw [List.drop_eq_getElem_cons p, e, owR, hy]
theorem spInfo : (Tryz.prog.info? 66).map (fun i => (i.zero, i.size, i.bytes)) = some (some (.agg #[.int .u64 0, .int .u64 0]), 2, 16) := by kernel_rfl
theorem u64Info : (Tryz.prog.info? 39).map (fun i => (i.zero, i.size, i.bytes)) = some (some (.int .u64 0), 1, 8) := by kernel_rfl
set_option maxHeartbeats 1000000 in
theorem owed1_any (k x1 x2 : Int) (bb : Nat) (w : World) (hk : w.cell? ⟨bb, 0, none⟩ = some (.int .u64 k)) :
    Calls Tryz.prog 36 #[.agg #[.int .u64 x1, .int .u64 x2], .pointer (some ⟨bb, 0, none⟩)] w fun e w' => e = .returned (.bool (decide (x1 ≤ k) && decide (k ≤ x2))) ∧ Nw w w' := by
  haveI : In bb w := ⟨World.block_lt_of_cell? w _ hk⟩
  by_cases k1 : x1 ≤ k
  · have d1 : decide (x1 ≤ k) = true := by simpa using k1
    rw [d1]
    go_enter Tryz.func36, Tryz.ntmps36
    go_wp2
    all_goals (go_ret; refine ⟨?_, nwa⟩)
    all_goals rfl
  · have d1 : decide (x1 ≤ k) = false := by simpa using k1
    rw [d1]
    go_enter Tryz.func36, Tryz.ntmps36
    go_wp2
    all_goals (go_ret; refine ⟨?_, nwa⟩)
    all_goals rfl
structure OwS (w : World) (c : Cf) (Bx Bw Bp bz : Nat) (x0 : Cl) (L : List Nat) (xc : Lf) (ps : List (Int × Int)) (v : Value) (W : World) : Prop where
  nw : Nw w W
  ca : ConfAt W w.heap.size c
  lf : LfAt W Bx xc
  f1 : W.frozen? ⟨Bx, 1, none⟩ = false
  w0 : W.cell? ⟨Bw, 0, none⟩ = some (.int .u64 x0.ka)
  w1 : W.cell? ⟨Bw, 1, none⟩ = some (.int .u64 x0.kb)
  p0 : W.cell? ⟨Bp, 0, none⟩ = some v
  pf : W.frozen? ⟨Bp, 0, none⟩ = false
  row : W.ownsRow w.heap.size 66 2 v ps.length (pcells ps)
  vb : ∀ g, v.ownBlock = some g → g ≠ w.heap.size ∧ g ≠ Bx ∧ g ≠ Bw ∧ g ≠ Bp ∧ g ≠ bz
  cell : ∀ (j q : Nat), L[j]? = some q → W.cell? ⟨bz, 1 + j, none⟩ = some (.int .i64 (q : Int))
  ne : Bx ≠ w.heap.size ∧ Bx ≠ Bw ∧ Bx ≠ Bp ∧ Bx ≠ bz ∧ Bp ≠ w.heap.size ∧ Bp ≠ Bw ∧ Bp ≠ bz ∧ w.heap.size ≤ Bx ∧ w.heap.size ≤ Bp
  lz : L = [] ∨ bz < W.heap.size
theorem OwS.grow {w : World} {c : Cf} {Bx Bw Bp bz : Nat} {x0 : Cl} {L : List Nat} {xc : Lf} {ps : List (Int × Int)} {v : Value} {W W' : World} (h : OwS w c Bx Bw Bp bz x0 L xc ps v W) (hn : Nw W W') : OwS w c Bx Bw Bp bz x0 L xc ps v W' :=
  ⟨h.nw.trans hn, h.ca.nw hn, h.lf.nw hn, (frozen_nw (World.block_lt_of_cell? W _ h.lf.c0) hn).trans h.f1, cell_nw h.w0 hn, cell_nw h.w1 hn, cell_nw h.p0 hn, (frozen_nw (World.block_lt_of_cell? W _ h.p0) hn).trans h.pf, own_nw h.row hn, h.vb, fun j q hq => cell_nw (h.cell j q hq) hn, h.ne, h.lz.imp id fun e => Nat.lt_of_lt_of_le e hn.grown.size⟩
theorem OwS.left {w : World} {c : Cf} {Bx Bw Bp bz : Nat} {x0 : Cl} {L : List Nat} {xc : Lf} {ps : List (Int × Int)} {v : Value} {W : World} (h : OwS w c Bx Bw Bp bz x0 L xc ps v W) (x' : Lf) :
    OwS w c Bx Bw Bp bz x0 L x' ps v (((W.setCell ⟨Bx, 0, none⟩ (.int .u64 x'.lo)).setCell ⟨Bx, 1, none⟩ (.int .u64 x'.hi)).setCell ⟨Bx, 2, none⟩ (.bool x'.more)) := by
  have hc : Chg [Bx] W (((W.setCell ⟨Bx, 0, none⟩ (.int .u64 x'.lo)).setCell ⟨Bx, 1, none⟩ (.int .u64 x'.hi)).setCell ⟨Bx, 2, none⟩ (.bool x'.more)) := ((Chg.set1 _ _ 0 _).trans (Chg.set1 _ _ 1 _)).trans (Chg.set1 _ _ 2 _)
  obtain ⟨n1, n2, n3, n4, n5, n6, n7, n8, n9⟩ := h.ne
  have c0 := h.lf.c0
  have c1 := h.lf.c1
  have c2 := h.lf.c2
  have f0 := h.lf.f0
  have f2 := h.lf.f2
  have f1 := h.f1
  refine ⟨nw_chg2 h.nw hc (fun k hk => by simp at hk; omega), ⟨fun i u hu => hc.cell (h.ca.at_ i u hu) (by simp; omega), Nat.lt_of_lt_of_le h.ca.lt hc.size⟩, ⟨by simp [go_sem, c0], by simp [go_sem, c1], by simp [go_sem, c2], by simp [go_sem, f0], by simp [go_sem, f2]⟩, by simp [go_sem, f1], hc.cell h.w0 (by simp; omega), hc.cell h.w1 (by simp; omega), hc.cell h.p0 (by simp; omega), (hc.frozen (World.block_lt_of_cell? W _ h.p0) (by simp; omega)).trans h.pf, own_chg h.row hc (fun g hg => by simp; exact (h.vb g hg).2.1), h.vb, fun j q hq => hc.cell (h.cell j q hq) (by simp; omega), h.ne, h.lz.imp id fun e => Nat.lt_of_lt_of_le e hc.size⟩
theorem OwS.push {w : World} {c : Cf} {Bx Bw Bp bz : Nat} {x0 : Cl} {L : List Nat} {xc : Lf} {ps : List (Int × Int)} {v v2 : Value} {W wA : World} {s : Int × Int} (h : OwS w c Bx Bw Bp bz x0 L xc ps v W)
    (hrow : wA.ownsRow w.heap.size 66 2 v2 (ps.length + 1) (pcells (ps ++ [s]))) (hc : Chg v.ownBlock.toList W wA) (hmv : ∀ k, v2.ownBlock = some k → v.ownBlock = some k ∨ W.heap.size ≤ k) (hL : L ≠ []) :
    OwS w c Bx Bw Bp bz x0 L xc (ps ++ [s]) v2 (wA.setCell ⟨Bp, 0, none⟩ v2) := by
  obtain ⟨n1, n2, n3, n4, n5, n6, n7, n8, n9⟩ := h.ne
  have hs : Chg [Bp] wA (wA.setCell ⟨Bp, 0, none⟩ v2) := Chg.set1 wA Bp 0 _
  have hne : ∀ g, g ∉ v.ownBlock.toList ↔ v.ownBlock ≠ some g := fun g => by rw [Option.mem_toList]
  have vx : Bx ∉ v.ownBlock.toList := (hne Bx).2 fun e => (h.vb Bx e).2.1 rfl
  have vw : Bw ∉ v.ownBlock.toList := (hne Bw).2 fun e => (h.vb Bw e).2.2.1 rfl
  have vp : Bp ∉ v.ownBlock.toList := (hne Bp).2 fun e => (h.vb Bp e).2.2.2.1 rfl
  have vz : bz ∉ v.ownBlock.toList := (hne bz).2 fun e => (h.vb bz e).2.2.2.2 rfl
  have vc : w.heap.size ∉ v.ownBlock.toList := (hne _).2 fun e => (h.vb _ e).1 rfl
  have lx : Bx < W.heap.size := World.block_lt_of_cell? W _ h.lf.c0
  have lw : Bw < W.heap.size := World.block_lt_of_cell? W _ h.w0
  have lp : Bp < W.heap.size := World.block_lt_of_cell? W _ h.p0
  have lc : w.heap.size < W.heap.size := h.ca.lt
  have lz : bz < W.heap.size := h.lz.resolve_left hL
  have p1 := hc.cell h.p0 vp
  refine ⟨nw_chg2 (nw_chg2 h.nw hc (fun k hk => by rw [Option.mem_toList] at hk; exact (h.row.lt k hk).1)) hs (fun k hk => by simp at hk; omega), ⟨fun i u hu => hs.cell (hc.cell (h.ca.at_ i u hu) vc) (by simp; omega), Nat.lt_of_lt_of_le (Nat.lt_of_lt_of_le lc hc.size) hs.size⟩, ⟨hs.cell (hc.cell h.lf.c0 vx) (by simp; omega), hs.cell (hc.cell h.lf.c1 vx) (by simp; omega), hs.cell (hc.cell h.lf.c2 vx) (by simp; omega), (hs.frozen (Nat.lt_of_lt_of_le lx hc.size) (by simp; omega)).trans ((hc.frozen lx vx).trans h.lf.f0), (hs.frozen (Nat.lt_of_lt_of_le lx hc.size) (by simp; omega)).trans ((hc.frozen lx vx).trans h.lf.f2)⟩, (hs.frozen (Nat.lt_of_lt_of_le lx hc.size) (by simp; omega)).trans ((hc.frozen lx vx).trans h.f1), hs.cell (hc.cell h.w0 vw) (by simp; omega), hs.cell (hc.cell h.w1 vw) (by simp; omega), World.cell?_setCell_same' _ _ _ (by rw [p1]; rfl), (World.frozen?_setCell ..).trans ((hc.frozen lp vp).trans h.pf), ?_, fun g hg => ?_, fun j q hq => hs.cell (hc.cell (h.cell j q hq) vz) (by simp; omega), h.ne, .inr (Nat.lt_of_lt_of_le (Nat.lt_of_lt_of_le lz hc.size) hs.size)⟩
  · rw [List.length_append]
    refine own_chg hrow hs (fun g hg => ?_)
    simp
    rintro rfl
    rcases hmv _ hg with e | e
    · exact (h.vb _ e).2.2.2.1 rfl
    · omega
  · rcases hmv g hg with e | e
    · exact h.vb g e
    · exact ⟨by omega, by omega, by omega, by omega, by omega⟩
theorem kcp_app {p : Nat → Prop} {Wc w1 : World} {tmp : Obj} {v v' : Value} {Bo : Nat} (hg : (Wc.alloc tmp).grownBy w1 v.ownBlock) (hne : ∀ g, v.ownBlock = some g → ¬ p g) (hB : ¬ p Bo) : KCp p Wc (w1.setCell ⟨Bo, 0, none⟩ v') := by
  have h1 : Chg v.ownBlock.toList Wc w1 := (Chg.of_nw ((Nw.refl Wc).alloc tmp)).trans ⟨hg.os, hg.tape, hg.output, hg.size, fun k hk hx => hg.block k hk fun e => hx (by rw [← e]; simp)⟩
  have h2 : Chg [Bo] w1 (w1.setCell ⟨Bo, 0, none⟩ v') := Chg.set1 w1 Bo 0 _
  refine ⟨Nat.le_trans h1.size h2.size, fun b o e _ hp => ?_⟩
  have hb := (Array.getElem?_eq_some_iff.1 e).1
  have k1 := h1.block b hb (fun h => by rw [Option.mem_toList] at h; exact hne b h hp)
  have k2 := h2.block b (Nat.lt_of_lt_of_le hb h1.size) (fun h => by simp at h; subst h; exact hB hp)
  exact (k2.trans k1).trans e
def owC (x0 : Cl) (ps : List (Int × Int)) (k : Int) : Bool := (decide (x0.ka ≤ k) && decide (k ≤ x0.kb)) && !skipB ps k
def OwI (w W8 W9 : World) (vm : Value) (q : Int → Bool) (pre : List Int) (W : World) : Prop :=
  (∃ v, Boxed W W8.heap.size 22 v ∧ W.ownsRow W8.heap.size 39 1 v (pre.filter q).length (u64c (pre.filter q)) ∧ True) ∧ (Boxed W (W8.heap.size + 1) 81 vm ∧ (KCp (fun b => b < W8.heap.size ∨ b = W8.heap.size + 1) W9 W ∧ Below w.heap.size w W))
theorem owI_own (w W8 W9 : World) (vm : Value) (q : Int → Bool) : OwnFrom w.heap.size (OwI w W8 W9 vm q) :=
  OwnFrom.and (Own.from (holdsRow_own W8.heap.size W8.heap.size 22 39 1 (fun pre : List Int => (pre.filter q).length) (fun pre => u64c (pre.filter q)) (fun _ _ => True)) _)
    (OwnFrom.and (Own.from (Go.boxed_own (β := List Int) _ _ (fun _ => vm)) _) (OwnFrom.and (fun s A B row hs hg hr => hs.kept hg (fun r e => (hr r e).2)) (ownFrom_below (Nat.le_refl _) (by omega))))
set_option maxRecDepth 100000 in
set_option maxHeartbeats 16000000 in
theorem powed_any {w : World} {c : Cf} {cuts : List Nat} {A : Option Addr} {n cap : Nat} {l : List Cl} (hi : In3 w c cuts A n cap l) (op : Int) :
    Calls Tryz.prog 15 #[confV c, .int .i64 op, .slice A n cap] w (OwedP w (pOwd c cuts op l)) := by
  have HW := Lib.hid (fun W (hq : Nw w W) => wcheck_any (hi.nw hq))
  obtain ⟨r, hr⟩ : ∃ r, r = pOwd c cuts op l := ⟨_, rfl⟩
  rw [← hr]
  unfold pOwd at hr
  by_cases hw0 : (wChk c cuts l).2 = 0
  · obtain ⟨o2, hX⟩ := wChk_X hw0
    have hbad := (wX_ok hX).2.1
    rw [hw0] at HW
    rw [if_neg (by omega)] at hr
    obtain ⟨wi, hwi⟩ : ∃ q, q = (wChk c cuts l).1 := ⟨_, rfl⟩
    rw [← hwi] at HW
    have HI := Lib.hid hi
    clear hwi hw0
    by_cases k0 : op < 0
    · have d0 : decide (op < 0) = true := by simpa using k0
      rw [if_pos k0] at hr
      have HRR := Lib.hid hr
      clear hi hX hbad hr k0
      unfold confV at HW ⊢
      haveI hca : ConfAt (w.alloc (cellsOf c 27)) w.heap.size c := ⟨fun i v hv => by unfold cellsOf; unfold ccells at hv; rw [World.cell?_alloc_new]; simpa using hv, by simp⟩
      obtain ⟨W1, hW1⟩ : ∃ W, W = w.alloc (cellsOf c 27) := ⟨_, rfl⟩
      rw [← hW1] at hca
      have hn1 : Nw w W1 := by rw [hW1]; exact nwa
      unfold cellsOf at hW1
      have HW1 := Lib.hid hW1
      have HN1 := Lib.hid hn1
      haveI : In w.heap.size W1 := ⟨hca.lt⟩
      clear hW1 hn1
      go_enter Tryz.func15, Tryz.ntmps15
      go_upto_region 1 with (fail)
      rw [← HW1.out]
      go_wp2_with fail
      refine (HW.out W1 HN1.out).mono ?_
      rintro e W2 ⟨rfl, hn2⟩
      have HN2 := Lib.hid (HN1.out.trans hn2)
      clear hn2
      go_wp2
      refine bodyPost_ret (results_tmp2 rfl _ _ _) rfl ?_
      rw [HRR.out]
      exact ⟨_, rfl, World.ownsRow_nil _ _ _ _, HN2.out⟩
      
    · have d0 : decide (op < 0) = false := by simpa using k0
      rw [if_neg k0] at hr
      obtain ⟨o, rfl⟩ : ∃ o : Nat, op = (o : Int) := ⟨op.toNat, by omega⟩
      rw [Int.toNat_natCast] at hr
      by_cases k1 : o < n
      · have d1 : decide (n ≤ o) = false := decide_eq_false (by omega)
        obtain ⟨b, ob, x0, rfl, hb, hx0, hcx0⟩ := hi.hl.get k1
        haveI : CallAt w b (ob + o * 18) x0 := ⟨hcx0, hb⟩
        haveI : In b w := ⟨hb⟩
        have hcx : CallAt w b (ob + o * 18) x0 := ⟨hcx0, hb⟩
        have i0 : (o : Int) < (n : Int) := by omega
        have i00 : (0 : Int) ≤ (o : Int) := by omega
        rw [hx0] at hr
        simp only at hr
        cases hbb : begB x0 with
        | false =>
          rw [hbb, if_neg (by simp)] at hr
          have HRR := Lib.hid hr
          clear hi hX hbad hr k0 hx0 hcx0 hb k1
          unfold confV at HW ⊢
          haveI hca : ConfAt (w.alloc (cellsOf c 27)) w.heap.size c := ⟨fun i v hv => by unfold cellsOf; unfold ccells at hv; rw [World.cell?_alloc_new]; simpa using hv, by simp⟩
          obtain ⟨W1, hW1⟩ : ∃ W, W = w.alloc (cellsOf c 27) := ⟨_, rfl⟩
          rw [← hW1] at hca
          have hn1 : Nw w W1 := by rw [hW1]; exact nwa
          unfold cellsOf at hW1
          have HW1 := Lib.hid hW1
          have HN1 := Lib.hid hn1
          haveI : In w.heap.size W1 := ⟨hca.lt⟩
          clear hW1 hn1
          go_enter Tryz.func15, Tryz.ntmps15
          go_upto_region 1 with (fail)
          rw [← HW1.out]
          go_wp2_with fail
          refine (HW.out W1 HN1.out).mono ?_
          rintro e W2 ⟨rfl, hn2⟩
          haveI : CallAt W2 b (ob + o * 18) x0 := CallAt.nwq (HN1.out.trans hn2) (h := hcx)
          haveI : In b W2 := ⟨Nat.lt_of_lt_of_le (In.lt (w := w)) (HN1.out.trans hn2).grown.size⟩
          have HN2 := Lib.hid (HN1.out.trans hn2)
          clear hn2
          go_wp2_with (go_at_call 31; refine (begins_any x0 _).mono ?_; rintro e W3 ⟨rfl, hn3⟩; have HN3 := Lib.hid (HN2.out.trans (Nw.trans (nwa) hn3)))
          refine bodyPost_ret (results_tmp2 rfl _ _ _) rfl ?_
          rw [HRR.out]
          exact ⟨_, rfl, World.ownsRow_nil _ _ _ _, HN3.out⟩
        | true =>
          rw [hbb, if_pos rfl] at hr
          have HRR := Lib.hid hr
          have HOF := Lib.hid (fun W (hq : Nw w W) => of_any o x0 (some ⟨b, ob, none⟩) n cap l W hi.n1 hi.nc hi.cap_ hx0 (hi.hl.nw hq))
          have HD := Lib.hid (fun W (hq : Nw w W) (tz : Int) => pdur_any (hi.nw hq) hX x0.took tz (good_took (good_atP hbad hx0)).1)
          have HXX := Lib.hid (And.intro hx0 (wX_ok hX).2.1)
          clear hi hX hbad hr k0 hx0 hcx0 hb k1
          unfold confV at HW ⊢
          haveI hca : ConfAt (w.alloc (cellsOf c 27)) w.heap.size c := ⟨fun i v hv => by unfold cellsOf; unfold ccells at hv; rw [World.cell?_alloc_new]; simpa using hv, by simp⟩
          obtain ⟨W1, hW1⟩ : ∃ W, W = w.alloc (cellsOf c 27) := ⟨_, rfl⟩
          rw [← hW1] at hca
          have hn1 : Nw w W1 := by rw [hW1]; exact nwa
          unfold cellsOf at hW1
          have HW1 := Lib.hid hW1
          have HN1 := Lib.hid hn1
          haveI : In w.heap.size W1 := ⟨hca.lt⟩
          clear hW1 hn1
          refine (callsIn_wide (n := 9)).1 ?_
          refine callsIn_of_wp_marks Tryz.func15 rfl trivial ?_ rfl
          refine wpIn_wide.2 ?_
          simp only [Tryz.ntmps15, List.size_toArray, List.length_cons, List.length_nil, Nat.reduceAdd, Nat.reduceSub, Array.replicate_succ, Array.replicate_zero, List.push_toArray, List.append_toArray, List.nil_append, List.cons_append]

          go_upto_region 1 with (fail)
          rw [← HW1.out]
          go_wp2_with fail
          refine (HW.out W1 HN1.out).mono ?_
          rintro e W2 ⟨rfl, hn2⟩
          haveI : CallAt W2 b (ob + o * 18) x0 := CallAt.nwq (HN1.out.trans hn2) (h := hcx)
          haveI : In b W2 := ⟨Nat.lt_of_lt_of_le (In.lt (w := w)) (HN1.out.trans hn2).grown.size⟩
          have HN2 := Lib.hid (HN1.out.trans hn2)
          haveI hca2 : ConfAt W2 w.heap.size c := hca.nw hn2
          clear hn2
          go_upto_region 6 with (go_at_call 31; refine (begins_any x0 _).mono ?_; rintro e W3 ⟨rfl, hn3⟩; have hn23 : Nw W2 W3 := Nw.trans (nwa) hn3; have hcx3 : CallAt W3 b (ob + o * 18) x0 := CallAt.nwq (HN2.out.trans hn23) (h := hcx); haveI := hcx3; haveI : In b W3 := ⟨hcx3.lt⟩; haveI hca3 : ConfAt W3 w.heap.size c := hca2.nw hn23; have e3 : W3.cell? ⟨b, ob + o * 18 + 2 + 1, none⟩ = some (.int .u64 x0.ka) := (AtC.range hcx3.at_) 3 _ rfl; have e4 : W3.cell? ⟨b, ob + o * 18 + 2 + 2, none⟩ = some (.int .u64 x0.kb) := (AtC.range hcx3.at_) 4 _ rfl; have HN3 := Lib.hid (HN2.out.trans hn23); clear hn3 hn23)
          refine wp_onlyN ?_
          go_region
          all_goals rw [onlyN_normal]
          go_upto_region 9 with (fail)
          obtain ⟨W10, hW10⟩ : ∃ q, q = (((W3.alloc (.cells #[.int .u64 x0.ka, .int .u64 x0.kb, .bool true] 68)).alloc (.cells #[.int .u64 x0.ka, .int .u64 x0.kb] 66)).alloc (.cells #[.slice none 0 0] 79)).drew := ⟨_, rfl⟩
          rw [← hW10]
          have hn10 : Nw W3 W10 := by rw [hW10]; exact nwa
          have hs10 : W10.heap.size = W3.heap.size + 3 := by rw [hW10]; simp
          have hl10 : LfAt W10 W3.heap.size (lfOf x0) := by rw [hW10]; exact ⟨by simp [go_sem, lfOf], by simp [go_sem, lfOf], by simp [go_sem, lfOf], by simp [go_sem], by simp [go_sem]⟩
          have hf10 : W10.frozen? ⟨W3.heap.size, 1, none⟩ = false := by rw [hW10]; simp [go_sem]
          have hw0 : W10.cell? ⟨(W3.heap.size + 1), 0, none⟩ = some (.int .u64 x0.ka) := by rw [hW10]; simp [go_sem]
          have hw1 : W10.cell? ⟨(W3.heap.size + 1), 1, none⟩ = some (.int .u64 x0.kb) := by rw [hW10]; simp [go_sem]
          have hp0 : W10.cell? ⟨(W3.heap.size + 1 + 1), 0, none⟩ = some (.slice none 0 0) := by rw [hW10]; simp [go_sem]
          have hpf : W10.frozen? ⟨(W3.heap.size + 1 + 1), 0, none⟩ = false := by rw [hW10]; simp [go_sem]
          have hw3 := HN3.out.grown.size
          have hcl := hca3.lt
          have HS10 := Lib.hid hs10
          clear hW10 hs10
          go_wp2_with fail
          refine (HOF.out W10 (HN3.out.trans hn10)).mono ?_
          rintro e W11 ⟨vo, rfl, hown, hn11⟩
          obtain ⟨L, hL⟩ : ∃ L, L = ofG x0.th (o + 1) (l.drop (o + 1)) := ⟨_, rfl⟩
          have hofp : ofP l o = o :: L := by rw [ofP_tail HXX.out.1, hL]
          obtain ⟨nt, hnt⟩ : ∃ q, q = L.length := ⟨_, rfl⟩
          rw [hofp] at hown
          unfold OwnI at hown
          rw [show (natI (o :: L)).length = nt + 1 by simp [natI, hnt]] at hown
          have hs10 := HS10.out
          rcases own_forms hown with ⟨-, h0⟩ | ⟨bz, cz, rfl, hbz0, hbz, hcz1, hcz2⟩
          · omega
          have hcell : ∀ (j q : Nat), L[j]? = some q → W11.cell? ⟨bz, 1 + j, none⟩ = some (.int .i64 (q : Int)) := fun j q hq => by
            obtain ⟨b1, o1, e1, -, h1⟩ := (own_rd hown).2 (by omega)
            injection e1 with e1; injection e1 with e2 e3; subst e2 e3
            have h2 := h1 (j + 1) (.int .i64 (q : Int)) (by unfold ints natI; simp [hq])
            rw [show 1 + j = 0 + (j + 1) by omega]
            exact h2
          have hidx : ∀ j q, L[j]? = some q → q < n ∧ ∃ y, l[q]? = some y := fun j q hq => by
            have hm := List.mem_of_getElem? hq
            rw [hL] at hm
            obtain ⟨h1, y, h2, -⟩ := ofG_mem _ _ _ hm
            rw [List.getElem?_drop, show o + 1 + (q - (o + 1)) = q by omega] at h2
            exact ⟨by rw [← HI.out.hl.1]; exact (List.getElem?_eq_some_iff.1 h2).1, y, h2⟩
          obtain ⟨R, hR⟩ : ∃ q, q = owR l (lfOf x0) [] L := ⟨_, rfl⟩
          have hRR := HRR.out
          rw [hofp, List.tail_cons, ← hR] at hRR
          have HRE := Lib.hid hRR
          have hS0 : OwS w c W3.heap.size (W3.heap.size + 1) (W3.heap.size + 1 + 1) bz x0 L (lfOf x0) [] (.slice none 0 0) W11 :=
            ⟨(HN3.out.trans hn10).trans hn11, (hca3.nw hn10).nw hn11, hl10.nw hn11, (frozen_nw (World.block_lt_of_cell? W10 _ hl10.c0) hn11).trans hf10, cell_nw hw0 hn11, cell_nw hw1 hn11, cell_nw hp0 hn11, (frozen_nw (World.block_lt_of_cell? W10 _ hp0) hn11).trans hpf, World.ownsRow_nil _ _ _ _, fun g hg => by simp [Value.ownBlock] at hg, hcell, ⟨by omega, by omega, by omega, by omega, by omega, by omega, by omega, by omega, by omega⟩, .inr hbz.lt⟩
          have HS0 := Lib.hid hS0
          have HIDX := Lib.hid hidx
          have HR := Lib.hid hR
          have HNT := Lib.hid hnt
          have hnt2 : nt ≤ 1000 := by
            have h1 := ofG_len x0.th (o + 1) (l.drop (o + 1))
            rw [← hL, ← hnt] at h1
            have h2 := HI.out.hl.1
            have h3 := HI.out.n1
            simp at h1; omega
          have i3 : (0 : Int) < ((nt : Int) + 1) := by omega
          have HKB := Lib.hid (show x0.kb < 18446744073709551616 from (HI.out.wf x0 (List.mem_of_getElem? HXX.out.1)).op.hi.2)
          have HKL := Lib.hid (show 0 ≤ (lfOf x0).lo from (HI.out.wf x0 (List.mem_of_getElem? HXX.out.1)).op.key.1)
          have hbzl : bz < W11.heap.size := hbz.lt
          haveI : In bz W11 := hbz
          clear hL hofp hnt hown hcell hidx hR hRR hS0 hn10 hs10 hl10 hf10 hw0 hw1 hp0 hpf hn11 hcz2 hbz0
          have hcc : cz = 1 ∨ 1 < cz := by omega
          rcases hcc with rfl | hc1
          all_goals
            try have hne1 := Nat.ne_of_gt hc1
            go_wp2_with fail
            go_loopw [12, 15, 16, 68] (fun ee _ _ a wr => ∃ (j : Nat) (v : Value), j ≤ nt ∧ a = .int .i64 j ∧ ee = .int .i64 (-1) ∧ True ∧ Hid (∃ (xc : Lf) (ps : List (Int × Int)), OwS w c W3.heap.size (W3.heap.size + 1) (W3.heap.size + 1 + 1) bz x0 L xc ps v wr ∧ xc.hi = x0.kb ∧ owR l xc ps (L.drop j) = R ∧ 0 ≤ xc.lo ∧ ps.length ≤ j)) (fun _ _ _ a _ => nt - (intOf a).toNat)
            case atStart => exact ⟨0, .slice none 0 0, Nat.zero_le _, rfl, rfl, trivial, Lib.hid ⟨lfOf x0, [], HS0.out, rfl, by rw [HR.out]; rfl, HKL.out, Nat.le_refl _⟩⟩
            case round =>
              obtain ⟨j, v, hj, rfl, rfl, -, HJ⟩ := hrel
              obtain ⟨xc, ps, hS, hxh, hrun, hlo0, hpl⟩ := HJ.out
              obtain ⟨Av, cv, rfl⟩ := own_slice hS.row
              obtain ⟨ws, hws⟩ : ∃ q, q = wr := ⟨_, rfl⟩
              subst hws
              by_cases hjl : j < nt
              · first
                  | (exfalso; omega)
                  | (obtain ⟨q, hq⟩ : ∃ q, L[j]? = some q := ⟨_, List.getElem?_eq_getElem (by rw [← HNT.out]; exact hjl)⟩
                     obtain ⟨hqn, y, hy⟩ := HIDX.out j q hq
                     have s1 := hS.cell j q hq
                     haveI : In bz ws := ⟨World.block_lt_of_cell? ws _ s1⟩
                     obtain ⟨b', o', y', e', hb8, hy', hcy⟩ := (HI.out.hl.nw hS.nw).get hqn
                     obtain ⟨rfl, rfl⟩ : b = b' ∧ ob = o' := by simpa using e'
                     obtain rfl : y = y' := by rw [hy] at hy'; injection hy'
                     haveI : CallAt ws b (ob + q * 18) y := ⟨hcy, hb8⟩
                     haveI : In b ws := ⟨hb8⟩
                     obtain ⟨w11, hw11⟩ : ∃ q, q = ws.alloc (.cells #[.int .i64 y.th, .int .i64 y.ix, .int .u8 y.kd, .int .u64 y.ka, .int .u64 y.kb, .int .u64 y.kc, .int .u64 y.kx, .int .u64 y.ky, .int .u64 y.kz, .int .i64 y.inv, .int .i64 y.took, .int .i64 y.ans, .int .i64 y.st, .int .i64 y.re, .bool y.rf, .int .u64 y.rk, .int .u64 y.rv, .int .i64 y.rc] 45) := ⟨_, rfl⟩
                     have hn11 : Nw ws w11 := by rw [hw11]; exact nwa
                     haveI hcc11 : CallAt w11 ws.heap.size 0 y := by rw [hw11]; exact inferInstance
                     have e2 : w11.cell? ⟨ws.heap.size, 2, none⟩ = some (.int .u8 y.kd) := (AtC.range hcc11.at_) 2 _ rfl
                     have e3 : w11.cell? ⟨ws.heap.size, 3, none⟩ = some (.int .u64 y.ka) := (AtC.range hcc11.at_) 3 _ rfl
                     have e13 : w11.cell? ⟨ws.heap.size, 13, none⟩ = some (.int .i64 y.re) := (AtC.range hcc11.at_) 13 _ rfl
                     have hS1 := hS.grow hn11
                     have u0 := hS1.lf.c0
                     have u1 := hS1.lf.c1
                     have u2 := hS1.lf.c2
                     have up := hS1.p0
                     have uf := hS1.pf
                     haveI : In ws.heap.size w11 := ⟨hcc11.lt⟩
                     haveI : In W3.heap.size w11 := ⟨World.block_lt_of_cell? w11 _ u0⟩
                     haveI : In (W3.heap.size + 1 + 1) w11 := ⟨World.block_lt_of_cell? w11 _ up⟩
                     have hwy := HI.out.wf y (List.mem_of_getElem? hy)
                     have HAF := Lib.hid (fun W => lafter_any xc y W hwy.op.key hwy.rk hwy.op.k (by rw [hxh]; exact HKB.out))
                     have HKA := Lib.hid hwy.op.key
                     have hrn := hrun
                     rw [owR_at hq hy] at hrn
                     have HRUN := Lib.hid hrn
                     have HY := Lib.hid hy
                     have HO := Lib.hid hS1
                     have HKH := Lib.hid hxh
                     have HPS := Lib.hid (And.intro hlo0 hpl)
                     have HOS := Lib.hid hS
                     have ty := cell_nw ((AtC.range hcy) 10 (.int .i64 y.took) rfl) hn11
                     have tx := cell_nw ((AtC.range hcx.at_) 10 (.int .i64 x0.took) rfl) (hS.nw.trans hn11)
                     have hplj := hpl
                     have HLN := Lib.hid (show L ≠ [] from fun e => by rw [e] at hq; simp at hq)
                     have HW11 := Lib.hid hw11
                     have i4 : (j : Int) < (nt : Int) := by omega
                     have i5 : (q : Int) < (n : Int) := by omega
                     have i6 : j < 1000000 := by omega
                     have i7 : (q : Int) ≥ 0 := by omega
                     clear hq hy e' hb8 hy' hcy hwy hrn hrun hS hS1 hw11 hn11 hqn hpl hxh HJ hlo0
                     unfold lfv at HAF
                     by_cases k12 : y.kd = 12
                     · have d1 : (y.kd == 12) = true := by rw [k12]; rfl
                       have d1b : (y.kd == 13) = false := by rw [k12]; rfl
                       by_cases r14 : y.re = 14
                       · have d2 : (y.re == 14) = true := by rw [r14]; rfl
                         have HRS := Lib.hid (show R = some (q, ps) by rw [← HRUN.out, if_pos ⟨k12, r14⟩])
                         clear k12 r14
                         have d3 : decide ((q : Int) < 0) = false := decide_eq_false (by omega)
                         haveI hca11 := HO.out.ca
                         haveI : In w.heap.size w11 := ⟨hca11.lt⟩
                         have hld : ∀ W, Nw w11 W → (loadConf (.pointer (some ⟨w.heap.size, 0, none⟩))).run Tryz.prog W = .ok (confV c) W := fun W hq => by
                           haveI := hca11.nw hq
                           exact run_loadConf
                         unfold confV at hld HD
                         have HTKE := Lib.hid (show tk l q = y.took from tk_of HY.out)
                         go_upto_region 13 with (fail)
                         rw [← HW11.out]
                         go_upto_region 21 with (fail)
                         go_region_held3 (fun wq => (loadConf (.pointer (some ⟨w.heap.size, 0, none⟩))).run Tryz.prog wq = .ok (.agg #[.int .i64 c.thr, .int .i64 c.sl, .int .u8 c.eng, .int .i64 c.bk, .int .u8 c.dk, .int .i64 c.dn, .slice c.cA c.cn c.cc, .int .i64 c.t1, .int .i64 c.t2, .int .i64 c.t3, .int .i64 c.t4, .int .i64 c.t5, .int .i64 c.t6, .int .i64 c.lk, .int .i64 c.tr, .int .i64 c.ba]) wq ∧ wq.cell? ⟨b, ob + o * 18 + 10, none⟩ = some (.int .i64 x0.took) ∧ wq.cell? ⟨b, ob + q * 18 + 10, none⟩ = some (.int .i64 y.took)) (exact ⟨hld _ (by (repeat (first | exact Xt.Nw.refl _ | assumption | refine Xt.Nw.drew ?_ | refine Xt.Nw.drewN ?_ _ | refine Xt.Nw.alloc ?_ _ | refine Xt.Nw.ext ?_))), cell_nw tx (by (repeat (first | exact Xt.Nw.refl _ | assumption | refine Xt.Nw.drew ?_ | refine Xt.Nw.drewN ?_ _ | refine Xt.Nw.alloc ?_ _ | refine Xt.Nw.ext ?_))), cell_nw ty (by (repeat (first | exact Xt.Nw.refl _ | assumption | refine Xt.Nw.drew ?_ | refine Xt.Nw.drewN ?_ _ | refine Xt.Nw.alloc ?_ _ | refine Xt.Nw.ext ?_)))⟩)
                           ((go_at_call 33; refine (HD.out _ (HO.out.nw.trans (by (repeat (first | exact Xt.Nw.refl _ | assumption | refine Xt.Nw.drew ?_ | refine Xt.Nw.drewN ?_ _ | refine Xt.Nw.alloc ?_ _ | refine Xt.Nw.ext ?_)))) y.took).mono ?_; rintro e W8 ⟨vm, zm, rfl, hrr, hpl, hn8⟩; have hn18 : Nw w11 W8 := Nw.trans (by (repeat (first | exact Xt.Nw.refl _ | assumption | refine Xt.Nw.drew ?_ | refine Xt.Nw.drewN ?_ _ | refine Xt.Nw.alloc ?_ _ | refine Xt.Nw.ext ?_))) hn8; have HRR2 := Lib.hid (And.intro (hrr.le (base' := w11.heap.size) (Nw.grown (by (repeat (first | exact Xt.Nw.refl _ | assumption | refine Xt.Nw.drew ?_ | refine Xt.Nw.drewN ?_ _ | refine Xt.Nw.alloc ?_ _ | refine Xt.Nw.ext ?_)))).size) hpl); obtain ⟨Am, cm, rfl⟩ := own_slice hrr.row; clear hrr hpl hn8))
                         clear hld
                         obtain ⟨hrr, hpl⟩ := HRR2.out
                         obtain ⟨ms, hms⟩ : ∃ ms, ms = durM (mapsA c cuts l) (tksL l) x0.took y.took := ⟨_, rfl⟩
                         obtain ⟨rr, hrh⟩ := durM_head (mapsA c cuts l) (tksL l) x0.took y.took
                         obtain ⟨p0, hp0⟩ : ∃ p0, p0 = mapsA c cuts l x0.took := ⟨_, rfl⟩
                         rw [← hms, ← hp0] at hrh
                         rw [← hms] at hrr hpl
                         have hml : ms.length ≤ 500000 := by
                           have h1 := durM_len (mapsA c cuts l) (tksL l) x0.took y.took
                           have h2 : (tksL l).length ≤ l.length := by unfold tksL; rw [List.length_map]; exact (effL_is HXX.out.2).len
                           have h3 := HI.out.hl.1
                           have h4 := HI.out.n1
                           rw [hms]; omega
                         obtain ⟨Am', cm', hve, hrows⟩ := hrr.rowsP (by rw [hrh]; simp) hpl hml (p := fun b => b < W8.heap.size ∨ b = W8.heap.size + 1) (fun g _ hg => .inl hg)
                         injection hve with e1 e2x e3
                         subst e1 e3
                         obtain ⟨lm, hlm⟩ : ∃ q, q = zm.length := ⟨_, rfl⟩
                         rw [← e2x, ← hlm] at hrows
                         rw [← hlm]
                         have HRW := Lib.hid (show RowsP (fun b => b < W8.heap.size ∨ b = W8.heap.size + 1) W8 Am lm cm zm (p0 :: rr) from by rw [hrh] at hrows; exact hrows)
                         have HMS := Lib.hid (And.intro hms hrh)
                         have HO8 := Lib.hid (HO.out.grow hn18)
                         have HP0L := Lib.hid (show p0.length ≤ 500000 from hpl p0 (by rw [hrh]; simp))
                         have hmf : ∀ (fn : Fn) (first cap : Array Value) (w : World), (Instr.makeFunc fn first cap).run Tryz.prog w = .ok (.func fn first cap) w := fun _ _ _ _ => rfl
                         clear hrr hpl hms hrh hp0 hml hrows hlm e2x hn18 u0 u1 u2 up uf e3 e2 e13 ty tx s1
                         go_wp2_with fail
                         refine (alw_any _ _ _ _).mono ?_
                         rintro e w9 ⟨rfl, hw9⟩
                         obtain ⟨W9, hW9⟩ : ∃ W, W = w9 := ⟨_, rfl⟩
                         subst hW9
                         have hn9 : Nw W8 W9 := by rw [hw9]; exact nwa
                         have bO : Boxed W9 W8.heap.size 22 (.slice none 0 0) := by
                           rw [hw9]; exact (Boxed.new W8 22 (.slice none 0 0)).alloc _
                         have bM : Boxed W9 (W8.heap.size + 1) 81 (.slice Am lm cm) := by
                           rw [hw9]
                           have h := Boxed.new (W8.alloc (.cells #[.slice none 0 0] 22)) 81 (.slice Am lm cm)
                           rw [World.size_alloc] at h
                           exact h
                         have hs9 : W9.heap.size = W8.heap.size + 1 + 1 := by rw [hw9]; simp
                         rw [World.size_alloc]
                         have HO9 := Lib.hid (HO8.out.grow hn9)
                         have HRW9 := Lib.hid (HRW.out.kcp (KCp.nw hn9))
                         have HB9 := Lib.hid (And.intro bO (And.intro bM hs9))
                         have HLP := Lib.hid (show W3.heap.size + 1 + 1 < W8.heap.size ∧ W3.heap.size + 1 < W8.heap.size ∧ ∀ g, (Value.slice Av ps.length cv).ownBlock = some g → g < W8.heap.size from ⟨World.block_lt_of_cell? W8 _ HO8.out.p0, World.block_lt_of_cell? W8 _ HO8.out.w0, fun g hg => (HO8.out.row.lt g hg).2⟩)
                         clear hw9 hn9 bO bM
                         go_wp2_with fail
                         refine (wpIn_wide (n := 9)).1 ?_
                         refine wpIn_rangeFunc_ownH (F := Fence.wide) (n := 9) rfl (by omega) (gf := 56) (lb := #[.pointer (some ⟨W8.heap.size + 1, 0, none⟩)]) rfl trivial (enters_of Tryz.func56 (by kernel_rfl) rfl)
                           (alw1_stops (fun b => b < W8.heap.size ∨ b = W8.heap.size + 1) (9 - 1) (by omega) (W8.heap.size + 1) Am lm cm zm p0 rr p0.length (Nat.le_refl _) W9 (.inr rfl) HB9.out.2.1.cell HRW9.out) KCp.trans (fun W l o o' _ h1 h2 _ => KCp.put W l o o' h1 h2) (Below.refl _ _) (fun _ => rfl)
                           (OwI w W8 W9 (.slice Am lm cm) (owC x0 ps)) (fun _ _ _ => False)
                           (fun s X Y row hs hg hr => owI_own w W8 W9 _ (owC x0 ps) s X Y row hs hg (fun r e => ⟨by have := (hr r e).1; have := HO9.out.nw.grown.size; omega, (hr r e).2⟩))
                           (fun _ _ _ _ _ hs _ _ => hs) ⟨⟨_, HB9.out.1, World.ownsRow_nil _ _ _ _, trivial⟩, HB9.out.2.1, KCp.refl _ _, HO9.out.nw.below⟩
                           (fun z a' W => ∃ Bk, W.cell? ⟨Bk, 0, none⟩ = some (.int .u64 z) ∧ a' = { tmps := #[Value.agg #[Value.int IntKind.i64 c.thr, Value.int IntKind.i64 c.sl, Value.int IntKind.u8 c.eng, Value.int IntKind.i64 c.bk, Value.int IntKind.u8 c.dk, Value.int IntKind.i64 c.dn, Value.slice c.cA c.cn c.cc, Value.int IntKind.i64 c.t1, Value.int IntKind.i64 c.t2, Value.int IntKind.i64 c.t3, Value.int IntKind.i64 c.t4, Value.int IntKind.i64 c.t5, Value.int IntKind.i64 c.t6, Value.int IntKind.i64 c.lk, Value.int IntKind.i64 c.tr, Value.int IntKind.i64 c.ba], Value.int IntKind.i64 ↑o, Value.slice (some { block := b, off := ob }) n cap, Value.pointer (some { block := w.heap.size, off := 0 }), undef, undef, Value.slice none 0 0, Value.int IntKind.i64 0, Value.int IntKind.i64 wi, Value.int IntKind.i64 0, Value.pointer (some { block := W3.heap.size, off := 0 }), Value.pointer (some { block := W3.heap.size + 1, off := 0 }), Value.int IntKind.i64 ↑q, Value.pointer (some { block := W3.heap.size + 1 + 1, off := 0 }), undef, Value.int IntKind.i64 ↑q, Value.pointer (some { block := ws.heap.size, off := 0 }), Value.slice Am lm cm, Value.int IntKind.i64 0, Value.pointer (some { block := W8.heap.size, off := 0 }), .pointer (some ⟨Bk, 0, none⟩), undef, Value.tuple #[Value.int IntKind.i64 wi, Value.int IntKind.i64 0], Value.agg #[Value.int IntKind.i64 c.thr, Value.int IntKind.i64 c.sl, Value.int IntKind.u8 c.eng, Value.int IntKind.i64 c.bk, Value.int IntKind.u8 c.dk, Value.int IntKind.i64 c.dn, Value.slice c.cA c.cn c.cc, Value.int IntKind.i64 c.t1, Value.int IntKind.i64 c.t2, Value.int IntKind.i64 c.t3, Value.int IntKind.i64 c.t4, Value.int IntKind.i64 c.t5, Value.int IntKind.i64 c.t6, Value.int IntKind.i64 c.lk, Value.int IntKind.i64 c.tr, Value.int IntKind.i64 c.ba], Value.slice (some { block := b, off := ob }) n cap, Value.tuple #[Value.int IntKind.i64 wi, Value.int IntKind.i64 0], Value.int IntKind.i64 wi, Value.int IntKind.i64 0, Value.int IntKind.i64 0, Value.bool false, undef, Value.int IntKind.i64 ↑o, Value.bool false, Value.bool false, Value.int IntKind.i64 ↑o, Value.slice (some { block := b, off := ob }) n cap, Value.int IntKind.i64 ↑n, Value.bool false, Value.bool false, Value.bool false, Value.slice (some { block := b, off := ob }) n cap, Value.int IntKind.i64 ↑o, Value.pointer (some { block := b, off := ob + o * 18 }), Go.Proofs.YtkikdpdainmlcaaGreat.cv x0, Value.bool true, Value.bool false, Value.bool false, Value.slice (some { block := b, off := ob }) n cap, Value.int IntKind.i64 ↑o, Value.pointer (some { block := b, off := ob + o * 18 }), Value.pointer (some { block := b, off := ob + o * 18 + 2 }), Value.pointer (some { block := b, off := ob + o * 18 + 2 + 1 }), Value.int IntKind.u64 x0.ka, Value.slice (some { block := b, off := ob }) n cap, Value.int IntKind.i64 ↑o, Value.pointer (some { block := b, off := ob + o * 18 }), Value.pointer (some { block := b, off := ob + o * 18 + 2 }), Value.pointer (some { block := b, off := ob + o * 18 + 2 + 2 }), Value.int IntKind.u64 x0.kb, Value.agg #[Value.int IntKind.u64 x0.ka, Value.int IntKind.u64 x0.kb], Value.agg #[Value.int IntKind.u64 x0.ka, Value.int IntKind.u64 x0.kb, Value.bool true], Value.pointer (some { block := W3.heap.size, off := 0 }), Value.agg #[Value.int IntKind.u64 x0.ka, Value.int IntKind.u64 x0.kb], Value.int IntKind.i64 ↑o, Value.slice (some { block := b, off := ob }) n cap, Value.slice (some { block := bz, off := 0 }) (nt + 1) cz, Value.slice (some { block := bz, off := 1 }) nt (cz - 1), Value.int IntKind.i64 ↑nt, Value.int IntKind.i64 ↑j, Value.bool true, Value.pointer (some { block := bz, off := 1 + j }), Value.int IntKind.i64 ↑q, Value.slice (some { block := b, off := ob }) n cap, Value.int IntKind.i64 ↑q, Value.pointer (some { block := b, off := ob + q * 18 }), Go.Proofs.YtkikdpdainmlcaaGreat.cv y, Value.pointer (some { block := ws.heap.size, off := 2 }), Value.pointer (some { block := ws.heap.size, off := 2 }), Value.int IntKind.u8 y.kd, Value.bool true, Value.bool true, Value.pointer (some { block := ws.heap.size, off := 13 }), Value.pointer (some { block := ws.heap.size, off := 13 }), Value.int IntKind.i64 y.re, Value.bool true, Value.bool true, Value.int IntKind.i64 ↑q, u87, u88, u89, u90, u91, u92, u93, u94, u95, u96, u97, u98, u99, u100, u101, u102, u103, u104, u105, u106, u107, u108, u109, u110, u111, u112, u113, u114, u115, u116, u117, u118, u119, u120, u121, u122, u123, u124, u125, u126, u127, u128, Value.int IntKind.i64 ↑q, Value.bool false, Value.tuple #[Value.slice Am lm cm, Value.int IntKind.i64 0], Value.agg #[Value.int IntKind.i64 c.thr, Value.int IntKind.i64 c.sl, Value.int IntKind.u8 c.eng, Value.int IntKind.i64 c.bk, Value.int IntKind.u8 c.dk, Value.int IntKind.i64 c.dn, Value.slice c.cA c.cn c.cc, Value.int IntKind.i64 c.t1, Value.int IntKind.i64 c.t2, Value.int IntKind.i64 c.t3, Value.int IntKind.i64 c.t4, Value.int IntKind.i64 c.t5, Value.int IntKind.i64 c.t6, Value.int IntKind.i64 c.lk, Value.int IntKind.i64 c.tr, Value.int IntKind.i64 c.ba], Value.slice (some { block := b, off := ob }) n cap, Value.int IntKind.i64 ↑o, Value.pointer (some { block := b, off := ob + o * 18 }), Value.pointer (some { block := b, off := ob + o * 18 + 10 }), Value.int IntKind.i64 x0.took, Value.slice (some { block := b, off := ob }) n cap, Value.int IntKind.i64 ↑q, Value.pointer (some { block := b, off := ob + q * 18 }), Value.pointer (some { block := b, off := ob + q * 18 + 10 }), Value.int IntKind.i64 y.took, Value.slice (some { block := b, off := ob }) n cap, Value.tuple #[Value.slice Am lm cm, Value.int IntKind.i64 0], Value.slice Am lm cm, Value.int IntKind.i64 0, Value.int IntKind.i64 0, Value.bool false, undef, Value.slice Am lm cm, Value.func (Fn.func 56) #[] #[Value.pointer (some { block := W8.heap.size + 1, off := 0 })], .int .u64 z, undef, undef, undef, undef, undef, undef, undef, undef, undef, undef, undef, undef, undef, undef, undef, undef, undef, undef, undef, undef, undef, undef], defers := [] })
                           (fun z a' _ X Y row hs hg hr => by obtain ⟨Bk, h1, h2⟩ := hs; exact ⟨Bk, cell_kept h1 hg (fun r e => (hr r e).2), h2⟩)
                           ?assign ?body ?done ?stop
                         case assign =>
                           rintro l' pre z W K hi' hK
                           dsimp only [encK]
                           gi_wp2
                           exact hK _ _ ((KeepsOthers.alloc _ _).from _) (KCp.nw ((Nw.refl W).alloc _)) ((owI_own w W8 W9 _ (owC x0 ps)).alloc _ hi') ⟨W.heap.size, by simp [go_sem], rfl⟩
                         case body =>
                           rintro l' pre z a' W hl' ⟨rq, hrq⟩ ⟨⟨v, hv, hrow, -⟩, hM, hk, hB⟩ ⟨Bk, hbk, rfl⟩ hlt
                           have up := hk.cell (.inl HLP.out.1) HO9.out.p0
                           have w0 := hk.cell (.inl HLP.out.2.1) HO9.out.w0
                           have w1x := hk.cell (.inl HLP.out.2.1) HO9.out.w1
                           have hrd := hk.rd (fun b o e => .inl (HLP.out.2.2 b (by rw [e]; rfl))) (own_rd HO9.out.row)
                           have hcs := ccSC_any Av ps.length cv ⟨Bk, 0, none⟩ ps (fun s => decide (s.1 ≤ z) && decide (z ≤ s.2)) W hrd (by omega) (fun x _ W' hW' => owed1_any z x.1 x.2 Bk W' (cell_nw hbk hW'))
                           obtain ⟨sk, hsk⟩ : ∃ q, q = skipB ps z := ⟨_, rfl⟩
                           rw [show ps.any (fun s => decide (s.1 ≤ z) && decide (z ≤ s.2)) = sk by rw [hsk]; rfl] at hcs
                           have HCS := Lib.hid hcs
                           have HSK := Lib.hid hsk
                           haveI : In (W3.heap.size + 1 + 1) W := ⟨World.block_lt_of_cell? W _ up⟩
                           have hfl : (pre.filter (owC x0 ps)).length ≤ 500000 := by have h1 := List.length_filter_le (owC x0 ps) pre; have h2 := HP0L.out; omega
                           have HFL := Lib.hid hfl
                           clear hrd hcs hsk hfl
                           gi_wp2_with fail
                           refine ⟨trivial, (((callsIn_wide (n := 6)).2 HCS.out).inRound l').mono ?_⟩
                           rintro e Wc ⟨rfl, hn⟩
                           have hv2 := hv.kept hn.grown (by simp)
                           have hM2 := hM.kept hn.grown (by simp)
                           have hrow2 := own_nw hrow hn
                           have hkc := hk.trans (KCp.nw hn)
                           have hBc : Below w.heap.size w Wc := hB.trans (hn.below.mono (by have := hB.size; omega))
                           have kb2 := cell_nw hbk hn
                           have w02 := cell_nw w0 hn
                           have w12 := cell_nw w1x hn
                           have hc2 := hv2.cell
                           have hf2 := hv2.frozen
                           haveI : In Bk Wc := ⟨World.block_lt_of_cell? Wc _ kb2⟩
                           haveI : In (W3.heap.size + 1) Wc := ⟨World.block_lt_of_cell? Wc _ w02⟩
                           haveI : In W8.heap.size Wc := ⟨World.block_lt_of_cell? Wc _ hc2⟩
                           have HKF := Lib.hid (KeepsFrom.of_grownBy (B := W9.heap.size) hn.grown (fun j h => by cases h))
                           have HNC := Lib.hid hn
                           have HI2 := Lib.hid (And.intro hv2 (And.intro hrow2 (And.intro hM2 (And.intro hkc hBc))))
                           have hno : ∀ (hq : owC x0 ps z = false), OwI w W8 W9 (.slice Am lm cm) (owC x0 ps) (pre ++ [z]) Wc := fun hq => by
                             have e1 : (pre ++ [z]).filter (owC x0 ps) = pre.filter (owC x0 ps) := by rw [List.filter_append]; simp [hq]
                             refine ⟨⟨v, HI2.out.1, ?_, trivial⟩, HI2.out.2.2.1, HI2.out.2.2.2.1, HI2.out.2.2.2.2⟩
                             rw [e1]; exact HI2.out.2.1
                           have HNO := Lib.hid hno
                           clear hv hM hrow hk hB hbk up w0 w1x hn hkc hBc hno hv2 hM2 hrow2
                           by_cases c1 : x0.ka ≤ z
                           · have g1 : decide (x0.ka ≤ z) = true := by simpa using c1
                             by_cases c2 : z ≤ x0.kb
                             · have g2 : decide (z ≤ x0.kb) = true := by simpa using c2
                               cases sk with
                               | true =>
                                 have HQ := Lib.hid (show owC x0 ps z = false by unfold owC; rw [g1, g2, ← HSK.out]; rfl)
                                 clear c1 c2
                                 gi_wp2
                                 exact ⟨HKF.out, KCp.nw HNC.out, HNO.out HQ.out⟩
                               | false =>
                                 have HQ := Lib.hid (show owC x0 ps z = true by unfold owC; rw [g1, g2, ← HSK.out]; rfl)
                                 obtain ⟨i0, hi0, hz0, hz1, hz2⟩ := info_parts u64Info
                                 clear c1 c2
                                 gi_wp2_with (gi_at_builtin; refine wpListIn_append_own _ rfl _ _ 22 rfl W8.heap.size 39 i0 (.int .u64 0) 1 8 Tryz.underlying22 hi0 hz0 hz1 hz2 rfl (by decide) _ _ _ rfl (HI2.out.2.1.alloc _) ⟨Wc.heap.size, 0, none⟩ 1 1 [.int .u64 z] rfl rfl (new_cells rfl _) (by intro u hu; simp at hu; subst hu; rfl) (by have := HFL.out; unfold maxLen; omega) (by have := HFL.out; omega) (by have := HI2.out.1.lt; simp; omega) ?_; intro v' w1 hown' hgrow _; obtain ⟨g', cap', rfl⟩ := ownsRow_succ hown'; obtain ⟨hv1, hv3, hr3, hk3, hb3⟩ := HI2.out.1.appended (by decide) HI2.out.2.1 (by have := HI2.out.1.lt; omega) (Nat.le_refl _) hown' hgrow; have hc3 := hv1.cell; have hf3 := hv1.frozen; haveI : In W8.heap.size w1 := ⟨World.block_lt_of_cell? w1 _ hc3⟩; have HG := Lib.hid (And.intro hgrow (And.intro hv3 (And.intro hr3 (And.intro hk3 hb3)))); clear hown' hgrow hv1 hv3 hr3 hk3 hb3)
                                 obtain ⟨hgrow, hv3, hr3, hk3, hb3⟩ := HG.out
                                 obtain ⟨-, hrow2, hM2, hkc, hBc⟩ := HI2.out
                                 have hnr := hM2.not_row (by decide) hrow2
                                 have hM3 := ((hM2.alloc (.cells #[.int .u64 z] 39)).kept hgrow hnr).kept (grownBy_setCell' w1 W8.heap.size (.slice (some ⟨g', 0, none⟩) ((pre.filter (owC x0 ps)).length + 1) cap')) (by simp)
                                 have e1 : (pre ++ [z]).filter (owC x0 ps) = pre.filter (owC x0 ps) ++ [z] := by rw [List.filter_append]; simp [HQ.out]
                                 refine ⟨HKF.out.trans (hk3.from _), (KCp.nw HNC.out).trans (kcp_app hgrow (fun g hg hp => ?_) (by omega)), ⟨⟨_, hv3, ?_, trivial⟩, hM3, ?_, hBc.trans (hb3.mono (by have := HO8.out.nw.grown.size; omega))⟩⟩
                                 · have h1 := (hrow2.lt g hg).1
                                   rcases hp with hp | hp
                                   · omega
                                   · subst hp; exact hnr hg.symm
                                 · rw [e1, List.length_append]
                                   show World.ownsRow _ _ _ _ _ _ (u64c (pre.filter (owC x0 ps) ++ [z]))
                                   rw [show u64c (pre.filter (owC x0 ps) ++ [z]) = u64c (pre.filter (owC x0 ps)) ++ [.int .u64 z] by simp [u64c]]
                                   exact hr3
                                 · refine hkc.trans (kcp_app hgrow (fun g hg hp => ?_) (by omega))
                                   have h1 := (hrow2.lt g hg).1
                                   rcases hp with hp | hp
                                   · omega
                                   · subst hp; exact hnr hg.symm
                             · have g2 : decide (z ≤ x0.kb) = false := by simpa using c2
                               have HQ := Lib.hid (show owC x0 ps z = false by unfold owC; rw [g1, g2]; rfl)
                               clear c1 c2
                               gi_wp2
                               exact ⟨HKF.out, KCp.nw HNC.out, HNO.out HQ.out⟩
                           · have g1 : decide (x0.ka ≤ z) = false := by simpa using c1
                             have HQ := Lib.hid (show owC x0 ps z = false by unfold owC; rw [g1]; rfl)
                             clear c1
                             gi_wp2
                             exact ⟨HKF.out, KCp.nw HNC.out, HNO.out HQ.out⟩
                         case done =>
                           rintro D ys W hD rfl ⟨⟨v, hv, hrow, -⟩, hM, hk, hB⟩ hK
                           have hc := hv.cell
                           haveI : In W8.heap.size W := ⟨World.block_lt_of_cell? W _ hc⟩
                           have hrr := HRE.out
                           rw [HRS.out] at hrr
                           have hr0 : r = (0, (alwM (p0 :: rr)).filter (owC x0 ps)) := by
                             rw [hrr]
                             show (0, owdL (mapsA c cuts l) (tksL l) x0.took (tk l q) x0.ka x0.kb ps) = _
                             rw [HTKE.out]
                             unfold owdL
                             rw [← HMS.out.1, HMS.out.2]
                             rfl
                           have HR0 := Lib.hid hr0
                           have HF := Lib.hid (And.intro hrow hB)
                           clear hv hrow hM hk hB hrr hr0
                           go_wp2
                           refine ⟨by simp, .inl ⟨_, _, rfl, run_takeDeferred hK, ?_⟩⟩
                           refine ⟨_, results_tmp2 rfl _ _ _, ?_⟩
                           rw [HR0.out]
                           exact ⟨v, rfl, ownsRow_putObj (own_le HF.out.1 (by have := HO8.out.nw.grown.size; omega)) _ hK rfl, Nw.of_below (HF.out.2.trans (belowK_b (w := w) (Nat.le_refl _) W D _ _ (by have := HO9.out.nw.grown.size; omega) hK rfl rfl))⟩
                         case stop =>
                           rintro D c' pre W _ _ h _
                           exact h.elim
                       · have d2 : (y.re == 14) = false := by simpa using r14
                         have HNX := Lib.hid (show owR l (aftL xc y) ps (L.drop (j + 1)) = R by rw [← HRUN.out, if_neg (fun h => r14 h.2), if_neg (fun h => by omega)])
                         clear k12 r14
                         go_upto_region 13 with (fail)
                         rw [← HW11.out]
                         go_wp2_with fail
                         refine (HAF.out w11).mono ?_
                         rintro e wA ⟨rfl, hnA⟩
                         have h9 := HO.out.grow hnA
                         have v0 := h9.lf.c0
                         have v1 := h9.lf.c1
                         have v2 := h9.lf.c2
                         have y0 := h9.lf.f0
                         have y1 := h9.f1
                         have y2 := h9.lf.f2
                         haveI : In W3.heap.size wA := ⟨World.block_lt_of_cell? wA _ v0⟩
                         have HL9 := Lib.hid (h9.left (aftL xc y))
                         clear h9 hnA
                         go_wp2_with fail
                         exact ⟨⟨j + 1, _, by omega, by go_num, rfl, trivial, Lib.hid ⟨aftL xc y, ps, HL9.out, by rw [aftL_hi]; exact HKH.out, HNX.out, Int.le_trans HPS.out.1 (aftL_lo _ _), by have := HPS.out.2; simp; omega⟩⟩, by simp [intOf]; omega⟩
                     · have d1 : (y.kd == 12) = false := by simpa using k12
                       by_cases k13 : y.kd = 13
                       · have d3 : (y.kd == 13) = true := by rw [k13]; rfl
                         by_cases r0 : y.re = 0
                         · have d4 : (y.re == 0) = true := by rw [r0]; rfl
                           obtain ⟨lo, hi', more⟩ := xc
                           simp only at u0 u1 u2 HAF HRUN HKH
                           cases more with
                           | true =>
                             by_cases hlo : lo < y.ka
                             · have d5 : decide (lo < y.ka) = true := by simpa using hlo
                               have d6 : decide (y.ka > lo) = true := d5
                               have HNX := Lib.hid (show owR l (aftL ⟨lo, hi', true⟩ y) (ps ++ [(lo, min hi' (y.ka - 1))]) (L.drop (j + 1)) = R by rw [← HRUN.out, if_neg (fun h => k12 h.1), if_pos ⟨k13, r0, rfl, hlo⟩])
                               have d7 : IntKind.u64.wrap (y.ka - 1) = y.ka - 1 := by have h1 : 0 ≤ y.ka ∧ y.ka < 18446744073709551616 := HKA.out; have h2 : 0 ≤ lo := HPS.out.1; rw [IntKind.wrap_u64]; omega
                               clear k12 k13 r0 hlo
                               go_upto_region 13 with (fail)
                               rw [← HW11.out]
                               have hp1 : (W3.heap.size + 1 + 1) ∉ (Value.slice Av ps.length cv).ownBlock.toList := fun e => by rw [Option.mem_toList] at e; exact (HO.out.vb _ e).2.2.2.1 rfl
                               go_upto_region 17 with (at_builtin; refine wpList_appC rfl _ _ 79 rfl 66 (.agg #[.int .u64 0, .int .u64 0]) 2 16 Tryz.underlying79 spInfo rfl (by decide) w.heap.size _ HO.out.nw.grown.size (.slice Av ps.length cv) ps.length (pcells ps) rfl HO.out.row _ 1 1 _ [.int .u64 lo, .int .u64 (min hi' (y.ka - 1))] rfl rfl rfl (by intro u hu; simp at hu; rcases hu with rfl | rfl <;> rfl) (by unfold maxLen; omega) (by omega) ?_; intro v8 W8 hA hcA hmA; obtain ⟨A8, c8, rfl⟩ := own_slice hA; have up8 := hcA.cell up hp1; have uf8 := (hcA.frozen (World.block_lt_of_cell? w11 _ up) hp1).trans uf; haveI : In (W3.heap.size + 1 + 1) W8 := ⟨World.block_lt_of_cell? W8 _ up8⟩; have HA := Lib.hid (And.intro hA (And.intro hcA hmA)); clear hA hcA hmA)
                               obtain ⟨W12, hW12⟩ : ∃ q, q = W8.setCell ⟨W3.heap.size + 1 + 1, 0, none⟩ (.slice A8 (ps.length + 1) c8) := ⟨_, rfl⟩
                               rw [← hW12]
                               have hO12 : OwS w c W3.heap.size (W3.heap.size + 1) (W3.heap.size + 1 + 1) bz x0 L ⟨lo, hi', true⟩ (ps ++ [(lo, min hi' (y.ka - 1))]) (.slice A8 (ps.length + 1) c8) W12 := by
                                 rw [hW12]
                                 exact HO.out.push (by rw [pcells_app]; exact HA.out.1) HA.out.2.1 HA.out.2.2 HLN.out
                               haveI hc12 : CallAt W12 ws.heap.size 0 y := by
                                 rw [hW12]
                                 have h1 : CallAt W8 ws.heap.size 0 y := CallAt.chgq HA.out.2.1 (fun e => by rw [Option.mem_toList] at e; have := (HOS.out.row.lt _ e).2; omega) (h := hcc11)
                                 exact CallAt.chgq (Chg.set1 W8 (W3.heap.size + 1 + 1) 0 _) (by have : W3.heap.size + 1 + 1 < ws.heap.size := World.block_lt_of_cell? ws _ HOS.out.p0; simp; omega) (h := h1)
                               have u0 := hO12.lf.c0
                               have u1 := hO12.lf.c1
                               have u2 := hO12.lf.c2
                               have HO := Lib.hid hO12
                               haveI : In ws.heap.size W12 := ⟨hc12.lt⟩
                               haveI : In W3.heap.size W12 := ⟨World.block_lt_of_cell? W12 _ u0⟩
                               clear hW12 hO12 up8 uf8
                               go_wp2_with fail
                               refine (HAF.out W12).mono ?_
                               rintro e wA ⟨rfl, hnA⟩
                               have h9 := HO.out.grow hnA
                               have v0 := h9.lf.c0
                               have v1 := h9.lf.c1
                               have v2 := h9.lf.c2
                               have y0 := h9.lf.f0
                               have y1 := h9.f1
                               have y2 := h9.lf.f2
                               haveI : In W3.heap.size wA := ⟨World.block_lt_of_cell? wA _ v0⟩
                               have HL9 := Lib.hid (h9.left (aftL ⟨lo, hi', true⟩ y))
                               clear h9 hnA
                               go_wp2_with fail
                               exact ⟨⟨j + 1, _, by omega, by go_num, rfl, trivial, Lib.hid ⟨aftL ⟨lo, hi', true⟩ y, (ps ++ [(lo, min hi' (y.ka - 1))]), HL9.out, by rw [aftL_hi]; exact HKH.out, HNX.out, Int.le_trans HPS.out.1 (aftL_lo _ _), by have := HPS.out.2; simp; omega⟩⟩, by simp [intOf]; omega⟩
                             · have d5 : decide (lo < y.ka) = false := by simpa using hlo
                               have HNX := Lib.hid (show owR l (aftL ⟨lo, hi', true⟩ y) ps (L.drop (j + 1)) = R by rw [← HRUN.out, if_neg (fun h => k12 h.1), if_neg (fun h => hlo h.2.2.2)])
                               clear k12 k13 r0 hlo
                               go_upto_region 13 with (fail)
                               rw [← HW11.out]
                               go_wp2_with fail
                               refine (HAF.out w11).mono ?_
                               rintro e wA ⟨rfl, hnA⟩
                               have h9 := HO.out.grow hnA
                               have v0 := h9.lf.c0
                               have v1 := h9.lf.c1
                               have v2 := h9.lf.c2
                               have y0 := h9.lf.f0
                               have y1 := h9.f1
                               have y2 := h9.lf.f2
                               haveI : In W3.heap.size wA := ⟨World.block_lt_of_cell? wA _ v0⟩
                               have HL9 := Lib.hid (h9.left (aftL ⟨lo, hi', true⟩ y))
                               clear h9 hnA
                               go_wp2_with fail
                               exact ⟨⟨j + 1, _, by omega, by go_num, rfl, trivial, Lib.hid ⟨aftL ⟨lo, hi', true⟩ y, ps, HL9.out, by rw [aftL_hi]; exact HKH.out, HNX.out, Int.le_trans HPS.out.1 (aftL_lo _ _), by have := HPS.out.2; simp; omega⟩⟩, by simp [intOf]; omega⟩
                           | false =>
                             have HNX := Lib.hid (show owR l (aftL ⟨lo, hi', false⟩ y) ps (L.drop (j + 1)) = R by rw [← HRUN.out, if_neg (fun h => k12 h.1), if_neg (fun h => by cases h.2.2.1)])
                             clear k12 k13 r0
                             go_upto_region 13 with (fail)
                             rw [← HW11.out]
                             go_wp2_with fail
                             refine (HAF.out w11).mono ?_
                             rintro e wA ⟨rfl, hnA⟩
                             have h9 := HO.out.grow hnA
                             have v0 := h9.lf.c0
                             have v1 := h9.lf.c1
                             have v2 := h9.lf.c2
                             have y0 := h9.lf.f0
                             have y1 := h9.f1
                             have y2 := h9.lf.f2
                             haveI : In W3.heap.size wA := ⟨World.block_lt_of_cell? wA _ v0⟩
                             have HL9 := Lib.hid (h9.left (aftL ⟨lo, hi', false⟩ y))
                             clear h9 hnA
                             go_wp2_with fail
                             exact ⟨⟨j + 1, _, by omega, by go_num, rfl, trivial, Lib.hid ⟨aftL ⟨lo, hi', false⟩ y, ps, HL9.out, by rw [aftL_hi]; exact HKH.out, HNX.out, Int.le_trans HPS.out.1 (aftL_lo _ _), by have := HPS.out.2; simp; omega⟩⟩, by simp [intOf]; omega⟩
                         · have d4 : (y.re == 0) = false := by simpa using r0
                           have HNX := Lib.hid (show owR l (aftL xc y) ps (L.drop (j + 1)) = R by rw [← HRUN.out, if_neg (fun h => k12 h.1), if_neg (fun h => r0 h.2.1)])
                           clear k12 k13 r0
                           go_upto_region 13 with (fail)
                           rw [← HW11.out]
                           go_wp2_with fail
                           refine (HAF.out w11).mono ?_
                           rintro e wA ⟨rfl, hnA⟩
                           have h9 := HO.out.grow hnA
                           have v0 := h9.lf.c0
                           have v1 := h9.lf.c1
                           have v2 := h9.lf.c2
                           have y0 := h9.lf.f0
                           have y1 := h9.f1
                           have y2 := h9.lf.f2
                           haveI : In W3.heap.size wA := ⟨World.block_lt_of_cell? wA _ v0⟩
                           have HL9 := Lib.hid (h9.left (aftL xc y))
                           clear h9 hnA
                           go_wp2_with fail
                           exact ⟨⟨j + 1, _, by omega, by go_num, rfl, trivial, Lib.hid ⟨aftL xc y, ps, HL9.out, by rw [aftL_hi]; exact HKH.out, HNX.out, Int.le_trans HPS.out.1 (aftL_lo _ _), by have := HPS.out.2; simp; omega⟩⟩, by simp [intOf]; omega⟩
                       · have d3 : (y.kd == 13) = false := by simpa using k13
                         have HNX := Lib.hid (show owR l (aftL xc y) ps (L.drop (j + 1)) = R by rw [← HRUN.out, if_neg (fun h => k12 h.1), if_neg (fun h => k13 h.1)])
                         clear k12 k13
                         go_upto_region 13 with (fail)
                         rw [← HW11.out]
                         go_wp2_with fail
                         refine (HAF.out w11).mono ?_
                         rintro e wA ⟨rfl, hnA⟩
                         have h9 := HO.out.grow hnA
                         have v0 := h9.lf.c0
                         have v1 := h9.lf.c1
                         have v2 := h9.lf.c2
                         have y0 := h9.lf.f0
                         have y1 := h9.f1
                         have y2 := h9.lf.f2
                         haveI : In W3.heap.size wA := ⟨World.block_lt_of_cell? wA _ v0⟩
                         have HL9 := Lib.hid (h9.left (aftL xc y))
                         clear h9 hnA
                         go_wp2_with fail
                         exact ⟨⟨j + 1, _, by omega, by go_num, rfl, trivial, Lib.hid ⟨aftL xc y, ps, HL9.out, by rw [aftL_hi]; exact HKH.out, HNX.out, Int.le_trans HPS.out.1 (aftL_lo _ _), by have := HPS.out.2; simp; omega⟩⟩, by simp [intOf]; omega⟩)
              · have ej : j = nt := by omega
                have i4 : ¬ (j : Int) < (nt : Int) := by omega
                rw [List.drop_of_length_le (by rw [ej, HNT.out]; exact Nat.le_refl _)] at hrun
                have hr8 := HRE.out
                rw [← hrun] at hr8
                have HR8 := Lib.hid (show r = (8, []) from hr8)
                have HNF := Lib.hid hS.nw
                clear hrun hr8 hS hxh hpl HJ ej
                go_wp2
                refine ⟨_, results_tmp2 rfl _ _ _, ?_⟩
                rw [HR8.out]
                exact ⟨_, rfl, World.ownsRow_nil _ _ _ _, HNF.out⟩
      · have d1 : decide (n ≤ o) = true := decide_eq_true (by omega)
        rw [List.getElem?_eq_none (by rw [hi.hl.1]; omega)] at hr
        simp only at hr
        have HRR := Lib.hid hr
        clear hi hX hbad hr k0 k1
        unfold confV at HW ⊢
        haveI hca : ConfAt (w.alloc (cellsOf c 27)) w.heap.size c := ⟨fun i v hv => by unfold cellsOf; unfold ccells at hv; rw [World.cell?_alloc_new]; simpa using hv, by simp⟩
        obtain ⟨W1, hW1⟩ : ∃ W, W = w.alloc (cellsOf c 27) := ⟨_, rfl⟩
        rw [← hW1] at hca
        have hn1 : Nw w W1 := by rw [hW1]; exact nwa
        unfold cellsOf at hW1
        have HW1 := Lib.hid hW1
        have HN1 := Lib.hid hn1
        haveI : In w.heap.size W1 := ⟨hca.lt⟩
        clear hW1 hn1
        go_enter Tryz.func15, Tryz.ntmps15
        go_upto_region 1 with (fail)
        rw [← HW1.out]
        go_wp2_with fail
        refine (HW.out W1 HN1.out).mono ?_
        rintro e W2 ⟨rfl, hn2⟩
        have HN2 := Lib.hid (HN1.out.trans hn2)
        clear hn2
        go_wp2
        refine bodyPost_ret (results_tmp2 rfl _ _ _) rfl ?_
        rw [HRR.out]
        exact ⟨_, rfl, World.ownsRow_nil _ _ _ _, HN2.out⟩
        
  · have hne : ((wChk c cuts l).2 != 0) = true := by simpa using hw0
    rw [if_pos hw0] at hr
    have HNE := Lib.hid hne
    obtain ⟨z, hz⟩ : ∃ z, z = wChk c cuts l := ⟨_, rfl⟩
    rw [← hz] at HW HNE hr
    obtain ⟨z1, z2⟩ := z
    simp only at HW HNE hr
    have hne := HNE.out
    have HRR := Lib.hid hr
    clear hr hi hw0 hz
    unfold confV at HW ⊢
    haveI hca : ConfAt (w.alloc (cellsOf c 27)) w.heap.size c := ⟨fun i v hv => by unfold cellsOf; unfold ccells at hv; rw [World.cell?_alloc_new]; simpa using hv, by simp⟩
    obtain ⟨W1, hW1⟩ : ∃ W, W = w.alloc (cellsOf c 27) := ⟨_, rfl⟩
    rw [← hW1] at hca
    have hn1 : Nw w W1 := by rw [hW1]; exact nwa
    unfold cellsOf at hW1
    have HW1 := Lib.hid hW1
    have HN1 := Lib.hid hn1
    haveI : In w.heap.size W1 := ⟨hca.lt⟩
    clear hW1 hn1
    go_enter Tryz.func15, Tryz.ntmps15
    go_upto_region 1 with (fail)
    rw [← HW1.out]
    go_wp2_with fail
    refine (HW.out W1 HN1.out).mono ?_
    rintro e W2 ⟨rfl, hn2⟩
    have HN2 := Lib.hid (HN1.out.trans hn2)
    clear hn2
    go_wp2
    refine bodyPost_ret (results_tmp2 rfl _ _ _) rfl ?_
    rw [HRR.out]
    exact ⟨_, rfl, World.ownsRow_nil _ _ _ _, HN2.out⟩
    
end Go.Proofs.YtkikdpdainmlcaaGreat
