import Derived.Test.YtkikdpdainmlcaaGreatGZn
import Derived.StillTailTactics
set_option linter.unusedVariables false
set_option linter.unusedSimpArgs false
set_option linter.unnecessarySimpa false
namespace Go.Proofs.YtkikdpdainmlcaaGreat
open Go.RowKit Go.Xt
/-! Check. -/
theorem chkPs_at {A : Int → Mp} {ts : List Int} {l : List Cl} {os : List Nat} {k op : Nat} {x0 : Cl} (hk : os[k]? = some op) (hx : l[op]? = some x0) :
    chkPs A ts l (os.drop k) = match runP A ts l x0.took (lfOf x0) (ofP l op).tail with | some i => some i | none => chkPs A ts l (os.drop (k + 1)) := by
  obtain ⟨p, e⟩ := List.getElem?_eq_some_iff.1 hk
  rw [List.drop_eq_getElem_cons p, e, chkPs, hx]
  rfl
theorem runP_at {A : Int → Mp} {ts : List Int} {l : List Cl} {fr : Int} {x : Lf} {L : List Nat} {j q : Nat} {y : Cl} (hj : L[j]? = some q) (hy : l[q]? = some y) :
    runP A ts l fr x (L.drop j) = if y.kd = 12 ∧ keepM A ts fr y x = false then some q else runP A ts l fr (aftL x y) (L.drop (j + 1)) := by
  obtain ⟨p, e⟩ := List.getElem?_eq_some_iff.1 hj
  rw [List.drop_eq_getElem_cons p, e, runP, hy]
theorem pOpens_len : ∀ (l : List Cl) (i : Nat), (opens i l).length ≤ l.length
  | [], i => Nat.le_refl _
  | c :: r, i => by
    have := pOpens_len r (i + 1)
    rw [opens]
    split <;> simp <;> omega
theorem ofG_len (th : Int) : ∀ (i : Nat) (r : List Cl), (ofG th i r).length ≤ r.length
  | _, [] => Nat.le_refl _
  | i, c :: r => by
    have := ofG_len th (i + 1) r
    rw [ofG]
    (repeat' split) <;> simp <;> omega
def pcR (r : Option Nat) : Int × Int := match r with | some i => ((i : Int), 23) | none => (0, 0)
theorem pChk_is {c : Cf} {cuts : List Nat} {l : List Cl} (h : (wChk c cuts l).2 = 0) : pChk c cuts l = pcR (chkPs (mapsA c cuts l) (tksL l) l (opens 0 l)) := by
  unfold pChk pcR
  rw [if_neg (by omega)]
  cases chkPs (mapsA c cuts l) (tksL l) l (opens 0 l) <;> rfl
theorem wChk_X {c : Cf} {cuts : List Nat} {l : List Cl} (h : (wChk c cuts l).2 = 0) : ∃ o2, wX c cuts l = .ok o2 := by
  unfold wChk at h
  cases hx : wX c cuts l with
  | error z => rw [hx] at h; exact absurd h (wX_err hx)
  | ok o => exact ⟨o, rfl⟩
def PcP (w : World) (r : Int × Int) (e : Ending) (w' : World) : Prop := e = .returned (.tuple #[.int .i64 r.1, .int .i64 r.2]) ∧ Nw w w'
set_option maxRecDepth 20000 in
set_option maxHeartbeats 8000000 in
theorem pcheck_any {w : World} {c : Cf} {cuts : List Nat} {A : Option Addr} {n cap : Nat} {l : List Cl} (hi : In3 w c cuts A n cap l) :
    Calls Tryz.prog 9 #[confV c, .slice A n cap] w (PcP w (pChk c cuts l)) := by
  have HW := Lib.hid (fun W (hq : Nw w W) => wcheck_any (hi.nw hq))
  by_cases hw0 : (wChk c cuts l).2 = 0
  · obtain ⟨o2, hX⟩ := wChk_X hw0
    have hbad := (wX_ok hX).2.1
    have hw1 : (wChk c cuts l).1 = 0 := by
      unfold wChk at hw0 ⊢
      rw [hX] at hw0 ⊢
      simp only at hw0 ⊢
      split at hw0 <;> simp_all
    rw [hw0, hw1] at HW
    rw [pChk_is hw0]
    obtain ⟨CP, hCP⟩ : ∃ q, q = chkPs (mapsA c cuts l) (tksL l) l (opens 0 l) := ⟨_, rfl⟩
    rw [← hCP]
    have HCP := Lib.hid hCP
    have HPA := Lib.hid (fun W (hq : Nw w W) => by have h := passages_any A n cap l W hi.n1 hi.nc hi.cap_ (hi.hl.nw hq) (fun y hy => (hi.wf y hy).wf); unfold PassP at h; rw [if_pos hbad] at h; exact h)
    have HKP := Lib.hid (fun W (hq : Nw w W) (op nx : Cl) (x : Lf) (hfr : -1 ≤ op.took) => keeps_any (hi.nw hq) hX op nx x hfr)
    have HGT := Lib.hid (fun (j : Nat) (y : Cl) (hy : l[j]? = some y) => (good_took (good_atP hbad hy)).1)
    have HI := Lib.hid hi
    unfold confV at HW ⊢
    unfold confV lfv at HKP
    haveI hca : ConfAt (w.alloc (cellsOf c 27)) w.heap.size c := ⟨fun i v hv => by unfold cellsOf; unfold ccells at hv; rw [World.cell?_alloc_new]; simpa using hv, by simp⟩
    obtain ⟨W1, hW1⟩ : ∃ W, W = w.alloc (cellsOf c 27) := ⟨_, rfl⟩
    rw [← hW1] at hca
    have hn1 : Nw w W1 := by rw [hW1]; exact nwa
    unfold cellsOf at hW1
    have HW1 := Lib.hid hW1
    have HN1 := Lib.hid hn1
    haveI : In w.heap.size W1 := ⟨hca.lt⟩
    clear hW1 hn1 hi hX hbad hw0 hw1 hCP
    go_enter Tryz.func9, Tryz.ntmps9
    go_upto_region 1 with (fail)
    rw [← HW1.out]
    go_wp2_with fail
    refine (HW.out W1 HN1.out).mono ?_
    rintro e W2 ⟨rfl, hn2⟩
    haveI hca2 : ConfAt W2 w.heap.size c := hca.nw hn2
    have HN2 := Lib.hid (HN1.out.trans hn2)
    clear hn2
    go_wp2_with fail
    refine (HPA.out W2 HN2.out).mono ?_
    rintro e W3 ⟨v, zs, rfl, hrr, hn3⟩
    haveI hca3 : ConfAt W3 w.heap.size c := hca2.nw hn3
    obtain ⟨Av, cv', rfl⟩ := own_slice hrr.row
    obtain ⟨np, hnp⟩ : ∃ k, k = zs.length := ⟨_, rfl⟩
    rw [← hnp]
    have HNP := Lib.hid hnp
    have HRR := Lib.hid hrr
    have HN3 := Lib.hid (HN2.out.trans hn3)
    clear hrr hn3 hnp
    go_wp2_with fail
    go_loopw [10, 11, 12, 14, 15, 16, 37, 58] (fun _ _ _ _ _ _ a _ wr => ∃ k : Nat, k ≤ np ∧ a = .int .i64 k ∧ Nw W3 wr ∧ Hid (chkPs (mapsA c cuts l) (tksL l) l ((opens 0 l).drop k) = CP)) (fun _ _ _ _ _ _ a _ _ => np - (intOf a).toNat)
    case atStart => exact ⟨0, Nat.zero_le _, rfl, nwa, Lib.hid (by rw [HCP.out]; rfl)⟩
    case round =>
      obtain ⟨k, hk, rfl, hnr, HT⟩ := hrel
      obtain ⟨wo, hwo⟩ : ∃ q, q = wr := ⟨_, rfl⟩
      subst hwo
      by_cases hlt : k < np
      · obtain ⟨op, hop⟩ : ∃ op, (opens 0 l)[k]? = some op := ⟨_, List.getElem?_eq_getElem (by have h := HRR.out.len; rw [passL, List.length_map, ← HNP.out] at h; rw [← h]; exact hlt)⟩
        obtain ⟨x0, hx0, -⟩ := opens_iff.1 (List.mem_of_getElem? hop)
        have hpass : (passL l)[k]? = some (ofP l op) := by rw [passL, List.getElem?_map, hop]; rfl
        obtain ⟨zv, hz1, hz2⟩ := HRR.out.get hpass
        obtain ⟨L, hL⟩ : ∃ L, L = ofG x0.th (op + 1) (l.drop (op + 1)) := ⟨_, rfl⟩
        have hofp : ofP l op = op :: L := by rw [ofP_tail hx0, hL]
        obtain ⟨nt, hnt⟩ : ∃ q, q = L.length := ⟨_, rfl⟩
        rw [hofp] at hz2
        have hln : lnJ (op :: L) = nt + 1 := by simp [lnJ, natI, hnt]
        rw [hln] at hz2
        rcases own_forms hz2 with ⟨-, h0⟩ | ⟨bz, cz, rfl, -, hbz, hcz1, hcz2⟩
        · omega
        have hcell : ∀ (i : Nat) (q : Nat), (op :: L)[i]? = some q → wo.cell? ⟨bz, i, none⟩ = some (.int .i64 (q : Int)) := fun i q hq => by
          obtain ⟨b1, o1, e1, -, h1⟩ := (own_rd hz2).2 (by omega)
          injection e1 with e1; injection e1 with e2 e3; subst e2 e3
          have h2 := h1 i (.int .i64 (q : Int)) (by unfold cfJ ints natI; rw [List.getElem?_map, List.getElem?_map, hq]; rfl)
          rw [Nat.zero_add] at h2
          exact cell_nw h2 hnr
        have hrow := HRR.out.row
        rw [← HNP.out] at hrow
        obtain ⟨bo, oo, rfl, hbo, hco⟩ := (own_rd hrow).2 (by omega)
        have c0 : wo.cell? ⟨bo, oo + k, none⟩ = some (.slice (some ⟨bz, 0, none⟩) (nt + 1) cz) := cell_nw (hco k _ hz1) hnr
        have c1 : wo.cell? ⟨bz, 0, none⟩ = some (.int .i64 (op : Int)) := hcell 0 op rfl
        haveI : In bo wo := ⟨World.block_lt_of_cell? wo _ c0⟩
        haveI : In bz wo := ⟨World.block_lt_of_cell? wo _ c1⟩
        have hopn : op < n := by rw [← HI.out.hl.1]; exact (List.getElem?_eq_some_iff.1 hx0).1
        have hnwr : Nw w wo := HN3.out.trans hnr
        obtain ⟨b, o, x0', rfl, hb, hx0', hcx0⟩ := (HI.out.hl.nw hnwr).get hopn
        obtain rfl : x0 = x0' := by rw [hx0] at hx0'; injection hx0'
        haveI : CallAt wo b (o + op * 18) x0 := ⟨hcx0, hb⟩
        haveI : In b wo := ⟨hb⟩
        obtain ⟨w10, hw10⟩ : ∃ q, q = (wo.alloc (.cells #[.int .i64 x0.th, .int .i64 x0.ix, .int .u8 x0.kd, .int .u64 x0.ka, .int .u64 x0.kb, .int .u64 x0.kc, .int .u64 x0.kx, .int .u64 x0.ky, .int .u64 x0.kz, .int .i64 x0.inv, .int .i64 x0.took, .int .i64 x0.ans, .int .i64 x0.st, .int .i64 x0.re, .bool x0.rf, .int .u64 x0.rk, .int .u64 x0.rv, .int .i64 x0.rc] 45)).alloc (.cells #[.int .u64 x0.ka, .int .u64 x0.kb, .bool true] 68) := ⟨_, rfl⟩
        have hn10 : Nw wo w10 := by rw [hw10]; exact nwa
        haveI hco10 : CallAt w10 wo.heap.size 0 x0 := by
          have h0 : CallAt (wo.alloc (.cells #[.int .i64 x0.th, .int .i64 x0.ix, .int .u8 x0.kd, .int .u64 x0.ka, .int .u64 x0.kb, .int .u64 x0.kc, .int .u64 x0.kx, .int .u64 x0.ky, .int .u64 x0.kz, .int .i64 x0.inv, .int .i64 x0.took, .int .i64 x0.ans, .int .i64 x0.st, .int .i64 x0.re, .bool x0.rf, .int .u64 x0.rk, .int .u64 x0.rv, .int .i64 x0.rc] 45)) wo.heap.size 0 x0 := inferInstance
          exact CallAt.nwq (h := h0) (by rw [hw10]; exact nwa)
        have hl10 : LfAt w10 (wo.heap.size + 1) (lfOf x0) := by rw [hw10]; exact ⟨by simp [go_sem, lfOf], by simp [go_sem, lfOf], by simp [go_sem, lfOf], by simp [go_sem], by simp [go_sem]⟩
        have hf1 : w10.frozen? ⟨wo.heap.size + 1, 1, none⟩ = false := by rw [hw10]; simp [go_sem]
        have hs10 : w10.heap.size = wo.heap.size + 2 := by rw [hw10]; simp
        obtain ⟨R, hR⟩ : ∃ q, q = runP (mapsA c cuts l) (tksL l) l x0.took (lfOf x0) L := ⟨_, rfl⟩
        have hT2 := HT.out
        rw [chkPs_at hop hx0, hofp, List.tail_cons, ← hR] at hT2
        have HT2 := Lib.hid hT2
        have HR := Lib.hid hR
        have hidx : ∀ j q, L[j]? = some q → q < n ∧ ∃ y, l[q]? = some y := fun j q hq => by
          have hm := List.mem_of_getElem? hq
          rw [hL] at hm
          obtain ⟨h1, y, h2, -⟩ := ofG_mem _ _ _ hm
          rw [List.getElem?_drop, show op + 1 + (q - (op + 1)) = q by omega] at h2
          exact ⟨by rw [← HI.out.hl.1]; exact (List.getElem?_eq_some_iff.1 h2).1, y, h2⟩
        have HIDX := Lib.hid hidx
        have HLL := Lib.hid (show L.length ≤ l.length by rw [hL]; exact Nat.le_trans (ofG_len _ _ _) (by simp))
        have HCELL := Lib.hid (fun (j q : Nat) (hq : L[j]? = some q) => hcell (j + 1) q (by simpa using hq))
        have HTK := Lib.hid (show -1 ≤ x0.took ∧ x0.kb < 18446744073709551616 from ⟨HGT.out op x0 hx0, by exact (HI.out.wf x0 (List.mem_of_getElem? hx0)).op.hi.2⟩)
        have HW10 := Lib.hid hw10
        have HN10 := Lib.hid hn10
        have HS10 := Lib.hid hs10
        have HL10 := Lib.hid (And.intro hl10 hf1)
        have HNT := Lib.hid hnt
        have HNWR := Lib.hid hnwr
        have HNR := Lib.hid hnr
        have i1 : (k : Int) < (np : Int) := by omega
        have i2 : (op : Int) < (n : Int) := by omega
        have i3 : (0 : Int) < ((nt : Int) + 1) := by omega
        have hkc : k < 1000000 := by have h1 := HRR.out.len; have h2 := pOpens_len l 0; have h3 := HI.out.hl.1; have h4 := HI.out.n1; have h5 := HNP.out; rw [passL, List.length_map] at h1; omega
        have hcc : cz = 1 ∨ 1 < cz := by omega
        clear hop hpass hz1 hz2 hL hofp hln hcell hrow hbo hco hx0 hx0' hcx0 hb hw10 hn10 hl10 hf1 hs10 hR hT2 hidx hnt hnwr hnr hcz2 hbz
        rcases hcc with rfl | hc1
        all_goals
          try have hne1 := Nat.ne_of_gt hc1
          go_upto_region 12 with (fail)
          rw [← HW10.out]
          go_wp2_with fail
          go_loopw [14, 15, 16, 58] (fun _ _ _ a w8 => ∃ (j : Nat) (xc : Lf), j ≤ nt ∧ a = .int .i64 j ∧ Chg [wo.heap.size + 1] w10 w8 ∧ Hid (LfAt w8 (wo.heap.size + 1) xc ∧ w8.frozen? ⟨wo.heap.size + 1, 1, none⟩ = false ∧ xc.hi = x0.kb ∧ runP (mapsA c cuts l) (tksL l) l x0.took xc (L.drop j) = R)) (fun _ _ _ a _ => nt - (intOf a).toNat)
          case atStart => exact ⟨0, lfOf x0, Nat.zero_le _, rfl, Chg.of_nw (Nw.refl _), Lib.hid ⟨HL10.out.1, HL10.out.2, rfl, by rw [HR.out]; rfl⟩⟩
          case round =>
            obtain ⟨j, xc, hj, rfl, hch, HJ⟩ := hrel
            obtain ⟨w8, hw8⟩ : ∃ q, q = wr := ⟨_, rfl⟩
            subst hw8
            by_cases hjl : j < nt
            · first
                | (exfalso; omega)
                | (obtain ⟨q, hq⟩ : ∃ q, L[j]? = some q := ⟨_, List.getElem?_eq_getElem (by rw [← HNT.out]; exact hjl)⟩
                   obtain ⟨hqn, y, hy⟩ := HIDX.out j q hq
                   have hnw8 : Nw w w8 := nw_chg2 (HNWR.out.trans HN10.out) hch (fun g hg => by simp at hg; have := HNWR.out.grown.size; omega)
                   have hs1 : bz < wo.heap.size := World.block_lt_of_cell? wo _ c1
                   have s1 : w8.cell? ⟨bz, 1 + j, none⟩ = some (.int .i64 (q : Int)) := by rw [Nat.add_comm]; exact hch.cell (cell_nw (HCELL.out j q hq) HN10.out) (by simp; omega)
                   haveI : In bz w8 := ⟨World.block_lt_of_cell? w8 _ s1⟩
                   obtain ⟨b', o', y', e', hb8, hy', hcy⟩ := (HI.out.hl.nw hnw8).get hqn
                   obtain ⟨rfl, rfl⟩ : b = b' ∧ o = o' := by simpa using e'
                   obtain rfl : y = y' := by rw [hy] at hy'; injection hy'
                   haveI : CallAt w8 b (o + q * 18) y := ⟨hcy, hb8⟩
                   have hcy8 : CallAt w8 b (o + q * 18) y := ⟨hcy, hb8⟩
                   have ek : w8.cell? ⟨b, o + q * 18 + 2, none⟩ = some (.int .u8 y.kd) := (AtC.range hcy) 2 _ rfl
                   haveI : In b w8 := ⟨hb8⟩
                   haveI hco8 : CallAt w8 wo.heap.size 0 x0 := CallAt.chgq hch (by simp)
                   haveI hca8 : ConfAt w8 w.heap.size c := ⟨fun i v hv => hch.cell (((hca3.nw HNR.out).nw HN10.out).at_ i v hv) (by have := HNWR.out.grown.size; simp; omega), Nat.lt_of_lt_of_le ((hca3.nw HNR.out).nw HN10.out).lt hch.size⟩
                   haveI : In w.heap.size w8 := ⟨hca8.lt⟩
                   haveI : In wo.heap.size w8 := ⟨hco8.lt⟩
                   have u0 := HJ.out.1.c0
                   have u1 := HJ.out.1.c1
                   have u2 := HJ.out.1.c2
                   have z0 := HJ.out.1.f0
                   have z1 := HJ.out.2.1
                   have z2 := HJ.out.1.f2
                   haveI : In (wo.heap.size + 1) w8 := ⟨World.block_lt_of_cell? w8 _ u0⟩
                   have hwy := HI.out.wf y (List.mem_of_getElem? hy)
                   have HAF := Lib.hid (fun W => lafter_any xc y W hwy.op.key hwy.rk hwy.op.k (by rw [HJ.out.2.2.1]; exact HTK.out.2))
                   have hrun := HJ.out.2.2.2
                   rw [runP_at hq hy] at hrun
                   have HRUN := Lib.hid hrun
                   have HNW8 := Lib.hid hnw8
                   have HCH := Lib.hid hch
                   have i4 : (j : Int) < (nt : Int) := by omega
                   have i5 : (q : Int) < (n : Int) := by omega
                   have i6 : j < 1000000 := by have h1 := HNT.out; have h2 := HIDX.out; exact Nat.lt_of_lt_of_le hjl (Nat.le_trans (by rw [h1]; exact HLL.out) (by have h3 := HI.out.hl.1; have h4 := HI.out.n1; omega))
                   clear hq hy hnw8 hs1 e' hb8 hy' hcy hwy hrun hch hqn
                   unfold lfv at HAF
                   by_cases k12 : y.kd = 12
                   · have d1 : (y.kd == 12) = true := by simpa using k12
                     obtain ⟨kp, hkp⟩ : ∃ q, q = keepM (mapsA c cuts l) (tksL l) x0.took y xc := ⟨_, rfl⟩
                     have HK2 := Lib.hid (fun W (hq : Nw w W) => HKP.out W hq x0 y xc HTK.out.1)
                     rw [← hkp] at HK2
                     have HRUN2 := HRUN.out
                     rw [← hkp] at HRUN2
                     have HRU := Lib.hid (show (if kp = false then some q else runP (mapsA c cuts l) (tksL l) l x0.took (aftL xc y) (L.drop (j + 1))) = R by rw [← HRUN2]; by_cases h : kp = false; rw [if_pos h, if_pos ⟨k12, h⟩]; rw [if_neg h, if_neg (fun e => h e.2)])
                     clear hkp HRUN2 k12
                     have hld : ∀ W, Nw w8 W → (loadConf (.pointer (some ⟨w.heap.size, 0, none⟩))).run Tryz.prog W = .ok (.agg #[.int .i64 c.thr, .int .i64 c.sl, .int .u8 c.eng, .int .i64 c.bk, .int .u8 c.dk, .int .i64 c.dn, .slice c.cA c.cn c.cc, .int .i64 c.t1, .int .i64 c.t2, .int .i64 c.t3, .int .i64 c.t4, .int .i64 c.t5, .int .i64 c.t6, .int .i64 c.lk, .int .i64 c.tr, .int .i64 c.ba]) W := fun W hq => by
                       haveI := hca8.nw hq
                       exact run_loadConf
                     have hlo : ∀ W, Nw w8 W → (loadCall (.pointer (some ⟨wo.heap.size, 0, none⟩))).run Tryz.prog W = .ok (cv x0) W := fun W hq => by
                       haveI := CallAt.nwq hq (h := hco8)
                       exact run_loadCall
                     have hly : ∀ W, Nw w8 W → (loadCall (.pointer (some ⟨b, o + q * 18, none⟩))).run Tryz.prog W = .ok (cv y) W := fun W hq => by
                       haveI := CallAt.nwq hq (h := hcy8)
                       exact run_loadCall
                     go_upto_region 16 with (fail)
                     go_region_held3 (fun wq => (loadConf (.pointer (some ⟨w.heap.size, 0, none⟩))).run Tryz.prog wq = .ok (.agg #[.int .i64 c.thr, .int .i64 c.sl, .int .u8 c.eng, .int .i64 c.bk, .int .u8 c.dk, .int .i64 c.dn, .slice c.cA c.cn c.cc, .int .i64 c.t1, .int .i64 c.t2, .int .i64 c.t3, .int .i64 c.t4, .int .i64 c.t5, .int .i64 c.t6, .int .i64 c.lk, .int .i64 c.tr, .int .i64 c.ba]) wq ∧ (loadCall (.pointer (some ⟨wo.heap.size, 0, none⟩))).run Tryz.prog wq = .ok (cv x0) wq ∧ (loadCall (.pointer (some ⟨b, o + q * 18, none⟩))).run Tryz.prog wq = .ok (cv y) wq ∧ wq.cell? ⟨wo.heap.size + 1, 0, none⟩ = some (.int .u64 xc.lo) ∧ wq.cell? ⟨wo.heap.size + 1, 1, none⟩ = some (.int .u64 xc.hi) ∧ wq.cell? ⟨wo.heap.size + 1, 2, none⟩ = some (.bool xc.more)) (exact ⟨hld _ (by (repeat (first | exact Xt.Nw.refl _ | assumption | refine Xt.Nw.drew ?_ | refine Xt.Nw.drewN ?_ _ | refine Xt.Nw.alloc ?_ _ | refine Xt.Nw.ext ?_))), hlo _ (by (repeat (first | exact Xt.Nw.refl _ | assumption | refine Xt.Nw.drew ?_ | refine Xt.Nw.drewN ?_ _ | refine Xt.Nw.alloc ?_ _ | refine Xt.Nw.ext ?_))), hly _ (by (repeat (first | exact Xt.Nw.refl _ | assumption | refine Xt.Nw.drew ?_ | refine Xt.Nw.drewN ?_ _ | refine Xt.Nw.alloc ?_ _ | refine Xt.Nw.ext ?_))), cell_nw u0 (by (repeat (first | exact Xt.Nw.refl _ | assumption | refine Xt.Nw.drew ?_ | refine Xt.Nw.drewN ?_ _ | refine Xt.Nw.alloc ?_ _ | refine Xt.Nw.ext ?_))), cell_nw u1 (by (repeat (first | exact Xt.Nw.refl _ | assumption | refine Xt.Nw.drew ?_ | refine Xt.Nw.drewN ?_ _ | refine Xt.Nw.alloc ?_ _ | refine Xt.Nw.ext ?_))), cell_nw u2 (by (repeat (first | exact Xt.Nw.refl _ | assumption | refine Xt.Nw.drew ?_ | refine Xt.Nw.drewN ?_ _ | refine Xt.Nw.alloc ?_ _ | refine Xt.Nw.ext ?_)))⟩)
                       ((go_at_call 23; refine (HK2.out _ (HNW8.out.trans (by (repeat (first | exact Xt.Nw.refl _ | assumption | refine Xt.Nw.drew ?_ | refine Xt.Nw.drewN ?_ _ | refine Xt.Nw.alloc ?_ _ | refine Xt.Nw.ext ?_))))).mono ?_; rintro e w9 ⟨rfl, hn9⟩; have hn89 : Nw w8 w9 := Nw.trans (by (repeat (first | exact Xt.Nw.refl _ | assumption | refine Xt.Nw.drew ?_ | refine Xt.Nw.drewN ?_ _ | refine Xt.Nw.alloc ?_ _ | refine Xt.Nw.ext ?_))) hn9; clear hn9))
                     clear hld hlo hly
                     cases kp with
                     | false =>
                       have HRS := Lib.hid (show CP = some q by rw [← HT2.out, ← HRU.out, if_pos rfl])
                       have HNF := Lib.hid (HNW8.out.trans hn89)
                       clear hn89
                       go_wp2
                       refine bodyPost_ret (results_tmp2 rfl _ _ _) rfl ?_
                       rw [HRS.out]
                       exact ⟨rfl, HNF.out⟩
                     | true =>
                       have HNX := Lib.hid (show runP (mapsA c cuts l) (tksL l) l x0.took (aftL xc y) (L.drop (j + 1)) = R by rw [← HRU.out, if_neg (by simp)])
                       haveI : CallAt w9 b (o + q * 18) y := CallAt.nwq hn89
                       haveI : In b w9 := ⟨Nat.lt_of_lt_of_le (In.lt (w := w8)) hn89.grown.size⟩
                       have u0 := cell_nw u0 hn89
                       have u1 := cell_nw u1 hn89
                       have u2 := cell_nw u2 hn89
                       have z0 := (frozen_nw (World.block_lt_of_cell? w8 _ HJ.out.1.c0) hn89).trans z0
                       have z1 := (frozen_nw (World.block_lt_of_cell? w8 _ HJ.out.1.c0) hn89).trans z1
                       have z2 := (frozen_nw (World.block_lt_of_cell? w8 _ HJ.out.1.c0) hn89).trans z2
                       haveI : In (wo.heap.size + 1) w9 := ⟨World.block_lt_of_cell? w9 _ u0⟩
                       have HCV := Lib.hid (HCH.out.trans (Chg.of_nw hn89))
                       clear hn89
                       go_upto_region 21 with (fail)
                       go_still_tail 5, (by kernel_rfl)
                       change wpList _ _ _ _ _ w9.drew
                       go_wp2_with fail
                       refine (HAF.out w9.drew).mono ?_
                       rintro e wA ⟨rfl, hnA⟩
                       have hnA2 : Nw w9 wA := (Nw.refl _).drew.trans hnA
                       have v0 := cell_nw u0 hnA2
                       have v1 := cell_nw u1 hnA2
                       have v2 := cell_nw u2 hnA2
                       have y0 := (frozen_nw (World.block_lt_of_cell? w9 _ u0) hnA2).trans z0
                       have y1 := (frozen_nw (World.block_lt_of_cell? w9 _ u0) hnA2).trans z1
                       have y2 := (frozen_nw (World.block_lt_of_cell? w9 _ u0) hnA2).trans z2
                       haveI : In (wo.heap.size + 1) wA := ⟨World.block_lt_of_cell? wA _ v0⟩
                       have HCA := Lib.hid (HCV.out.trans (Chg.of_nw hnA2))
                       clear hnA hnA2
                       go_wp2_with fail
                       exact ⟨⟨j + 1, aftL xc y, by omega, by go_num, ((HCA.out.trans (Chg.set1 _ _ 0 _)).trans (Chg.set1 _ _ 1 _)).trans (Chg.set1 _ _ 2 _), Lib.hid ⟨⟨by simp [go_sem, v0], by simp [go_sem, v1], by simp [go_sem, v2], by simp [go_sem, y0], by simp [go_sem, y2]⟩, by simp [go_sem, y1], by rw [aftL_hi]; exact HJ.out.2.2.1, HNX.out⟩⟩, by simp [intOf]; omega⟩
                   · have d1 : (y.kd == 12) = false := by simpa using k12
                     have HNX := Lib.hid (show runP (mapsA c cuts l) (tksL l) l x0.took (aftL xc y) (L.drop (j + 1)) = R by rw [← HRUN.out, if_neg (fun h => k12 h.1)])
                     have HCV := HCH
                     clear k12
                     go_upto_region 21 with (fail)
                     go_still_tail 5, (by kernel_rfl)
                     change wpList _ _ _ _ _ w8.drew
                     go_wp2_with fail
                     refine (HAF.out w8.drew).mono ?_
                     rintro e wA ⟨rfl, hnA⟩
                     have hnA2 : Nw w8 wA := (Nw.refl _).drew.trans hnA
                     have v0 := cell_nw u0 hnA2
                     have v1 := cell_nw u1 hnA2
                     have v2 := cell_nw u2 hnA2
                     have y0 := (frozen_nw (World.block_lt_of_cell? w8 _ u0) hnA2).trans z0
                     have y1 := (frozen_nw (World.block_lt_of_cell? w8 _ u0) hnA2).trans z1
                     have y2 := (frozen_nw (World.block_lt_of_cell? w8 _ u0) hnA2).trans z2
                     haveI : In (wo.heap.size + 1) wA := ⟨World.block_lt_of_cell? wA _ v0⟩
                     have HCA := Lib.hid (HCV.out.trans (Chg.of_nw hnA2))
                     clear hnA hnA2
                     go_wp2_with fail
                     exact ⟨⟨j + 1, aftL xc y, by omega, by go_num, ((HCA.out.trans (Chg.set1 _ _ 0 _)).trans (Chg.set1 _ _ 1 _)).trans (Chg.set1 _ _ 2 _), Lib.hid ⟨⟨by simp [go_sem, v0], by simp [go_sem, v1], by simp [go_sem, v2], by simp [go_sem, y0], by simp [go_sem, y2]⟩, by simp [go_sem, y1], by rw [aftL_hi]; exact HJ.out.2.2.1, HNX.out⟩⟩, by simp [intOf]; omega⟩)
            · have ej : j = nt := by omega
              have hrun := HJ.out.2.2.2
              rw [List.drop_of_length_le (by rw [ej, HNT.out]; exact Nat.le_refl _)] at hrun
              have hT3 := HT2.out
              rw [← hrun] at hT3
              have HT3 := Lib.hid (show chkPs (mapsA c cuts l) (tksL l) l ((opens 0 l).drop (k + 1)) = CP from hT3)
              have HNF := Lib.hid (nw_chg2 (HNR.out.trans HN10.out) hch (fun g hg => by simp at hg; have := HNR.out.grown.size; omega))
              have i4 : ¬ (j : Int) < (nt : Int) := by omega
              clear hrun hT3 hch ej
              go_wp2_with fail
              exact ⟨⟨k + 1, by omega, by go_num, HNF.out, HT3⟩, by simp [intOf]; omega⟩
      · have hkn : k = np := by omega
        have hr : CP = none := by
          rw [← HT.out, hkn, HNP.out, HRR.out.len, passL, List.length_map, List.drop_of_length_le (Nat.le_refl _)]; rfl
        have i1 : ¬ (k : Int) < (np : Int) := by omega
        have HR := Lib.hid hr
        have HNR := Lib.hid hnr
        clear hr hnr hkn
        go_wp2
        refine bodyPost_ret (results_tmp2 rfl _ _ _) rfl ?_
        rw [HR.out]
        exact ⟨rfl, HN3.out.trans HNR.out⟩
  · have hne : ((wChk c cuts l).2 != 0) = true := by simpa using hw0
    have hp : pChk c cuts l = wChk c cuts l := by unfold pChk; rw [if_pos hw0]
    rw [hp]
    have HNE := Lib.hid hne
    obtain ⟨z, hz⟩ : ∃ z, z = wChk c cuts l := ⟨_, rfl⟩
    rw [← hz] at HW HNE ⊢
    obtain ⟨z1, z2⟩ := z
    simp only at HW HNE ⊢
    have hne := HNE.out
    unfold confV at HW ⊢
    haveI hca : ConfAt (w.alloc (cellsOf c 27)) w.heap.size c := ⟨fun i v hv => by unfold cellsOf; unfold ccells at hv; rw [World.cell?_alloc_new]; simpa using hv, by simp⟩
    obtain ⟨W1, hW1⟩ : ∃ W, W = w.alloc (cellsOf c 27) := ⟨_, rfl⟩
    rw [← hW1] at hca
    have hn1 : Nw w W1 := by rw [hW1]; exact nwa
    unfold cellsOf at hW1
    have HW1 := Lib.hid hW1
    have HN1 := Lib.hid hn1
    haveI : In w.heap.size W1 := ⟨hca.lt⟩
    clear hW1 hn1 hi hw0 hp hz
    go_enter Tryz.func9, Tryz.ntmps9
    go_upto_region 1 with (fail)
    rw [← HW1.out]
    go_wp2_with fail
    refine (HW.out W1 HN1.out).mono ?_
    rintro e W2 ⟨rfl, hn2⟩
    have HN2 := Lib.hid (HN1.out.trans hn2)
    clear hn2
    go_wp2
    refine bodyPost_ret (results_tmp2 rfl _ _ _) rfl ?_
    exact ⟨rfl, HN2.out⟩
end Go.Proofs.YtkikdpdainmlcaaGreat
