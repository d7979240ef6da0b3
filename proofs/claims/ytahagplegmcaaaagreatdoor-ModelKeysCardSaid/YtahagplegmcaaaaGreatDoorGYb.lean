import Derived.Test.YtahagplegmcaaaaGreatDoorGWp
import Derived.Laws.Strings
import Derived.Test.YtahagplegmcaaaaGreatDoorGSe
set_option linter.unusedVariables false
set_option linter.unusedSimpArgs false
set_option linter.unnecessarySimpa false
namespace Go.Proofs.YtahagplegmcaaaaGreatDoor
open Go.RowKit Go.Xt
/-! Same of the reference. -/
theorem rcellsAt {W : World} {gt : Nat} {th : List Th} (h : RThR W gt th) {k : Nat} {x : Th} (hk : th[k]? = some x) : W.cell? ⟨gt, k * 5, none⟩ = some (.bool x.se) ∧ W.cell? ⟨gt, k * 5 + 1, none⟩ = some (.bool x.op) ∧ W.cell? ⟨gt, k * 5 + 2, none⟩ = some (.bool x.mo) ∧ W.cell? ⟨gt, k * 5 + 3, none⟩ = some (.int .u64 x.lo) ∧ W.cell? ⟨gt, k * 5 + 4, none⟩ = some (.int .u64 x.hi) := by
  obtain ⟨c, h⟩ := h
  have hlt := (List.getElem?_eq_some_iff.1 hk).1
  obtain ⟨h0, h1, h2, h3, h4⟩ := rtcells_get th k x hk
  exact ⟨(h.cellAt _ (by omega)).trans h0, (h.cellAt _ (by omega)).trans h1, (h.cellAt _ (by omega)).trans h2, (h.cellAt _ (by omega)).trans h3, (h.cellAt _ (by omega)).trans h4⟩
def eqS (a b c : Bool) (l h : Int) (a' b' c' : Bool) (l' h' : Int) : Bool := decide (a = a') && (decide (b = b') && (decide (c = c') && (decide (l = l') && decide (h = h'))))
set_option maxRecDepth 20000 in
@[go_sem 20000] theorem eqSeat (a b c : Bool) (l h : Int) (a' b' c' : Bool) (l' h' : Int) (w : World) : (Op.equalIn 10000 73 (.agg #[.bool a, .bool b, .bool c, .int .u64 l, .int .u64 h]) (.agg #[.bool a', .bool b', .bool c', .int .u64 l', .int .u64 h'])).run Tryz.prog w = .ok (eqS a b c l h a' b' c' l' h') w := by
  have hS : Tryz.prog.underlying 73 = some (.struct (Tryz.prog.fieldsOf 73)) := by kernel_rfl
  have hp : Tryz.prog.stoodInHeld 73 = false := by kernel_rfl
  rw [show (10000 : Nat) = 9999 + 1 from rfl, run_equalIn_agg w 9999 73 _ _ hS hp]
  simp only [Program.fieldsOf, Tryz.underlying73]
  go_simp
  simp only [ite_ok0, ite_ok]
  simp only [Bool.decide_and]
  rfl
def RSameP (w : World) (s r : Md) (e : Ending) (w' : World) : Prop := ∃ b, e = .returned (.bool b) ∧ (b = true ↔ s.l = r.l ∧ s.th = r.th ∧ s.slots = r.slots) ∧ Nw w w'
set_option maxRecDepth 20000 in
set_option maxHeartbeats 8000000 in
theorem rsame_M (w : World) (p q : Pl) (c d : Cf) (s r : Md) (hp : RAt w p c s) (hq : RAt w q d r) (hl : s.l.length ≤ 1000000) (hk : r.l.length ≤ 1000000) (hn : s.th.length ≤ 1000) (hm : r.th.length ≤ 1000) :
    Calls Tryz.prog 12 #[.pointer (some ⟨p.gm, 0, none⟩), .pointer (some ⟨q.gm, 0, none⟩)] w (RSameP w s r) := by
  obtain ⟨gm, gt, gp, v⟩ := p
  obtain ⟨km, kt, kp, v2⟩ := q
  have a1 : w.cell? ⟨gm, 1, none⟩ = some (.int .i64 c.sl) := hp.cf 1 _ rfl
  have a16 : w.cell? ⟨gm, 16, none⟩ = some (.pointer (some ⟨gp, 0, none⟩)) := hp.m1
  obtain ⟨ct, a17⟩ : ∃ ct, w.cell? ⟨gm, 17, none⟩ = some (.slice (some ⟨gt, 0, none⟩) s.th.length ct) := hp.m2
  obtain ⟨A, ca, hv, hrd⟩ := own_rd hp.om.row
  have hv : v = .slice A s.l.length ca := hv
  have a0 : w.cell? ⟨gp, 0, none⟩ = some v := hp.om.p0
  have b1 : w.cell? ⟨km, 1, none⟩ = some (.int .i64 d.sl) := hq.cf 1 _ rfl
  have b16 : w.cell? ⟨km, 16, none⟩ = some (.pointer (some ⟨kp, 0, none⟩)) := hq.m1
  obtain ⟨cu, b17⟩ : ∃ ct, w.cell? ⟨km, 17, none⟩ = some (.slice (some ⟨kt, 0, none⟩) r.th.length ct) := hq.m2
  obtain ⟨B, cb, hv2, hrd2⟩ := own_rd hq.om.row
  have hv2 : v2 = .slice B r.l.length cb := hv2
  have b0 : w.cell? ⟨kp, 0, none⟩ = some v2 := hq.om.p0
  rw [hv] at a0
  rw [hv2] at b0
  have ea : c.sl = s.slots := hp.sl
  have eb : d.sl = r.slots := hq.sl
  rw [ea] at a1
  rw [eb] at b1
  haveI : In gm w := ⟨hp.im⟩
  haveI : In gt w := ⟨hp.it⟩
  haveI : In gp w := ⟨World.block_lt_of_cell? _ _ a0⟩
  haveI : In km w := ⟨hq.im⟩
  haveI : In kt w := ⟨hq.it⟩
  haveI : In kp w := ⟨World.block_lt_of_cell? _ _ b0⟩
  have HT := Lib.hid (hp.th : RThR w gt s.th)
  have HU := Lib.hid (hq.th : RThR w kt r.th)
  have HS := Lib.hid (fun W (hw : Nw w W) => rsame_any A B s.l.length r.l.length ca cb s.l r.l W (hrd.nw hw) (hrd2.nw hw) hl hk)
  obtain ⟨nl, hnl⟩ : ∃ z, z = s.l.length := ⟨_, rfl⟩
  obtain ⟨ml, hml⟩ : ∃ z, z = r.l.length := ⟨_, rfl⟩
  obtain ⟨n, hnn⟩ : ∃ z, z = s.th.length := ⟨_, rfl⟩
  obtain ⟨m, hmm⟩ : ∃ z, z = r.th.length := ⟨_, rfl⟩
  rw [← hnl] at a0 HS
  rw [← hml] at b0 HS
  rw [← hnn] at a17 hn
  rw [← hmm] at b17 hm
  obtain ⟨sl1, h1⟩ : ∃ z, z = s.slots := ⟨_, rfl⟩
  obtain ⟨sl2, h2⟩ : ∃ z, z = r.slots := ⟨_, rfl⟩
  rw [← h1] at a1
  rw [← h2] at b1
  obtain ⟨e1, he1⟩ : ∃ e, e = decide (s.l = r.l) := ⟨_, rfl⟩
  rw [← he1] at HS
  have HE := Lib.hid he1
  have H1 := Lib.hid h1
  have H2 := Lib.hid h2
  have HNN := Lib.hid hnn
  have HMM := Lib.hid hmm
  simp only
  clear hp hq hv hv2 hrd hrd2 hl hk hnl hml hnn hmm h1 h2 he1 ea eb
  cases e1 with
  | false =>
    go_enter Tryz.func12, Tryz.ntmps12
    go_upto_region 1 with (fail)
    (refine wp_region_nw (by kernel_rfl) (by kernel_rfl) ?_; (repeat (go_big_quiet_step ((go_at_call 39; exact quiet_of (HS.out _ (reg_nw _ _)))))); refine wpQuiet_nil ?_; intro _ hreg; obtain ⟨dW, rfl⟩ : Nw _ _ := hreg)
    go_wp2
    refine bodyPost_ret (v := .bool false) (by simp [results, Tryz.results12, Act.put, go_sem]) rfl ⟨false, rfl, ⟨fun h => (by cases h), fun h => (by have := HE.out; simp [h.1] at this)⟩, (by repeat (first | exact Xt.Nw.refl _ | refine Xt.Nw.drew ?_ | refine Xt.Nw.drewN ?_ _ | refine Xt.Nw.alloc ?_ _ | refine Xt.Nw.joined ?_ | refine Xt.Nw.drewd ?_ | refine Xt.Nw.drewdN ?_ | refine Xt.Nw.ext ?_ | refine Xt.Nw.ext_some ?_ (by assumption) | refine Xt.Nw.setCell ?_ (by simp [go_sem] <;> omega) _))⟩
  | true =>
    by_cases hnm : n = m
    case neg =>
      have i1 : ((n : Int) != (m : Int)) = true := by simp; omega
      go_enter Tryz.func12, Tryz.ntmps12
      go_upto_region 1 with (fail)
      (refine wp_region_nw (by kernel_rfl) (by kernel_rfl) ?_; (repeat (go_big_quiet_step ((go_at_call 39; exact quiet_of (HS.out _ (reg_nw _ _)))))); refine wpQuiet_nil ?_; intro _ hreg; obtain ⟨dW, rfl⟩ : Nw _ _ := hreg)
      go_wp2
      refine bodyPost_ret (v := .bool false) (by simp [results, Tryz.results12, Act.put, go_sem]) rfl ⟨false, rfl, ⟨fun h => (by cases h), fun h => (by have := HNN.out; have := HMM.out; have h9 := congrArg List.length h.2.1; omega)⟩, (by repeat (first | exact Xt.Nw.refl _ | refine Xt.Nw.drew ?_ | refine Xt.Nw.drewN ?_ _ | refine Xt.Nw.alloc ?_ _ | refine Xt.Nw.joined ?_ | refine Xt.Nw.drewd ?_ | refine Xt.Nw.drewdN ?_ | refine Xt.Nw.ext ?_ | refine Xt.Nw.ext_some ?_ (by assumption) | refine Xt.Nw.setCell ?_ (by simp [go_sem] <;> omega) _))⟩
    case pos =>
      subst hnm
      by_cases hsl : sl1 = sl2
      case neg =>
        have i1 : (sl1 != sl2) = true := by simpa using hsl
        have i2 : ((n : Int) != (n : Int)) = false := by simp
        go_enter Tryz.func12, Tryz.ntmps12
        go_upto_region 1 with (fail)
        (refine wp_region_nw (by kernel_rfl) (by kernel_rfl) ?_; (repeat (go_big_quiet_step ((go_at_call 39; exact quiet_of (HS.out _ (reg_nw _ _)))))); refine wpQuiet_nil ?_; intro _ hreg; obtain ⟨dW, rfl⟩ : Nw _ _ := hreg)
        go_wp2
        refine bodyPost_ret (v := .bool false) (by simp [results, Tryz.results12, Act.put, go_sem]) rfl ⟨false, rfl, ⟨fun h => (by cases h), fun h => (by have := H1.out; have := H2.out; have h9 := h.2.2; exact absurd (by omega) hsl)⟩, (by repeat (first | exact Xt.Nw.refl _ | refine Xt.Nw.drew ?_ | refine Xt.Nw.drewN ?_ _ | refine Xt.Nw.alloc ?_ _ | refine Xt.Nw.joined ?_ | refine Xt.Nw.drewd ?_ | refine Xt.Nw.drewdN ?_ | refine Xt.Nw.ext ?_ | refine Xt.Nw.ext_some ?_ (by assumption) | refine Xt.Nw.setCell ?_ (by simp [go_sem] <;> omega) _))⟩
      case pos =>
        subst hsl
        have i1 : (sl1 != sl1) = false := by simp
        have i2 : ((n : Int) != (n : Int)) = false := by simp
        go_enter Tryz.func12, Tryz.ntmps12
        go_upto_region 1 with (fail)
        (refine wp_region_nw (by kernel_rfl) (by kernel_rfl) ?_; (repeat (go_big_quiet_step ((go_at_call 39; exact quiet_of (HS.out _ (reg_nw _ _)))))); refine wpQuiet_nil ?_; intro _ hreg; obtain ⟨dW, rfl⟩ : Nw _ _ := hreg)
        clear HS a0 b0 a16 b16 a1 b1
        obtain ⟨W0, hW0⟩ : ∃ W, W = w.ext none dW := ⟨_, rfl⟩
        go_wp2
        go_loopw [5] (fun a wr => ∃ i : Nat, i ≤ n ∧ a = .int .i64 i ∧ Nw w wr ∧ Hid (∀ j, j < i → s.th[j]? = r.th[j]?)) (fun a _ => n - (intOf a).toNat)
        case atStart => exact ⟨0, Nat.zero_le _, rfl, ((by repeat (first | exact Xt.Nw.refl _ | refine Xt.Nw.drew ?_ | refine Xt.Nw.drewN ?_ _ | refine Xt.Nw.alloc ?_ _ | refine Xt.Nw.joined ?_ | refine Xt.Nw.drewd ?_ | refine Xt.Nw.drewdN ?_ | refine Xt.Nw.ext ?_ | refine Xt.Nw.ext_some ?_ (by assumption) | refine Xt.Nw.setCell ?_ (by simp [go_sem] <;> omega) _))), Lib.hid (fun j hj => by omega)⟩
        case round =>
          obtain ⟨i, hi, rfl, hnw, HJ⟩ := hrel
          by_cases hin : i < n
          · obtain ⟨x, hx⟩ : ∃ x, s.th[i]? = some x := ⟨_, List.getElem?_eq_getElem (by have := HNN.out; omega)⟩
            obtain ⟨y, hy⟩ : ∃ y, r.th[i]? = some y := ⟨_, List.getElem?_eq_getElem (by have := HMM.out; omega)⟩
            obtain ⟨x0, x1, x2, x3, x4⟩ := rcellsAt HT.out hx
            obtain ⟨y0, y1, y2, y3, y4⟩ := rcellsAt HU.out hy
            have HX := Lib.hid hx
            have HY := Lib.hid hy
            obtain ⟨xo, xm, xl, xh, xs⟩ := x
            obtain ⟨yo, ym, yl, yh, ys⟩ := y
            simp only at x0 x1 x2 x3 x4 y0 y1 y2 y3 y4
            obtain ⟨d9, rfl⟩ := hnw
            have j1 : (i : Int) < (n : Int) := by omega
            have j2 : i < 1000 := by omega
            have HIN := Lib.hid hin
            clear hx hy hi hin
            obtain ⟨eb, heb⟩ : ∃ eb, eqS xs xo xm xl xh ys yo ym yl yh = eb := ⟨_, rfl⟩
            have HEB := Lib.hid heb
            cases eb with
            | false =>
              go_upto_region 6 with (fail)
              (refine wp_region_nw (by kernel_rfl) (by kernel_rfl) ?_; (repeat (go_big_quiet_step (fail))); refine wpQuiet_nil ?_; intro _ hreg; obtain ⟨dW, rfl⟩ : Nw _ _ := hreg)
              go_wp2
              refine bodyPost_ret (v := .bool false) (by simp [results, Tryz.results12, Act.put, go_sem]) rfl ⟨false, rfl, ⟨fun h => (by cases h), fun h => ?_⟩, (by repeat (first | exact Xt.Nw.refl _ | refine Xt.Nw.drew ?_ | refine Xt.Nw.drewN ?_ _ | refine Xt.Nw.alloc ?_ _ | refine Xt.Nw.joined ?_ | refine Xt.Nw.drewd ?_ | refine Xt.Nw.drewdN ?_ | refine Xt.Nw.ext ?_ | refine Xt.Nw.ext_some ?_ (by assumption) | refine Xt.Nw.setCell ?_ (by simp [go_sem] <;> omega) _))⟩
              · have h1 := h.2.1
                have h2 := HX.out
                rw [h1, HY.out] at h2
                injection h2 with h2
                injection h2 with q1 q2 q3 q4 q5
                subst q1 q2 q3 q4 q5
                have h3 := HEB.out
                simp [eqS] at h3
            | true =>
              go_upto_region 6 with (fail)
              (refine wp_region_nw (by kernel_rfl) (by kernel_rfl) ?_; (repeat (go_big_quiet_step (fail))); refine wpQuiet_nil ?_; intro _ hreg; obtain ⟨dW, rfl⟩ : Nw _ _ := hreg)
              go_wp2
              refine ⟨⟨i + 1, by have := HIN.out; omega, by go_num, (by repeat (first | exact Xt.Nw.refl _ | refine Xt.Nw.drew ?_ | refine Xt.Nw.drewN ?_ _ | refine Xt.Nw.alloc ?_ _ | refine Xt.Nw.joined ?_ | refine Xt.Nw.drewd ?_ | refine Xt.Nw.drewdN ?_ | refine Xt.Nw.ext ?_ | refine Xt.Nw.ext_some ?_ (by assumption) | refine Xt.Nw.setCell ?_ (by simp [go_sem] <;> omega) _)), Lib.hid fun j hj => ?_⟩, by have := HIN.out; simp [intOf]; omega⟩
              by_cases hji : j < i
              · exact HJ.out j hji
              · have hji : j = i := by omega
                subst hji
                have h3 := HEB.out
                simp [eqS] at h3
                obtain ⟨q1, q2, q3, q4, q5⟩ := h3
                subst q1 q2 q3 q4 q5
                rw [HX.out, HY.out]
          · have j1 : ¬ (i : Int) < (n : Int) := by omega
            obtain ⟨d9, rfl⟩ := hnw
            have hin : i = n := by omega
            subst hin
            clear hi
            go_wp2
            refine bodyPost_ret (v := .bool true) (by simp [results, Tryz.results12, Act.put, go_sem]) rfl ⟨true, rfl, ⟨fun _ => ⟨by simpa using HE.out.symm, ?_, by rw [← H1.out, ← H2.out]⟩, fun _ => rfl⟩, (by repeat (first | exact Xt.Nw.refl _ | refine Xt.Nw.drew ?_ | refine Xt.Nw.drewN ?_ _ | refine Xt.Nw.alloc ?_ _ | refine Xt.Nw.joined ?_ | refine Xt.Nw.drewd ?_ | refine Xt.Nw.drewdN ?_ | refine Xt.Nw.ext ?_ | refine Xt.Nw.ext_some ?_ (by assumption) | refine Xt.Nw.setCell ?_ (by simp [go_sem] <;> omega) _))⟩
            refine List.ext_getElem? fun j => ?_
            by_cases hj : j < i
            · exact HJ.out j hj
            · rw [List.getElem?_eq_none (by have := HNN.out; omega), List.getElem?_eq_none (by have := HMM.out; omega)]
end Go.Proofs.YtahagplegmcaaaaGreatDoor
namespace Go.Proofs.YtahagplegmcaaaaGreatDoor
open Go.RowKit Go.Xt
/-! For the law ModelKeys: a store of a whole configuration; models at first; Same among models. -/
theorem Chg.setsK (g : Nat) : ∀ (vs : List Value) (o : Nat) (w : World), Chg [g] w (w.setCells g o vs)
  | [], _, w => ⟨rfl, rfl, rfl, Nat.le_refl _, fun _ _ _ => rfl⟩
  | v :: r, o, w => (Chg.set1 w g o v).trans (Chg.setsK g r (o + 1) (w.setCell ⟨g, o, none⟩ v))
class ConfTo (w : World) (b : Nat) : Prop where
  to_ : w.there b 0 16
def storeConf (p v : Value) : Sem Unit := Instr.storeAt 27 p v
@[go_sem ↓] theorem storeConf_in (p v : Value) : Instr.storeAt 27 p v = storeConf p v := rfl
theorem ccells_one (c : Cf) : ∀ v ∈ ccells c, v.oneCell' = true := by
  intro v hv
  simp [ccells] at hv
  rcases hv with rfl | rfl | rfl | rfl | rfl | rfl | rfl | rfl | rfl | rfl | rfl | rfl | rfl | rfl | rfl | rfl <;> rfl
@[go_sem] theorem run_storeConf {w : World} {b : Nat} {a1 a2 a3 a4 a5 a6 : Int} {A : Option Addr} {n cc : Nat} {t1 t2 t3 t4 t5 t6 lk tr ba : Int} [h : ConfTo w b] : (storeConf (.pointer (some ⟨b, 0, none⟩)) (.agg #[.int .i64 a1, .int .i64 a2, .int .u8 a3, .int .i64 a4, .int .u8 a5, .int .i64 a6, .slice A n cc, .int .i64 t1, .int .i64 t2, .int .i64 t3, .int .i64 t4, .int .i64 t5, .int .i64 t6, .int .i64 lk, .int .i64 tr, .int .i64 ba])).run Tryz.prog w = .ok () (w.setCells b 0 (ccells ⟨a1, a2, a3, a4, a5, a6, A, n, cc, t1, t2, t3, t4, t5, t6, lk, tr, ba⟩)) := by
  have := run_storeAt_mid (P := Tryz.prog) w b 0 27 (ccells ⟨a1, a2, a3, a4, a5, a6, A, n, cc, t1, t2, t3, t4, t5, t6, lk, tr, ba⟩).toArray h.to_ (by exact sizeConf) (all_oneCell_toArray (ccells_one _))
  exact this
theorem ConfAt.to_ {w : World} {b : Nat} {c : Cf} (h : ConfAt w b c) (hz : ∀ o, w.frozen? ⟨b, o, none⟩ = false) : ConfTo w b := ⟨fun j hj => by
  rw [Nat.zero_add]
  have hl : (ccells c).length = 16 := rfl
  obtain ⟨v, hv⟩ : ∃ v, (ccells c)[j]? = some v := ⟨_, List.getElem?_eq_getElem (by omega)⟩
  exact ⟨by rw [h.at_ j v hv]; rfl, hz j⟩⟩
theorem ConfTo.put {w : World} {b : Nat} (h : ConfTo w b) (c : Cf) : ConfAt (w.setCells b 0 (ccells c)) b c := by
  have hr := World.rangeAt_setCells_same w b 0 (ccells c) h.to_
  refine ⟨fun i v hv => by have := hr i v hv; rwa [Nat.zero_add] at this, ?_⟩
  have h1 := hr 0 (.int .i64 c.thr) rfl
  exact World.block_lt_of_cell? _ _ h1
theorem ConfTo.nw {w w' : World} {b : Nat} (h : ConfTo w b) (hn : Nw w w') : ConfTo w' b := ⟨fun j hj => by
  obtain ⟨u, hu⟩ := Option.isSome_iff_exists.1 (h.to_ j hj).1
  exact ⟨by rw [cell_nw hu hn]; rfl, (frozen_nw (World.block_lt_of_cell? _ _ hu) hn).trans (h.to_ j hj).2⟩⟩
theorem conf_new (w : World) (c : Cf) : ConfAt (w.alloc (cellsOf c 27)) w.heap.size c := ⟨fun i v hv => by unfold cellsOf; unfold ccells at hv; rw [World.cell?_alloc_new]; simpa using hv, by simp⟩
theorem boxes3 {w W1 : World} {c d : Cf} {o : Obj} (h : W1 = ((w.alloc (cellsOf c 27)).alloc (cellsOf d 27)).alloc o) : ConfAt W1 w.heap.size c ∧ ConfAt W1 (w.heap.size + 1) d ∧ ConfTo W1 (w.heap.size + 1) ∧ W1.heap[w.heap.size + 1 + 1]? = some o := by
  subst h
  have z1 : (w.alloc (cellsOf c 27)).heap.size = w.heap.size + 1 := by simp
  have z2 : ((w.alloc (cellsOf c 27)).alloc (cellsOf d 27)).heap.size = w.heap.size + 1 + 1 := by simp
  have h1 := conf_new (w.alloc (cellsOf c 27)) d
  rw [z1] at h1
  have h2 : ConfTo ((w.alloc (cellsOf c 27)).alloc (cellsOf d 27)) (w.heap.size + 1) := h1.to_ (fun o => by
    have h3 := heap_alloc_new (w.alloc (cellsOf c 27)) (cellsOf d 27)
    rw [z1] at h3
    exact Lib.frozen_of_heap h3 o)
  have hn : Nw ((w.alloc (cellsOf c 27)).alloc (cellsOf d 27)) (((w.alloc (cellsOf c 27)).alloc (cellsOf d 27)).alloc o) := (Nw.refl _).alloc _
  refine ⟨((conf_new w c).nw ((Nw.refl _).alloc _)).nw hn, h1.nw hn, h2.nw hn, ?_⟩
  have h4 := heap_alloc_new ((w.alloc (cellsOf c 27)).alloc (cellsOf d 27)) o
  rwa [z2] at h4
theorem ConfAt.chg {w w' : World} {b : Nat} {c : Cf} {X : List Nat} (h : ConfAt w b c) (hc : Chg X w w') (hb : b ∉ X) : ConfAt w' b c := ⟨fun i v hv => hc.cell (h.at_ i v hv) hb, Nat.lt_of_lt_of_le h.lt hc.size⟩
theorem cf_sl {c : Cf} {cuts : List Nat} (h : chkC c cuts = 0) : 0 ≤ c.sl ∧ c.sl < 9223372036854775808 := by
  have hb : cfgB c cuts = true := by
    cases hb : cfgB c cuts with
    | true => rfl
    | false => unfold chkC at h; rw [if_neg (by simp [hb])] at h; cases h
  have := (cfgB_iff.1 hb).2.2.1
  omega
theorem md0_ok (sl : Int) (n : Nat) (hn : n ≤ 1000) : Md.Ok ⟨sl, [], List.replicate n Th0⟩ 0 := ⟨Nat.le_refl _, List.Pairwise.nil, fun _ h => (by cases h), (by simp; omega), fun x hx => (by rw [List.eq_of_mem_replicate hx]; exact ⟨fun h => (by cases h), fun h => (by cases h), fun h => (by cases h)⟩)⟩
theorem md0_nums {sl : Int} (h : 0 ≤ sl ∧ sl < 9223372036854775808) (n : Nat) : Md.Nums ⟨sl, [], List.replicate n Th0⟩ := ⟨h, fun x hx => by rw [List.eq_of_mem_replicate hx]; exact Th.U.fin (x := Th0)⟩
theorem str_beqK (t s : ByteArray) : (t.toList == s.toList) = decide (t = s) := by
  rw [ByteArray.toList_eq, ByteArray.toList_eq]
  rw [Bool.eq_iff_iff, beq_iff_eq, decide_eq_true_iff]
  constructor
  · intro h
    cases t; cases s
    simp only at h
    rw [Array.toList_inj] at h
    rw [h]
  · rintro rfl; rfl
section
variable {w W W' : World} {es : List En}
theorem Lg.addM (h : Lg w es W) (hn : Nw W W') {p : Pl} {sl : Int} {n : Nat} (hm : MAt W' p ⟨sl, [], List.replicate n Th0⟩) (hf : ∀ g ∈ p.foot, W.heap.size ≤ g) (hsl : 0 ≤ sl ∧ sl < 9223372036854775808) (h1 : 1 ≤ n ∧ n ≤ 64) : Lg w (es ++ [⟨p.gm, none, ⟨sl, [], List.replicate n Th0⟩, 0⟩]) W' :=
  h.add (e := ⟨p.gm, none, ⟨sl, [], List.replicate n Th0⟩, 0⟩) hn rfl hm hf (md0_ok sl n (by omega)) (md0_nums hsl n) (by show 0 < (List.replicate n Th0).length; simp; omega)
theorem Lg.addR (h : Lg w es W) (hn : Nw W W') {p : Pl} {c : Cf} {sl : Int} {n : Nat} (hm : RAt W' p c ⟨sl, [], List.replicate n Th0⟩) (hf : ∀ g ∈ p.foot, W.heap.size ≤ g) (hsl : 0 ≤ sl ∧ sl < 9223372036854775808) (h1 : 1 ≤ n ∧ n ≤ 64) : Lg w (es ++ [⟨p.gm, some c, ⟨sl, [], List.replicate n Th0⟩, 0⟩]) W' :=
  h.add (e := ⟨p.gm, some c, ⟨sl, [], List.replicate n Th0⟩, 0⟩) hn rfl hm hf (md0_ok sl n (by omega)) (md0_nums hsl n) (by show 0 < (List.replicate n Th0).length; simp; omega)
def RSame2 (w : World) (b : Bool) (e : Ending) (w' : World) : Prop := e = .returned (.bool b) ∧ Nw w w'
/-- Same of the reference says what the keys say. -/
theorem rsame_Lg (h : Lg w es W) {i j gr gs N M : Nat} {c d : Cf} {s r : Md} (hi : es[i]? = some ⟨gr, some c, s, N⟩) (hj : es[j]? = some ⟨gs, some d, r, M⟩) (hN : N ≤ 300000) (hM : M ≤ 300000) :
    Calls Tryz.prog 12 #[.pointer (some ⟨gr, 0, none⟩), .pointer (some ⟨gs, 0, none⟩)] W (RSame2 W (decide ((⟨(keyB s).toArray⟩ : ByteArray) = ⟨(keyB r).toArray⟩))) := by
  obtain ⟨p, hg, h1, h2, h3, h4, h5⟩ := h.at hi
  obtain ⟨q, hq, g1, g2, g3, g4, g5⟩ := h.at hj
  have hg : p.gm = gr := hg
  have hq : q.gm = gs := hq
  subst hg hq
  refine (rsame_M W p q c d s r h1 g1 (by have := h2.len; have h9 : s.l.length ≤ N := this; omega) (by have := g2.len; have h9 : r.l.length ≤ M := this; omega) h2.thn g2.thn).mono ?_
  rintro e W' ⟨b, rfl, hb, hn⟩
  refine ⟨?_, hn⟩
  have : b = decide ((⟨(keyB s).toArray⟩ : ByteArray) = ⟨(keyB r).toArray⟩) := by
    rw [Bool.eq_iff_iff, hb, decide_eq_true_iff]
    constructor
    · rintro ⟨q1, q2, q3⟩
      have : s = r := by cases s; cases r; simp only at q1 q2 q3; subst q1 q2 q3; rfl
      rw [this]
    · intro hk
      injection hk with hk
      have hk : keyB s = keyB r := by simpa using congrArg Array.toList hk
      obtain ⟨q1, q2, q3⟩ := keyB_inj h3 g3 h2.u64 g2.u64 hk
      exact ⟨q3, q2, q1⟩
  rw [this]
end
end Go.Proofs.YtahagplegmcaaaaGreatDoor
namespace Go.Proofs.YtahagplegmcaaaaGreatDoor
open Go.RowKit Go.Xt
/-! The law ModelKeys. -/
set_option maxRecDepth 20000 in
set_option maxHeartbeats 8000000 in
theorem keys_ff (c d : Cf) (A B : Option Addr) (n m ca cb : Nat) (sm : Bool) (w : World) (h1 : (decide (n ≤ 80) && decide (c.cn ≤ 70)) = false) (h2 : (decide (m ≤ 80) && decide (d.cn ≤ 70)) = false) :
    Calls Tryz.prog 3 #[confV c, confV d, .agg #[.slice A n ca, .slice B m cb, .bool sm]] w fun e w' => e = .returned (.bool true) ∧ Nw w w' := by
  have HS1 := Lib.hid (fun W => short_any c A n ca W)
  have HS2 := Lib.hid (fun W => short_any d B m cb W)
  rw [h1] at HS1
  rw [h2] at HS2
  have HKN := Lib.hid (fun W => known_M W)
  unfold confV at HS1 HS2 ⊢
  obtain ⟨q, hq⟩ : ∃ q, q = w.heap.size := ⟨_, rfl⟩
  obtain ⟨W1, hW1⟩ : ∃ W, W = ((w.alloc (cellsOf c 27)).alloc (cellsOf d 27)).alloc (.cells #[.slice A n ca, .slice B m cb, .bool sm] 30) := ⟨_, rfl⟩
  have hn1 : Nw w W1 := by rw [hW1]; exact (((Nw.refl w).alloc _).alloc _).alloc _
  obtain ⟨k1, k2, k3, k4⟩ := boxes3 hW1
  rw [← hq] at k1 k2 k3 k4
  have HK1 := Lib.hid (fun W (hW : Nw W1 W) => (⟨k1.nw hW, k2.nw hW, cell_nw (by rw [Lib.cell_of_heap k4]; rfl) hW, cell_nw (by rw [Lib.cell_of_heap k4]; rfl) hW, cell_nw (by rw [Lib.cell_of_heap k4]; rfl) hW, k3.nw hW⟩ : ConfAt W q c ∧ ConfAt W (q + 1) d ∧ W.cell? ⟨q + 1 + 1, 0, none⟩ = some (.slice A n ca) ∧ W.cell? ⟨q + 1 + 1, 1, none⟩ = some (.slice B m cb) ∧ W.cell? ⟨q + 1 + 1, 2, none⟩ = some (.bool sm) ∧ ConfTo W (q + 1)))
  unfold cellsOf at hW1
  have HW1 := Lib.hid hW1
  have HQ := Lib.hid hq
  have HN1 := Lib.hid hn1
  obtain ⟨i1, i2, i3, i4, i5, -⟩ := HK1.out W1 (Nw.refl _)
  haveI := i1
  haveI := i2
  haveI : In q W1 := ⟨i1.lt⟩
  haveI : In (q + 1) W1 := ⟨i2.lt⟩
  haveI : In (q + 1 + 1) W1 := ⟨World.block_lt_of_cell? _ _ i3⟩
  clear k1 k2 k3 k4 hq hW1 hn1 h1 h2
  go_enter Tryz.func3, Tryz.ntmps3
  go_upto_region 1 with (fail)
  rw [← HW1.out, ← HQ.out]
  go_wp2_with fail
  refine (HS1.out _).mono ?_
  rintro e Wa ⟨rfl, hna⟩
  clear i1 i2 i3 i4 i5
  obtain ⟨i1, i2, i3, i4, i5, i6⟩ := HK1.out Wa (hna)
  haveI := i1
  haveI := i2
  haveI : In q Wa := ⟨i1.lt⟩
  haveI : In (q + 1) Wa := ⟨i2.lt⟩
  haveI : In (q + 1 + 1) Wa := ⟨World.block_lt_of_cell? _ _ i3⟩
  clear HK1
  have HZ := Lib.hid hna
  clear hna
  go_wp2_with (go_at_call 5; refine (HKN.out _).mono ?_; rintro e w' ⟨rfl, dW, rfl⟩)
  go_ret
  exact ⟨rfl, HN1.out.trans (HZ.out.trans ((by repeat (first | exact Xt.Nw.refl _ | refine Xt.Nw.drew ?_ | refine Xt.Nw.drewN ?_ _ | refine Xt.Nw.alloc ?_ _ | refine Xt.Nw.joined ?_ | refine Xt.Nw.drewd ?_ | refine Xt.Nw.drewdN ?_ | refine Xt.Nw.ext ?_ | refine Xt.Nw.ext_some ?_ (by assumption) | refine Xt.Nw.setCell ?_ (by simp [go_sem] <;> omega) _))))⟩
set_option maxRecDepth 20000 in
set_option maxHeartbeats 8000000 in
theorem keys_ft (c d : Cf) (A B : Option Addr) (n m ca cb : Nat) (sm : Bool) (w : World) (h1 : (decide (n ≤ 80) && decide (c.cn ≤ 70)) = false) (h2 : (decide (m ≤ 80) && decide (d.cn ≤ 70)) = true) :
    Calls Tryz.prog 3 #[confV c, confV d, .agg #[.slice A n ca, .slice B m cb, .bool sm]] w fun e w' => e = .returned (.bool true) ∧ Nw w w' := by
  have HS1 := Lib.hid (fun W => short_any c A n ca W)
  have HS2 := Lib.hid (fun W => short_any d B m cb W)
  rw [h1] at HS1
  rw [h2] at HS2
  have HKN := Lib.hid (fun W => known_M W)
  unfold confV at HS1 HS2 ⊢
  obtain ⟨q, hq⟩ : ∃ q, q = w.heap.size := ⟨_, rfl⟩
  obtain ⟨W1, hW1⟩ : ∃ W, W = ((w.alloc (cellsOf c 27)).alloc (cellsOf d 27)).alloc (.cells #[.slice A n ca, .slice B m cb, .bool sm] 30) := ⟨_, rfl⟩
  have hn1 : Nw w W1 := by rw [hW1]; exact (((Nw.refl w).alloc _).alloc _).alloc _
  obtain ⟨k1, k2, k3, k4⟩ := boxes3 hW1
  rw [← hq] at k1 k2 k3 k4
  have HK1 := Lib.hid (fun W (hW : Nw W1 W) => (⟨k1.nw hW, k2.nw hW, cell_nw (by rw [Lib.cell_of_heap k4]; rfl) hW, cell_nw (by rw [Lib.cell_of_heap k4]; rfl) hW, cell_nw (by rw [Lib.cell_of_heap k4]; rfl) hW, k3.nw hW⟩ : ConfAt W q c ∧ ConfAt W (q + 1) d ∧ W.cell? ⟨q + 1 + 1, 0, none⟩ = some (.slice A n ca) ∧ W.cell? ⟨q + 1 + 1, 1, none⟩ = some (.slice B m cb) ∧ W.cell? ⟨q + 1 + 1, 2, none⟩ = some (.bool sm) ∧ ConfTo W (q + 1)))
  unfold cellsOf at hW1
  have HW1 := Lib.hid hW1
  have HQ := Lib.hid hq
  have HN1 := Lib.hid hn1
  obtain ⟨i1, i2, i3, i4, i5, -⟩ := HK1.out W1 (Nw.refl _)
  haveI := i1
  haveI := i2
  haveI : In q W1 := ⟨i1.lt⟩
  haveI : In (q + 1) W1 := ⟨i2.lt⟩
  haveI : In (q + 1 + 1) W1 := ⟨World.block_lt_of_cell? _ _ i3⟩
  clear k1 k2 k3 k4 hq hW1 hn1 h1 h2
  go_enter Tryz.func3, Tryz.ntmps3
  go_upto_region 1 with (fail)
  rw [← HW1.out, ← HQ.out]
  go_wp2_with fail
  refine (HS1.out _).mono ?_
  rintro e Wa ⟨rfl, hna⟩
  clear i1 i2 i3 i4 i5
  obtain ⟨i1, i2, i3, i4, i5, i6⟩ := HK1.out Wa (hna)
  haveI := i1
  haveI := i2
  haveI : In q Wa := ⟨i1.lt⟩
  haveI : In (q + 1) Wa := ⟨i2.lt⟩
  haveI : In (q + 1 + 1) Wa := ⟨World.block_lt_of_cell? _ _ i3⟩
  clear HK1
  have HZ := Lib.hid hna
  clear hna
  go_wp2_with (go_at_call 5; refine (HKN.out _).mono ?_; rintro e w' ⟨rfl, dW, rfl⟩)
  go_ret
  exact ⟨rfl, HN1.out.trans (HZ.out.trans ((by repeat (first | exact Xt.Nw.refl _ | refine Xt.Nw.drew ?_ | refine Xt.Nw.drewN ?_ _ | refine Xt.Nw.alloc ?_ _ | refine Xt.Nw.joined ?_ | refine Xt.Nw.drewd ?_ | refine Xt.Nw.drewdN ?_ | refine Xt.Nw.ext ?_ | refine Xt.Nw.ext_some ?_ (by assumption) | refine Xt.Nw.setCell ?_ (by simp [go_sem] <;> omega) _))))⟩
set_option maxRecDepth 20000 in
set_option maxHeartbeats 8000000 in
theorem keys_tf (c d : Cf) (A B : Option Addr) (n m ca cb : Nat) (sm : Bool) (w : World) (h1 : (decide (n ≤ 80) && decide (c.cn ≤ 70)) = true) (h2 : (decide (m ≤ 80) && decide (d.cn ≤ 70)) = false) :
    Calls Tryz.prog 3 #[confV c, confV d, .agg #[.slice A n ca, .slice B m cb, .bool sm]] w fun e w' => e = .returned (.bool true) ∧ Nw w w' := by
  have HS1 := Lib.hid (fun W => short_any c A n ca W)
  have HS2 := Lib.hid (fun W => short_any d B m cb W)
  rw [h1] at HS1
  rw [h2] at HS2
  have HKN := Lib.hid (fun W => known_M W)
  unfold confV at HS1 HS2 ⊢
  obtain ⟨q, hq⟩ : ∃ q, q = w.heap.size := ⟨_, rfl⟩
  obtain ⟨W1, hW1⟩ : ∃ W, W = ((w.alloc (cellsOf c 27)).alloc (cellsOf d 27)).alloc (.cells #[.slice A n ca, .slice B m cb, .bool sm] 30) := ⟨_, rfl⟩
  have hn1 : Nw w W1 := by rw [hW1]; exact (((Nw.refl w).alloc _).alloc _).alloc _
  obtain ⟨k1, k2, k3, k4⟩ := boxes3 hW1
  rw [← hq] at k1 k2 k3 k4
  have HK1 := Lib.hid (fun W (hW : Nw W1 W) => (⟨k1.nw hW, k2.nw hW, cell_nw (by rw [Lib.cell_of_heap k4]; rfl) hW, cell_nw (by rw [Lib.cell_of_heap k4]; rfl) hW, cell_nw (by rw [Lib.cell_of_heap k4]; rfl) hW, k3.nw hW⟩ : ConfAt W q c ∧ ConfAt W (q + 1) d ∧ W.cell? ⟨q + 1 + 1, 0, none⟩ = some (.slice A n ca) ∧ W.cell? ⟨q + 1 + 1, 1, none⟩ = some (.slice B m cb) ∧ W.cell? ⟨q + 1 + 1, 2, none⟩ = some (.bool sm) ∧ ConfTo W (q + 1)))
  unfold cellsOf at hW1
  have HW1 := Lib.hid hW1
  have HQ := Lib.hid hq
  have HN1 := Lib.hid hn1
  obtain ⟨i1, i2, i3, i4, i5, -⟩ := HK1.out W1 (Nw.refl _)
  haveI := i1
  haveI := i2
  haveI : In q W1 := ⟨i1.lt⟩
  haveI : In (q + 1) W1 := ⟨i2.lt⟩
  haveI : In (q + 1 + 1) W1 := ⟨World.block_lt_of_cell? _ _ i3⟩
  clear k1 k2 k3 k4 hq hW1 hn1 h1 h2
  go_enter Tryz.func3, Tryz.ntmps3
  go_upto_region 1 with (fail)
  rw [← HW1.out, ← HQ.out]
  go_wp2_with fail
  refine (HS1.out _).mono ?_
  rintro e Wa ⟨rfl, hna⟩
  clear i1 i2 i3 i4 i5
  obtain ⟨i1, i2, i3, i4, i5, i6⟩ := HK1.out Wa (hna)
  haveI := i1
  haveI := i2
  haveI : In q Wa := ⟨i1.lt⟩
  haveI : In (q + 1) Wa := ⟨i2.lt⟩
  haveI : In (q + 1 + 1) Wa := ⟨World.block_lt_of_cell? _ _ i3⟩
  go_wp2_with fail
  refine (HS2.out _).mono ?_
  rintro e Wb ⟨rfl, hnb⟩
  have hnb := hna.trans hnb
  clear i1 i2 i3 i4 i5 i6
  obtain ⟨i1, i2, i3, i4, i5, i6⟩ := HK1.out Wb (hnb)
  haveI := i1
  haveI := i2
  haveI : In q Wb := ⟨i1.lt⟩
  haveI : In (q + 1) Wb := ⟨i2.lt⟩
  haveI : In (q + 1 + 1) Wb := ⟨World.block_lt_of_cell? _ _ i3⟩
  haveI := i6
  clear HK1
  have HZ := Lib.hid hnb
  clear hnb
  go_wp2_with (go_at_call 5; refine (HKN.out _).mono ?_; rintro e w' ⟨rfl, dW, rfl⟩)
  go_ret
  exact ⟨rfl, HN1.out.trans (HZ.out.trans ((by repeat (first | exact Xt.Nw.refl _ | refine Xt.Nw.drew ?_ | refine Xt.Nw.drewN ?_ _ | refine Xt.Nw.alloc ?_ _ | refine Xt.Nw.joined ?_ | refine Xt.Nw.drewd ?_ | refine Xt.Nw.drewdN ?_ | refine Xt.Nw.ext ?_ | refine Xt.Nw.ext_some ?_ (by assumption) | refine Xt.Nw.setCell ?_ (by simp [go_sem] <;> omega) _))))⟩
end Go.Proofs.YtahagplegmcaaaaGreatDoor
