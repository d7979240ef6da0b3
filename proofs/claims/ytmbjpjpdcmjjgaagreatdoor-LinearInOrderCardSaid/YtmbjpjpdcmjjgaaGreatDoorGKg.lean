import Derived.Test.YtmbjpjpdcmjjgaaGreatDoorGKg0
import Derived.Test.YtmbjpjpdcmjjgaaGreatDoorGY
set_option linter.unusedVariables false
set_option linter.unusedSimpArgs false
set_option linter.unnecessarySimpa false
namespace Go.Proofs.YtmbjpjpdcmjjgaaGreatDoor
open Go.RowKit Go.Xt
/-! begin. -/
theorem chk_two (c : Cf) (cuts : List Nat) : chkC c cuts = 0 ∨ chkC c cuts = 2 := by unfold chkC; split <;> simp
theorem cf_thr {c : Cf} {cuts : List Nat} (h : chkC c cuts = 0) : 1 ≤ c.thr ∧ c.thr ≤ 64 := by
  have hb : cfgB c cuts = true := by
    cases hb : cfgB c cuts with
    | true => rfl
    | false => unfold chkC at h; rw [if_neg (by simp [hb])] at h; cases h
  exact (cfgB_iff.1 hb).2.1
theorem cf_sl {c : Cf} {cuts : List Nat} (h : chkC c cuts = 0) : 0 ≤ c.sl ∧ c.sl < 9223372036854775808 := by
  have hb : cfgB c cuts = true := by
    cases hb : cfgB c cuts with
    | true => rfl
    | false => unfold chkC at h; rw [if_neg (by simp [hb])] at h; cases h
  have := (cfgB_iff.1 hb).2.2.1
  omega
theorem check_anyH (A : Option Addr) (n c : Nat) (l : List Cl) (w : World) (hn : n ≤ 1000) (hc : n ≤ c) (hcm : c ≤ 9223372036854775807) (hl : Cs w A n l) (hw : ∀ y ∈ l, WfC y) :
    Calls Tryz.prog 33 #[.slice A n c] w fun e w' => e = .returned (chkV l) ∧ Nw w w' := hcheck_any A n c l w hn hc hcm hl hw
def begE (c : Cf) (cuts : List Nat) (l : List Cl) : Int := if chkC c cuts ≠ 0 then 2 else if bad l ≠ none then 15 else if 10 < l.length then 5 else 0
structure BegS (w W : World) (l : List Cl) (A : Option Addr) (n cap : Nat) (st : Md) (sb vb : Nat) (B : Option Addr) (cb : Nat) (p : Pl) : Prop where
  nw : Nw w W
  s0 : W.cell? ⟨sb, 0, none⟩ = some (.slice A n cap)
  s1 : W.cell? ⟨sb, 1, none⟩ = some (.pointer (some ⟨p.gm, 0, none⟩))
  s2 : W.cell? ⟨sb, 2, none⟩ = some (.slice B n cb)
  s3 : W.cell? ⟨sb, 3, none⟩ = some (.int .i64 (mu l : Nat))
  s4 : W.cell? ⟨sb, 4, none⟩ = some (.map (some vb))
  row : Is W B n ((List.range n).map fun i => (bm l i : Int))
  vain : VainAt l W vb 0
  ms : MS W p st 0
  ft : ∀ g ∈ p.foot, w.heap.size ≤ g
  fv : ∀ g ∈ p.foot, g ≠ vb
  sw : w.heap.size ≤ sb
  vw : w.heap.size ≤ vb
  bw : ∀ b o, B = some ⟨b, o, none⟩ → w.heap.size ≤ b ∧ b ≠ vb ∧ b < W.heap.size
def BegP (w : World) (l : List Cl) (A : Option Addr) (n cap : Nat) (st : Md) (e : Ending) (w' : World) : Prop := ∃ sb vb B cb p, e = .returned (.tuple #[.pointer (some ⟨sb, 0, none⟩), .int .i64 0]) ∧ BegS w w' l A n cap st sb vb B cb p

set_option maxRecDepth 20000 in
set_option maxHeartbeats 8000000 in
theorem begin_bad (c : Cf) (cuts : List Nat) (A : Option Addr) (n cap : Nat) (l : List Cl) (w : World) (h : Rd w 1 c.cA cuts.length (nums cuts)) (hcn : c.cn = cuts.length) (hcr : 0 ≤ c.eng ∧ c.eng < 256) (hn : n ≤ 1000) (hnc : n ≤ cap) (hcap : cap ≤ 9223372036854775807) (hl : Cs w A n l) (hw : ∀ y ∈ l, WfC y) (hno : chkC c cuts = 2) :
    Calls Tryz.prog 16 #[confV c, .slice A n cap] w fun e w' => e = .returned (.tuple #[.pointer none, .int .i64 2]) ∧ Nw w w' := by
  have HM := Lib.hid (fun W (hq : Nw w W) => new_no c cuts W (h.nw hq) hcn hcr hno)
  have HCK := Lib.hid (fun W (hq : Nw w W) => check_anyH A n cap l W hn hnc hcap (hl.nw hq) hw)
  have HL := Lib.hid hl
  unfold confV at HM ⊢
  haveI hca : ConfAt (w.alloc (cellsOf c 27)) w.heap.size c := ⟨fun i v hv => by unfold cellsOf; unfold ccells at hv; rw [World.cell?_alloc_new]; simpa using hv, by simp⟩
  obtain ⟨W1, hW1⟩ : ∃ W, W = w.alloc (cellsOf c 27) := ⟨_, rfl⟩
  rw [← hW1] at hca
  have hn1 : Nw w W1 := by rw [hW1]; exact nwa
  unfold cellsOf at hW1
  have HW1 := Lib.hid hW1
  have HN1 := Lib.hid hn1
  haveI : In w.heap.size W1 := ⟨hca.lt⟩
  clear hW1 hn1 h hcn hcr hn hnc hcap hl hw hno
  go_enter Tryz.func16, Tryz.ntmps16
  go_upto_region 1 with (fail)
  rw [← HW1.out]
  go_wp2_with (go_at_call 32; refine (HM.out _ (HN1.out.trans (nwa))).mono ?_; rintro e w' ⟨rfl, dW, rfl⟩)
  exact bodyPost_ret (results_tmp2 rfl _ _ _) rfl ⟨rfl, HN1.out.trans nwa⟩
set_option maxRecDepth 20000 in
set_option maxHeartbeats 8000000 in
theorem begin_hist (c : Cf) (cuts : List Nat) (A : Option Addr) (n cap : Nat) (l : List Cl) (w : World) (h : Rd w 1 c.cA cuts.length (nums cuts)) (hcn : c.cn = cuts.length) (hcr : 0 ≤ c.eng ∧ c.eng < 256) (hn : n ≤ 1000) (hnc : n ≤ cap) (hcap : cap ≤ 9223372036854775807) (hl : Cs w A n l) (hw : ∀ y ∈ l, WfC y) (hyes : chkC c cuts = 0) (hb : bad l ≠ none) :
    Calls Tryz.prog 16 #[confV c, .slice A n cap] w fun e w' => e = .returned (.tuple #[.pointer none, .int .i64 15]) ∧ Nw w w' := by
  obtain ⟨i, hbi, hvi⟩ : ∃ i : Nat, bad l = some i ∧ chkV l = .tuple #[.int .i64 (i : Int), .int .i64 15] := by
    rcases chk_cases l with ⟨h1, h2⟩ | ⟨i, h1, h2⟩
    · exact absurd h1 hb
    · exact ⟨i, h1, h2⟩
  obtain ⟨th1, th2⟩ := cf_thr hyes
  obtain ⟨nt, hnt⟩ : ∃ nt : Nat, c.thr = nt := ⟨c.thr.toNat, by omega⟩
  have HM := Lib.hid (fun W (hq : Nw w W) => new_yes c cuts nt W (h.nw hq) hcn hcr hyes hnt (by omega))
  have HCK := Lib.hid (fun W (hq : Nw w W) => check_anyH A n cap l W hn hnc hcap (hl.nw hq) hw)
  have HL := Lib.hid hl
  unfold confV at HM ⊢
  haveI hca : ConfAt (w.alloc (cellsOf c 27)) w.heap.size c := ⟨fun i v hv => by unfold cellsOf; unfold ccells at hv; rw [World.cell?_alloc_new]; simpa using hv, by simp⟩
  obtain ⟨W1, hW1⟩ : ∃ W, W = w.alloc (cellsOf c 27) := ⟨_, rfl⟩
  rw [← hW1] at hca
  have hn1 : Nw w W1 := by rw [hW1]; exact nwa
  unfold cellsOf at hW1
  have HW1 := Lib.hid hW1
  have HN1 := Lib.hid hn1
  haveI : In w.heap.size W1 := ⟨hca.lt⟩
  rw [hvi] at HCK
  clear hW1 hn1 h hcn hcr hn hnc hcap hl hw hyes hb hnt th1 th2 hvi hbi
  go_enter Tryz.func16, Tryz.ntmps16
  go_upto_region 1 with (fail)
  rw [← HW1.out]
  go_wp2_with fail
  refine (HM.out W1 HN1.out).mono ?_
  rintro e W2 ⟨P0, rfl, -, -, hn2⟩
  haveI := hca.nw hn2
  haveI : In w.heap.size W2 := ⟨(hca.nw hn2).lt⟩
  go_wp2_with fail
  refine (HCK.out W2 (HN1.out.trans hn2)).mono ?_
  rintro e W3 ⟨rfl, hn3⟩
  have HN3 := Lib.hid ((HN1.out.trans hn2).trans hn3)
  clear hn2 hn3
  go_wp2
  exact bodyPost_ret (results_tmp2 rfl _ _ _) rfl ⟨rfl, HN3.out.trans (nwa)⟩
set_option maxRecDepth 20000 in
set_option maxHeartbeats 8000000 in
theorem begin_long (c : Cf) (cuts : List Nat) (A : Option Addr) (n cap : Nat) (l : List Cl) (w : World) (h : Rd w 1 c.cA cuts.length (nums cuts)) (hcn : c.cn = cuts.length) (hcr : 0 ≤ c.eng ∧ c.eng < 256) (hn : n ≤ 1000) (hnc : n ≤ cap) (hcap : cap ≤ 9223372036854775807) (hl : Cs w A n l) (hw : ∀ y ∈ l, WfC y) (hyes : chkC c cuts = 0) (hb : bad l = none) (h10 : 10 < n) :
    Calls Tryz.prog 16 #[confV c, .slice A n cap] w fun e w' => e = .returned (.tuple #[.pointer none, .int .i64 5]) ∧ Nw w w' := by
  have hvi : chkV l = .tuple #[.int .i64 0, .int .i64 0] := by
    rcases chk_cases l with ⟨h1, h2⟩ | ⟨i, h1, h2⟩
    · exact h2
    · rw [hb] at h1; cases h1
  have h11 : (10 : Int) < (n : Int) := by omega
  obtain ⟨th1, th2⟩ := cf_thr hyes
  obtain ⟨nt, hnt⟩ : ∃ nt : Nat, c.thr = nt := ⟨c.thr.toNat, by omega⟩
  have HM := Lib.hid (fun W (hq : Nw w W) => new_yes c cuts nt W (h.nw hq) hcn hcr hyes hnt (by omega))
  have HCK := Lib.hid (fun W (hq : Nw w W) => check_anyH A n cap l W hn hnc hcap (hl.nw hq) hw)
  have HL := Lib.hid hl
  unfold confV at HM ⊢
  haveI hca : ConfAt (w.alloc (cellsOf c 27)) w.heap.size c := ⟨fun i v hv => by unfold cellsOf; unfold ccells at hv; rw [World.cell?_alloc_new]; simpa using hv, by simp⟩
  obtain ⟨W1, hW1⟩ : ∃ W, W = w.alloc (cellsOf c 27) := ⟨_, rfl⟩
  rw [← hW1] at hca
  have hn1 : Nw w W1 := by rw [hW1]; exact nwa
  unfold cellsOf at hW1
  have HW1 := Lib.hid hW1
  have HN1 := Lib.hid hn1
  haveI : In w.heap.size W1 := ⟨hca.lt⟩
  rw [hvi] at HCK
  clear hW1 hn1 h hcn hcr hn hnc hcap hl hw hyes hb hnt th1 th2 hvi h10
  go_enter Tryz.func16, Tryz.ntmps16
  go_upto_region 1 with (fail)
  rw [← HW1.out]
  go_wp2_with fail
  refine (HM.out W1 HN1.out).mono ?_
  rintro e W2 ⟨P0, rfl, -, -, hn2⟩
  haveI := hca.nw hn2
  haveI : In w.heap.size W2 := ⟨(hca.nw hn2).lt⟩
  go_wp2_with fail
  refine (HCK.out W2 (HN1.out.trans hn2)).mono ?_
  rintro e W3 ⟨rfl, hn3⟩
  have HN3 := Lib.hid ((HN1.out.trans hn2).trans hn3)
  clear hn2 hn3
  go_wp2
  exact bodyPost_ret (results_tmp2 rfl _ _ _) rfl ⟨rfl, HN3.out.trans (nwa)⟩
structure BegI (w W3 wr : World) (l : List Cl) (A : Option Addr) (n cap : Nat) (sb vb gm i m : Nat) (v : Value) : Prop where
  s0 : wr.cell? ⟨sb, 0, none⟩ = some (.slice A n cap)
  s1 : wr.cell? ⟨sb, 1, none⟩ = some (.pointer (some ⟨gm, 0, none⟩))
  s2 : wr.cell? ⟨sb, 2, none⟩ = some v
  s3 : wr.cell? ⟨sb, 3, none⟩ = some (.int .i64 (m : Nat))
  s4 : wr.cell? ⟨sb, 4, none⟩ = some (.map (some vb))
  z : ∀ o, wr.frozen? ⟨sb, o, none⟩ = false
  own : OwnI wr W3.heap.size v ((List.range i).map fun i => (bm l i : Int))
  chg : Chg [sb] W3 wr
  sw3 : sb < W3.heap.size
theorem BegI.nw {w W3 wr wr' : World} {l : List Cl} {A : Option Addr} {n cap sb vb gm i m : Nat} {v : Value} (h : BegI w W3 wr l A n cap sb vb gm i m v) (hn : Nw wr wr') : BegI w W3 wr' l A n cap sb vb gm i m v :=
  ⟨cell_nw h.s0 hn, cell_nw h.s1 hn, cell_nw h.s2 hn, cell_nw h.s3 hn, cell_nw h.s4 hn, fun o => (frozen_nw (World.block_lt_of_cell? wr _ h.s0) hn).trans (h.z o), OwnI.chg h.own (Chg.of_nw hn : Chg [] _ _) (by simp), h.chg.trans (Chg.of_nw hn), h.sw3⟩
theorem BegI.must {w W3 wr : World} {l : List Cl} {A : Option Addr} {n cap sb vb gm i m : Nat} {v : Value} (h : BegI w W3 wr l A n cap sb vb gm i m v) (m' : Nat) : BegI w W3 (wr.setCell ⟨sb, 3, none⟩ (.int .i64 (m' : Int))) l A n cap sb vb gm i m' v := by
  have hown : ∀ g, v.ownBlock = some g → g ∉ [sb] := fun g hg => by
    have h1 := (h.own.lt g hg).1
    have h2 := World.block_lt_of_cell? wr _ h.s0
    simp
    rintro rfl
    have h3 := h.sw3
    omega
  refine ⟨?_, ?_, ?_, ?_, ?_, fun o => ?_, OwnI.chg h.own (Chg.set1 wr sb 3 _) hown, h.chg.trans (Chg.set1 wr sb 3 _), h.sw3⟩
  · rw [World.cell?_setCell_other _ _ _ _ (by simp)]; exact h.s0
  · rw [World.cell?_setCell_other _ _ _ _ (by simp)]; exact h.s1
  · rw [World.cell?_setCell_other _ _ _ _ (by simp)]; exact h.s2
  · exact World.cell?_setCell_same' _ _ _ (by rw [h.s3]; rfl)
  · rw [World.cell?_setCell_other _ _ _ _ (by simp)]; exact h.s4
  · rw [World.frozen?_setCell]; exact h.z o
theorem BegI.next {w W3 wr wA : World} {l : List Cl} {A : Option Addr} {n cap sb vb gm i m : Nat} {v v2 : Value} (h : BegI w W3 wr l A n cap sb vb gm i m v) (hc : Chg v.ownBlock.toList wr wA) (ho : OwnI wA W3.heap.size v2 ((List.range (i + 1)).map fun i => (bm l i : Int))) (hs : sb ∉ v.ownBlock.toList) (hd : ∀ g, v2.ownBlock = some g → g ≠ sb) :
    BegI w W3 (wA.setCell ⟨sb, 2, none⟩ v2) l A n cap sb vb gm (i + 1) m v2 := by
  have hw : ∀ g ∈ v.ownBlock.toList, W3.heap.size ≤ g := fun g hg => (h.own.lt g (by simpa using hg)).1
  refine ⟨?_, ?_, ?_, ?_, ?_, fun o => ?_, OwnI.chg ho (Chg.set1 wA sb 2 _) (fun g hg => by simpa using hd g hg), ?_, h.sw3⟩
  · rw [World.cell?_setCell_other _ _ _ _ (by simp)]; exact hc.cell h.s0 hs
  · rw [World.cell?_setCell_other _ _ _ _ (by simp)]; exact hc.cell h.s1 hs
  · exact World.cell?_setCell_same' _ _ _ (by rw [hc.cell h.s2 hs]; rfl)
  · rw [World.cell?_setCell_other _ _ _ _ (by simp)]; exact hc.cell h.s3 hs
  · rw [World.cell?_setCell_other _ _ _ _ (by simp)]; exact hc.cell h.s4 hs
  · rw [World.frozen?_setCell]; exact (hc.frozen (World.block_lt_of_cell? wr _ h.s0) hs).trans (h.z o)
  · exact (h.chg.then hc fun g hg => .inr (hw g hg)).trans (Chg.set1 wA sb 2 _)
theorem new_ok (sl : Int) (nt : Nat) (hn : nt ≤ 64) : Md.Ok ⟨sl, [], List.replicate nt Th0⟩ 0 where
  len := Nat.le_refl _
  asc := List.Pairwise.nil
  u64 := fun p hp => (by cases hp)
  thn := by simp; omega
  th := fun x hx => by rw [(List.mem_replicate.1 hx).2]; exact ⟨fun h => (by cases h), fun h => (by cases h), fun h => (by cases h)⟩
theorem new_nums (sl : Int) (nt : Nat) (h : 0 ≤ sl ∧ sl < 9223372036854775808) : Md.Nums ⟨sl, [], List.replicate nt Th0⟩ :=
  ⟨h, fun x hx => by rw [(List.mem_replicate.1 hx).2]; exact ⟨⟨by decide, by decide⟩, by decide, by decide⟩⟩
set_option maxRecDepth 20000 in
set_option maxHeartbeats 32000000 in
theorem begin_good (c : Cf) (cuts : List Nat) (A : Option Addr) (n cap : Nat) (l : List Cl) (w : World) (h : Rd w 1 c.cA cuts.length (nums cuts)) (hcn : c.cn = cuts.length) (hcr : 0 ≤ c.eng ∧ c.eng < 256) (hn : n ≤ 1000) (hnc : n ≤ cap) (hcap : cap ≤ 9223372036854775807) (hl : Cs w A n l) (hw : ∀ y ∈ l, WfC y) (hyes : chkC c cuts = 0) (hb : bad l = none) (h10 : n ≤ 10) (nt : Nat) (hnt : c.thr = nt) :
    Calls Tryz.prog 16 #[confV c, .slice A n cap] w (BegP w l A n cap ⟨c.sl, [], List.replicate nt Th0⟩) := by
  have hvi : chkV l = .tuple #[.int .i64 0, .int .i64 0] := by
    rcases chk_cases l with ⟨h1, h2⟩ | ⟨i, h1, h2⟩
    · exact h2
    · rw [hb] at h1; cases h1
  have h11 : ¬ (10 : Int) < (n : Int) := by omega
  obtain ⟨th1, th2⟩ := cf_thr hyes
  have HM := Lib.hid (fun W (hq : Nw w W) => new_yes c cuts nt W (h.nw hq) hcn hcr hyes hnt (by omega))
  have HSL := Lib.hid (And.intro (cf_sl hyes) (show 1 ≤ nt ∧ nt ≤ 64 by omega))
  have hlen : l.length = n := hl.1
  have HLEN := Lib.hid hlen
  have H10 := Lib.hid h10
  have HCK := Lib.hid (fun W (hq : Nw w W) => check_anyH A n cap l W hn hnc hcap (hl.nw hq) hw)
  have HL := Lib.hid hl
  unfold confV at HM ⊢
  haveI hca : ConfAt (w.alloc (cellsOf c 27)) w.heap.size c := ⟨fun i v hv => by unfold cellsOf; unfold ccells at hv; rw [World.cell?_alloc_new]; simpa using hv, by simp⟩
  obtain ⟨W1, hW1⟩ : ∃ W, W = w.alloc (cellsOf c 27) := ⟨_, rfl⟩
  rw [← hW1] at hca
  have hn1 : Nw w W1 := by rw [hW1]; exact nwa
  unfold cellsOf at hW1
  have HW1 := Lib.hid hW1
  have HN1 := Lib.hid hn1
  haveI : In w.heap.size W1 := ⟨hca.lt⟩
  rw [hvi] at HCK
  clear hW1 hn1 h hcn hcr hn hnc hcap hl hw hyes hb hnt th1 th2 hvi hlen
  have hmm := @run_makeMap Tryz.prog
  go_enter Tryz.func16, Tryz.ntmps16
  go_upto_region 1 with (fail)
  rw [← HW1.out]
  go_wp2_with fail
  refine (HM.out W1 HN1.out).mono ?_
  rintro e W2 ⟨P0, rfl, hm2, hf2, hn2⟩
  haveI := hca.nw hn2
  haveI : In w.heap.size W2 := ⟨(hca.nw hn2).lt⟩
  go_wp2_with fail
  refine (HCK.out W2 (HN1.out.trans hn2)).mono ?_
  rintro e Wa ⟨rfl, hna⟩
  obtain ⟨gm, hgm⟩ : ∃ g, g = P0.gm := ⟨_, rfl⟩
  rw [← hgm]
  have HGM := Lib.hid hgm
  clear hgm
  have h12 : decide ((10 : Int) < (n : Int)) = false := by simp; omega
  obtain ⟨vb, hvb⟩ : ∃ x, x = Wa.heap.size := ⟨_, rfl⟩
  obtain ⟨W3, hW3⟩ : ∃ W, W = (Wa.alloc (.map #[] 0)).alloc (.cells #[.slice A n cap, .pointer (some ⟨gm, 0, none⟩), .slice none 0 0, .int .i64 0, .map (some Wa.heap.size)] 74) := ⟨_, rfl⟩
  have HN3 := Lib.hid (show Nw w W3 by rw [hW3]; exact (((HN1.out.trans hn2).trans hna).alloc _).alloc _)
  have HMS := Lib.hid (show MAt W3 P0 ⟨c.sl, [], List.replicate nt Th0⟩ ∧ (∀ g ∈ P0.foot, w.heap.size ≤ g) ∧ (∀ g ∈ P0.foot, g < vb) by
    refine ⟨hm2.nw (by rw [hW3]; exact (hna.alloc _).alloc _), fun g hg => Nat.le_trans HN1.out.grown.size (hf2 g hg), fun g hg => ?_⟩
    rw [hvb]; exact Nat.lt_of_lt_of_le (hm2.lt hg) hna.grown.size)
  have HVN := Lib.hid (show VainAt l W3 vb 0 by rw [hW3, hvb]; exact (vain_new l Wa).kept (World.grownBy_alloc _ _ none) (by simp))
  have HVB := Lib.hid (show w.heap.size ≤ vb by rw [hvb]; exact ((HN1.out.trans hn2).trans hna).grown.size)
  have HZ3 := Lib.hid (show W3.heap.size = vb + 1 + 1 by rw [hW3, hvb]; simp)
  have HI0 := Lib.hid (show BegI w W3 W3 l A n cap (vb + 1) vb gm 0 0 (.slice none 0 0) by
    rw [hW3, hvb]
    have e : (Wa.alloc (.map #[] 0)).heap.size = Wa.heap.size + 1 := by simp
    refine ⟨?_, ?_, ?_, ?_, ?_, fun o => ?_, World.ownsRow_nil _ _ _ _, Chg.of_nw (Nw.refl _), by simp⟩
    · rw [← e, World.cell?_alloc_new]; rfl
    · rw [← e, World.cell?_alloc_new]; rfl
    · rw [← e, World.cell?_alloc_new]; rfl
    · rw [← e, World.cell?_alloc_new]; rfl
    · rw [← e, World.cell?_alloc_new]; rfl
    · rw [← e]; simp [go_sem])
  have HW3 := Lib.hid hW3
  have HL3 := Lib.hid (HL.out.nw HN3.out)
  have HLA := Lib.hid (show ∀ b o, A = some ⟨b, o, none⟩ → 0 < n → b < w.heap.size by
    intro b o hA h0
    obtain ⟨b', o', hA', hb', -⟩ := HL.out.2 h0
    rw [hA] at hA'; injection hA' with hA'; injection hA' with hA'; omega)
  go_upto_region 10 with (fail)
  rw [← HW3.out, ← hvb]
  clear hm2 hf2 hn2 hna hvb hW3 hmm
  go_wp2_with fail
  go_loopw [42] (fun a wr => ∃ i : Nat, i ≤ n ∧ a = .int .i64 i ∧ Hid (∃ v, BegI w W3 wr l A n cap (vb + 1) vb gm i (mk (muP l) i) v)) (fun a _ => n - (intOf a).toNat)
  case atStart => exact ⟨0, Nat.zero_le _, rfl, Lib.hid ⟨_, HI0.out⟩⟩
  case round =>
    rename World => wo
    obtain ⟨i, hi, rfl, HE⟩ := hrel
    obtain ⟨v, hE⟩ := HE.out
    have HE1 := Lib.hid hE
    have hnw : Nw w wo := nw_chg2 HN3.out hE.chg (by simp; have := HVB.out; omega)
    have HNW := Lib.hid hnw
    by_cases hin : i < n
    · have hcs : Cs wo A n l := HL3.out.chg hE.chg (fun b o hA => by simp; have := HLA.out b o hA (by omega); have := HVB.out; omega)
      have HCS := Lib.hid hcs
      obtain ⟨b, o, x, rfl, hbl, hx, hc⟩ := hcs.get hin
      haveI : CallAt wo b (o + i * 18) x := ⟨hc, hbl⟩
      haveI : In b wo := ⟨hbl⟩
      haveI : In (vb + 1) wo := ⟨World.block_lt_of_cell? wo _ hE.s0⟩
      obtain ⟨m0, hm0⟩ : ∃ m : Nat, m = mk (muP l) i := ⟨_, rfl⟩
      have hi2 : (i : Int) < (n : Int) := by omega
      have HX := Lib.hid hx
      have HM0 := Lib.hid hm0
      have HIN := Lib.hid hin
      obtain ⟨b1, hb1⟩ : ∃ z, z = wo.heap.size := ⟨_, rfl⟩
      obtain ⟨wb, hwb⟩ : ∃ W, W = wo.alloc (.cells #[.int .i64 x.th, .int .i64 x.ix, .int .u8 x.kd, .int .u64 x.ka, .int .u64 x.kb, .int .u64 x.kc, .int .u64 x.kx, .int .u64 x.ky, .int .u64 x.kz, .int .i64 x.inv, .int .i64 x.took, .int .i64 x.ans, .int .i64 x.st, .int .i64 x.re, .bool x.rf, .int .u64 x.rk, .int .u64 x.rv, .int .i64 x.rc] 39) := ⟨_, rfl⟩
      have HWB := Lib.hid hwb
      have HB1 := Lib.hid hb1
      have hbx : CallAt wb b1 0 x := ⟨by rw [hwb, hb1]; exact boxed wo x _, by rw [hwb, hb1]; simp⟩
      have HBX := Lib.hid hbx
      have HNB := Lib.hid (show Nw wo wb by rw [hwb]; exact (Nw.refl wo).alloc _)
      clear hE HE hc hbl hx hm0 hi hin hcs hnw hwb hb1 hbx
      go_upto_region 14 with (fail)
      rw [← HWB.out, ← HB1.out]
      go_wp2_with fail
      haveI := HBX.out
      haveI : In b1 wb := ⟨HBX.out.lt⟩
      haveI : In b wb := ⟨Nat.lt_of_lt_of_le (by assumption : In b wo).lt HNB.out.grown.size⟩
      go_loopw [49, 13] (fun a s wq => ∃ k : Nat, k ≤ n ∧ a = .int .i64 k ∧ ∃ q : Nat, s = .int .i64 q ∧ Hid (q = mk (bmP l i) k) ∧ Nw wb wq) (fun a _ _ => n - (intOf a).toNat)
      case atStart => exact ⟨0, Nat.zero_le _, rfl, 0, rfl, Lib.hid rfl, Nw.refl _⟩
      case round =>
        obtain ⟨k, hk, rfl, q, rfl, HQ, hnq⟩ := hrel
        by_cases hkn : k < n
        · obtain ⟨b2, o2, y, e2, hbl2, hy, hcy⟩ := (HCS.out.nw (HNB.out.trans hnq)).get hkn
          obtain ⟨rfl, rfl⟩ : b = b2 ∧ o = o2 := by simpa using e2
          haveI : CallAt wr b (o + k * 18) y := ⟨hcy, hbl2⟩
          haveI : CallAt wr b1 0 x := ⟨AtC.chg HBX.out.at_ (Chg.of_nw hnq : Chg [] _ _) (by simp), Nat.lt_of_lt_of_le HBX.out.lt hnq.grown.size⟩
          haveI : In b wr := ⟨hbl2⟩
          haveI : In b1 wr := ⟨Nat.lt_of_lt_of_le HBX.out.lt hnq.grown.size⟩
          have hk2 : (k : Int) < (n : Int) := by omega
          have hB := fun W => before_any y x W
          have HKN := Lib.hid hkn
          have HNQ := Lib.hid hnq
          cases hbf : bf y x with
          | true =>
            rw [hbf] at hB
            have HB := Lib.hid hB
            have HST := Lib.hid (show mk (bmP l i) (k + 1) = q ||| 2 ^ k by rw [mk, if_pos (by unfold bmP; rw [hy, HX.out]; exact hbf), ← HQ.out])
            clear hB hbf hcy hbl2 hy hk hkn hnq e2
            go_wp2_with (go_at_call 34; refine (HB.out _).mono ?_; rintro e w' ⟨rfl, dW, rfl⟩)
            exact ⟨⟨k + 1, by have := HKN.out; omega, by go_num, q ||| 2 ^ k, by rw [or_form (by rw [HQ.out]; exact mk_lt20 _ (by have := HKN.out; have := H10.out; omega)) (by have := HKN.out; have := H10.out; omega)], Lib.hid HST.out.symm, HNQ.out.trans (nwa)⟩, by have := HKN.out; simp [intOf]; omega⟩
          | false =>
            rw [hbf] at hB
            have HB := Lib.hid hB
            have HST := Lib.hid (show mk (bmP l i) (k + 1) = q by rw [mk, if_neg (by unfold bmP; rw [hy, HX.out]; simp [hbf]), ← HQ.out])
            clear hB hbf hcy hbl2 hy hk hkn hnq e2
            go_wp2_with (go_at_call 34; refine (HB.out _).mono ?_; rintro e w' ⟨rfl, dW, rfl⟩)
            exact ⟨⟨k + 1, by have := HKN.out; omega, by go_num, q, rfl, Lib.hid HST.out.symm, HNQ.out.trans (nwa)⟩, by have := HKN.out; simp [intOf]; omega⟩
        · have j1 : ¬ (k : Int) < (n : Int) := by omega
          have hkk : n = k := by omega
          subst hkk
          have hF := HE1.out.nw (HNB.out.trans hnq)
          have HF := Lib.hid hF
          have f2 := hF.s2
          have f3 := hF.s3
          have z2 := hF.z 2
          have z3 := hF.z 3
          rw [← HM0.out] at f3
          have bx : wr.cell? ⟨b1, 11, none⟩ = some (.int .i64 x.ans) := cell_nw (by have := HBX.out.at_; simp only [AtC, Nat.zero_add] at this; exact this.2.2.2.2.2.2.2.2.2.2.2.1) hnq
          have hvl : ∀ g, v.ownBlock = some g → vb + 1 < g ∧ g < wr.heap.size := fun g hg => by
            have := hF.own.lt g hg
            have := HZ3.out
            omega
          have hvb1 : ∀ g, v.ownBlock = some g → g ≠ b1 := fun g hg => by
            have := HE1.out.own.lt g hg
            have := HB1.out
            omega
          have hvs : vb + 1 ∉ v.ownBlock.toList := fun hg => by
            cases hv : v.ownBlock with
            | none => rw [hv] at hg; cases hg
            | some g => rw [hv] at hg; simp at hg; have := (hvl g hv).1; omega
          have hvs1 : b1 ∉ v.ownBlock.toList := fun hg => by
            cases hv : v.ownBlock with
            | none => rw [hv] at hg; cases hg
            | some g => rw [hv] at hg; simp at hg; exact hvb1 g hv hg.symm
          have hne : b1 ≠ vb + 1 := by
            have := HB1.out
            have := HZ3.out
            have := HE1.out.chg.size
            omega
          have hne2 : vb + 1 ≠ b1 := Ne.symm hne
          haveI : In (vb + 1) wr := ⟨World.block_lt_of_cell? wr _ f2⟩
          have HVS := Lib.hid hvs
          have HVS1 := Lib.hid hvs1
          have HVL := Lib.hid hvl
          have HQB := Lib.hid (show q = bm l i by rw [HQ.out, bm, HLEN.out])
          have HNQ := Lib.hid hnq
          clear hF hnq hk hvs hvs1 hvl hvb1
          have hown : wr.ownsRow W3.heap.size 3 1 v i (ints ((List.range i).map fun i => (bm l i : Int))) := by have := HF.out.own; unfold OwnI at this; simpa using this
          go_wp2_with (at_builtin; refine wpList_appC rfl _ _ 31 rfl 3 (.int .i64 0) 1 8 Tryz.underlying31 intInfo rfl (by decide) W3.heap.size wr (by have := HF.out.chg.size; omega) v i _ rfl hown _ 1 1 _ [.int .i64 (q : Int)] rfl rfl rfl (by intro u hu; simp at hu; subst hu; rfl) (by unfold maxLen; have := HIN.out; have := H10.out; omega) (by have := HIN.out; have := H10.out; omega) ?_; intro vA wA hA hcA hmA; have hA2 : OwnI wA W3.heap.size vA ((List.range (i + 1)).map fun i => (bm l i : Int)) := OwnI.cast hA (by simp) (by rw [List.range_succ, List.map_append, ints_app', ← HQB.out]); obtain ⟨Av, cv1, hvA, -⟩ := OwnI.form hA2; simp only [List.length_map, List.length_range] at hvA; subst hvA; have g2 := hcA.cell f2 HVS.out; have g3 := hcA.cell f3 HVS.out; have y2 := (hcA.frozen (World.block_lt_of_cell? wr _ f2) HVS.out).trans z2; have y3 := (hcA.frozen (World.block_lt_of_cell? wr _ f2) HVS.out).trans z3; have bx2 := hcA.cell bx HVS1.out; haveI : In (vb + 1) wA := ⟨World.block_lt_of_cell? wA _ g2⟩; haveI : In b1 wA := ⟨World.block_lt_of_cell? wA _ bx2⟩; have HA2 := Lib.hid hA2; have HCA := Lib.hid hcA; have HMA := Lib.hid hmA; clear hA hA2 hcA hmA)
          · go_region
            go_wp2
            have hst : mk (muP l) (i + 1) = m0 ||| 2 ^ i := by
              have hax : 0 ≤ x.ans := by omega
              rw [mk, if_pos (by unfold muP; rw [HX.out]; simp [hax]), HM0.out]
            refine ⟨⟨i + 1, by have := HIN.out; omega, by go_num, Lib.hid ⟨.slice Av (i + 1) cv1, ?_⟩⟩, by have := HIN.out; simp [intOf]; omega⟩
            rw [hst, or_form (by rw [HM0.out]; exact mk_lt20 _ (by have := HIN.out; have := H10.out; omega)) (by have := HIN.out; have := H10.out; omega)]
            have h8 := HF.out.next HCA.out HA2.out HVS.out (fun g hg => (HMA.out g hg).elim (fun h => Nat.ne_of_gt (HVL.out g h).1) (fun h => by have : vb + 1 < wr.heap.size := World.block_lt_of_cell? wr _ HF.out.s0; omega))
            exact (h8.nw (Nw.drew (Nw.refl _))).must _
          · have hst : mk (muP l) (i + 1) = mk (muP l) i := by
              have hax : ¬ 0 ≤ x.ans := by omega
              rw [mk, if_neg (by unfold muP; rw [HX.out]; simp; omega)]
            refine ⟨⟨i + 1, by have := HIN.out; omega, by go_num, Lib.hid ⟨.slice Av (i + 1) cv1, ?_⟩⟩, by have := HIN.out; simp [intOf]; omega⟩
            rw [hst]
            exact HF.out.next HCA.out HA2.out HVS.out (fun g hg => (HMA.out g hg).elim (fun h => Nat.ne_of_gt (HVL.out g h).1) (fun h => by have : vb + 1 < wr.heap.size := World.block_lt_of_cell? wr _ HF.out.s0; omega))
    · have j1 : ¬ (i : Int) < (n : Int) := by omega
      have hii : n = i := by omega
      subst hii
      have HV1 := Lib.hid (HVN.out.chg hE.chg (by simp))
      clear hE HE hi hin
      go_wp2
      have hB := HE1.out
      have hform : ∃ B cb, v = .slice B n cb ∧ Is wo B n ((List.range n).map fun i => (bm l i : Int)) ∧ ∀ b o, B = some ⟨b, o, none⟩ → w.heap.size ≤ b ∧ b ≠ vb ∧ b < wo.heap.size := by
        obtain ⟨B, cb, e1, e2, e3⟩ := OwnI.newc hB.own (n := n) (by simp)
        refine ⟨B, cb, e1, e2, fun b o hb => ?_⟩
        have h1 := hB.own.lt b (by rw [e1, hb]; rfl)
        have h2 := HN3.out.grown.size
        have h3 := HZ3.out
        omega
      obtain ⟨B, cb, rfl, e2, e3⟩ := hform
      have hmm : mk (muP l) n = mu l := by rw [mu, HLEN.out]
      refine bodyPost_ret (results_tmp2 rfl _ _ _) rfl ⟨vb + 1, vb, B, cb, P0, rfl, HNW.out, hB.s0, by rw [← HGM.out]; exact hB.s1, hB.s2, by rw [← hmm]; exact hB.s3, hB.s4, e2, HV1.out, ⟨HMS.out.1.chg hB.chg (fun g hg => by simp; have := HMS.out.2.2 g hg; omega), ?_, ?_, ?_⟩, HMS.out.2.1, fun g hg => Nat.ne_of_lt (HMS.out.2.2 g hg), by have := HVB.out; omega, HVB.out, e3⟩
      · exact new_ok _ _ (by have := HSL.out; omega)
      · exact new_nums _ _ HSL.out.1
      · have := HSL.out.2; simp; omega
end Go.Proofs.YtmbjpjpdcmjjgaaGreatDoor

