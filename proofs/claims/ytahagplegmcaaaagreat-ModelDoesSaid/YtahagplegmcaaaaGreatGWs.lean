import Derived.Test.YtahagplegmcaaaaGreatGWq
import Derived.Test.YtahagplegmcaaaaGreatGVt
set_option linter.unusedVariables false
set_option linter.unusedSimpArgs false
namespace Go.Proofs.YtahagplegmcaaaaGreat
open Go.RowKit Go.Xt
/-! The law ModelDoes. -/
theorem cf_thr {c : Cf} {cuts : List Nat} (h : chkC c cuts = 0) : 1 ≤ c.thr ∧ c.thr ≤ 64 := by
  have hb : cfgB c cuts = true := by
    cases hb : cfgB c cuts with
    | true => rfl
    | false => unfold chkC at h; rw [if_neg (by simp [hb])] at h; cases h
  exact (cfgB_iff.1 hb).2.1
theorem chk_two (c : Cf) (cuts : List Nat) : chkC c cuts = 0 ∨ chkC c cuts = 2 := by unfold chkC; split <;> simp
set_option maxRecDepth 20000 in
set_option maxHeartbeats 16000000 in
theorem does_bad (c : Cf) (cuts : List Nat) (A : Option Addr) (n cap : Nat) (w : World) (h : Rd w 1 c.cA cuts.length (nums cuts)) (hcn : c.cn = cuts.length) (hcr : 0 ≤ c.eng ∧ c.eng < 256) (hs : (decide (n ≤ 80) && decide (c.cn ≤ 70)) = true) (hno : chkC c cuts = 2) :
    Calls Tryz.prog 3 #[confV c, .slice A n cap] w fun e w' => e = .returned (.bool true) ∧ Nw w w' := by
  have HS := Lib.hid (fun W => short_any c A n cap W)
  rw [hs] at HS
  have HM := Lib.hid (fun W (hw : Nw w W) => new_no c cuts W (h.nw hw) hcn hcr hno)
  have HR := Lib.hid (fun W (hw : Nw w W) => rnew_no c cuts W (h.nw hw) hcn hcr hno)
  clear h hcn hcr hs hno
  unfold confV at HS HM HR ⊢
  haveI hca : ConfAt (w.alloc (cellsOf c 27)) w.heap.size c := ⟨fun i v hv => by unfold cellsOf; unfold ccells at hv; rw [World.cell?_alloc_new]; simpa using hv, by simp⟩
  obtain ⟨W1, hW1⟩ : ∃ W, W = w.alloc (cellsOf c 27) := ⟨_, rfl⟩
  rw [← hW1] at hca
  have hn1 : Nw w W1 := by rw [hW1]; exact (by repeat (first | exact Xt.Nw.refl _ | refine Xt.Nw.drew ?_ | refine Xt.Nw.drewN ?_ _ | refine Xt.Nw.alloc ?_ _ | refine Xt.Nw.joined ?_ | refine Xt.Nw.drewd ?_ | refine Xt.Nw.drewdN ?_ | refine Xt.Nw.ext ?_ | refine Xt.Nw.ext_some ?_ (by assumption) | refine Xt.Nw.setCell ?_ (by simp [go_sem] <;> omega) _))
  unfold cellsOf at hW1
  have HW1 := Lib.hid hW1
  have HN1 := Lib.hid hn1
  haveI : In w.heap.size W1 := ⟨hca.lt⟩
  clear hW1 hn1
  go_enter Tryz.func3, Tryz.ntmps3
  go_upto_region 1 with (fail)
  rw [← HW1.out]
  go_wp2_with (first | (go_at_call 4; refine (HS.out _).mono ?_; rintro e w' ⟨rfl, dW, rfl⟩) | (go_at_call 6; refine (HM.out _ (HN1.out.trans ((by repeat (first | exact Xt.Nw.refl _ | refine Xt.Nw.drew ?_ | refine Xt.Nw.drewN ?_ _ | refine Xt.Nw.alloc ?_ _ | refine Xt.Nw.joined ?_ | refine Xt.Nw.drewd ?_ | refine Xt.Nw.drewdN ?_ | refine Xt.Nw.ext ?_ | refine Xt.Nw.ext_some ?_ (by assumption) | refine Xt.Nw.setCell ?_ (by simp [go_sem] <;> omega) _))))).mono ?_; rintro e w' ⟨rfl, dW, rfl⟩) | (go_at_call 7; refine (HR.out _ (HN1.out.trans ((by repeat (first | exact Xt.Nw.refl _ | refine Xt.Nw.drew ?_ | refine Xt.Nw.drewN ?_ _ | refine Xt.Nw.alloc ?_ _ | refine Xt.Nw.joined ?_ | refine Xt.Nw.drewd ?_ | refine Xt.Nw.drewdN ?_ | refine Xt.Nw.ext ?_ | refine Xt.Nw.ext_some ?_ (by assumption) | refine Xt.Nw.setCell ?_ (by simp [go_sem] <;> omega) _))))).mono ?_; rintro e w' ⟨rfl, dW, rfl⟩))
  go_ret
  exact ⟨rfl, HN1.out.trans (by repeat (first | exact Xt.Nw.refl _ | refine Xt.Nw.drew ?_ | refine Xt.Nw.drewN ?_ _ | refine Xt.Nw.alloc ?_ _ | refine Xt.Nw.joined ?_ | refine Xt.Nw.drewd ?_ | refine Xt.Nw.drewdN ?_ | refine Xt.Nw.ext ?_ | refine Xt.Nw.ext_some ?_ (by assumption) | refine Xt.Nw.setCell ?_ (by simp [go_sem] <;> omega) _))⟩
set_option maxRecDepth 20000 in
set_option maxHeartbeats 16000000 in
theorem does_long (c : Cf) (A : Option Addr) (n cap : Nat) (w : World) (hs : (decide (n ≤ 80) && decide (c.cn ≤ 70)) = false) :
    Calls Tryz.prog 3 #[confV c, .slice A n cap] w fun e w' => e = .returned (.bool true) ∧ Nw w w' := by
  have HS := Lib.hid (fun W => short_any c A n cap W)
  rw [hs] at HS
  clear hs
  unfold confV at HS ⊢
  haveI hca : ConfAt (w.alloc (cellsOf c 27)) w.heap.size c := ⟨fun i v hv => by unfold cellsOf; unfold ccells at hv; rw [World.cell?_alloc_new]; simpa using hv, by simp⟩
  obtain ⟨W1, hW1⟩ : ∃ W, W = w.alloc (cellsOf c 27) := ⟨_, rfl⟩
  rw [← hW1] at hca
  have hn1 : Nw w W1 := by rw [hW1]; exact (by repeat (first | exact Xt.Nw.refl _ | refine Xt.Nw.drew ?_ | refine Xt.Nw.drewN ?_ _ | refine Xt.Nw.alloc ?_ _ | refine Xt.Nw.joined ?_ | refine Xt.Nw.drewd ?_ | refine Xt.Nw.drewdN ?_ | refine Xt.Nw.ext ?_ | refine Xt.Nw.ext_some ?_ (by assumption) | refine Xt.Nw.setCell ?_ (by simp [go_sem] <;> omega) _))
  unfold cellsOf at hW1
  have HW1 := Lib.hid hW1
  have HN1 := Lib.hid hn1
  haveI : In w.heap.size W1 := ⟨hca.lt⟩
  clear hW1 hn1
  go_enter Tryz.func3, Tryz.ntmps3
  go_upto_region 1 with (fail)
  rw [← HW1.out]
  go_wp2_with (first | (go_at_call 4; refine (HS.out _).mono ?_; rintro e w' ⟨rfl, dW, rfl⟩) | (go_at_call 5; refine (known_M _).mono ?_; rintro e w' ⟨rfl, dW, rfl⟩))
  go_ret
  exact ⟨rfl, HN1.out.trans (by repeat (first | exact Xt.Nw.refl _ | refine Xt.Nw.drew ?_ | refine Xt.Nw.drewN ?_ _ | refine Xt.Nw.alloc ?_ _ | refine Xt.Nw.joined ?_ | refine Xt.Nw.drewd ?_ | refine Xt.Nw.drewdN ?_ | refine Xt.Nw.ext ?_ | refine Xt.Nw.ext_some ?_ (by assumption) | refine Xt.Nw.setCell ?_ (by simp [go_sem] <;> omega) _))⟩
set_option maxRecDepth 20000 in
set_option maxHeartbeats 32000000 in
theorem does_good (c : Cf) (cuts : List Nat) (A : Option Addr) (n cap : Nat) (ds : List Dd) (w : World) (h : Rd w 1 c.cA cuts.length (nums cuts)) (hcn : c.cn = cuts.length) (hcr : 0 ≤ c.eng ∧ c.eng < 256) (hs : (decide (n ≤ 80) && decide (c.cn ≤ 70)) = true) (hyes : chkC c cuts = 0) (hd : Rd w 15 A n (dcells ds)) (hok : ∀ d ∈ ds, DdOk d) :
    Calls Tryz.prog 3 #[confV c, .slice A n cap] w fun e w' => e = .returned (.bool true) ∧ Nw w w' := by
  have HS := Lib.hid (fun W => short_any c A n cap W)
  have n80 : n ≤ 80 := by simp at hs; exact hs.1
  rw [hs] at HS
  obtain ⟨th1, th2⟩ := cf_thr hyes
  obtain ⟨nt, hnt⟩ : ∃ nt : Nat, c.thr = nt := ⟨c.thr.toNat, by omega⟩
  have HM := Lib.hid (fun W (hw : Nw w W) => new_yes c cuts nt W (h.nw hw) hcn hcr hyes hnt (by omega))
  have HR := Lib.hid (fun W (hw : Nw w W) => rnew_yes c cuts nt W (h.nw hw) hcn hcr hyes hnt (by omega))
  have HNT := Lib.hid (show 0 < nt ∧ nt ≤ 64 by omega)
  have HDS := Lib.hid hd
  have HOK := Lib.hid hok
  have HLN := Lib.hid (show ds.length = n by have := hd.1; rw [dcells_len] at this; omega)
  clear h hcn hcr hs hyes hnt th1 th2 hd hok
  unfold confV at HS HM HR ⊢
  haveI hca : ConfAt (w.alloc (cellsOf c 27)) w.heap.size c := ⟨fun i v hv => by unfold cellsOf; unfold ccells at hv; rw [World.cell?_alloc_new]; simpa using hv, by simp⟩
  obtain ⟨W1, hW1⟩ : ∃ W, W = w.alloc (cellsOf c 27) := ⟨_, rfl⟩
  rw [← hW1] at hca
  have hn1 : Nw w W1 := by rw [hW1]; exact (by repeat (first | exact Xt.Nw.refl _ | refine Xt.Nw.drew ?_ | refine Xt.Nw.drewN ?_ _ | refine Xt.Nw.alloc ?_ _ | refine Xt.Nw.joined ?_ | refine Xt.Nw.drewd ?_ | refine Xt.Nw.drewdN ?_ | refine Xt.Nw.ext ?_ | refine Xt.Nw.ext_some ?_ (by assumption) | refine Xt.Nw.setCell ?_ (by simp [go_sem] <;> omega) _))
  unfold cellsOf at hW1
  have HW1 := Lib.hid hW1
  have HN1 := Lib.hid hn1
  haveI : In w.heap.size W1 := ⟨hca.lt⟩
  clear hW1 hn1
  go_enter Tryz.func3, Tryz.ntmps3
  go_upto_region 1 with (fail)
  rw [← HW1.out]
  go_wp2_with (go_at_call 4; refine (HS.out _).mono ?_; rintro e w' ⟨rfl, dW, rfl⟩)
  obtain ⟨W2, hW2⟩ : ∃ W, W = W1.ext none dW := ⟨_, rfl⟩
  have hn2 : Nw W1 W2 := by rw [hW2]; exact ⟨_, rfl⟩
  rw [← hW2]
  haveI hcb : ConfAt W2 w.heap.size c := hca.nw hn2
  have HN2 := Lib.hid (HN1.out.trans hn2)
  clear hn2 hW2
  refine (HM.out W2 HN2.out).mono ?_
  rintro e W3 ⟨p, rfl, hma, hpf, hn3⟩
  haveI hcc : ConfAt W3 w.heap.size c := hcb.nw hn3
  have HMA := Lib.hid hma
  have HPF := Lib.hid (fun g hg => Nat.le_trans HN2.out.grown.size (hpf g hg))
  have HN3 := Lib.hid (HN2.out.trans hn3)
  clear hma hpf hn3
  go_wp2_with fail
  refine (HR.out W3 HN3.out).mono ?_
  rintro e W4 ⟨q, rfl, hra, hqf, hn4⟩
  have hl := L2.made (by have := HNT.out; omega) HN3.out HMA.out HPF.out hra hqf hn4
  obtain ⟨gm, hgm⟩ : ∃ g, g = p.gm := ⟨_, rfl⟩
  obtain ⟨gr, hgr⟩ : ∃ g, g = q.gm := ⟨_, rfl⟩
  rw [← hgm, ← hgr] at hl
  rw [← hgm, ← hgr]
  have H4 := Lib.hid hl
  haveI : In gm W4 := ⟨hl.im⟩
  haveI : In gr W4 := ⟨hl.ir⟩
  clear hl hgm hgr hra hqf hn4 HMA HPF HM HR
  go_wp2
  go_loopw [9] (fun a wr => ∃ i : Nat, i ≤ n ∧ a = .int .i64 i ∧ Hid (∃ s : Md, L2 w gm gr c s s i [] wr ∧ s.th.length = nt)) (fun a _ => n - (intOf a).toNat)
  case atStart => exact ⟨0, Nat.zero_le _, rfl, Lib.hid ⟨_, H4.out, by simp⟩⟩
  case round =>
    clear H4
    obtain ⟨i, hi, rfl, HC⟩ := hrel
    obtain ⟨s, hl, hsn⟩ := HC.out
    have HL := Lib.hid hl
    have HSN := Lib.hid hsn
    haveI : In gm wr := ⟨hl.im⟩
    haveI : In gr wr := ⟨hl.ir⟩
    have hnw := hl.nw
    have i0 : (0 : Int) ≤ (i : Int) := by omega
    by_cases hin : i < n
    · obtain ⟨g, o9, rfl, hg, hc⟩ := (HDS.out.nw hnw).2 (by omega)
      obtain ⟨d, hdd⟩ : ∃ d, ds[i]? = some d := ⟨_, List.getElem?_eq_getElem (by have := HLN.out; omega)⟩
      have hdok := HOK.out d (List.mem_of_getElem? hdd)
      obtain ⟨t, ⟨k, a, b, c2, d2, e2, f2⟩, j, y, ⟨er, fd, ke, va, cn⟩⟩ := d
      have x0 : wr.cell? ⟨g, o9 + i * 15, none⟩ = some (.int .i64 t) := by have := hc _ _ (dcells_get ds i _ hdd 0 _ rfl); rwa [Nat.add_zero] at this
      have x1 : wr.cell? ⟨g, o9 + i * 15 + 1, none⟩ = some (.int .u8 k) := by have := hc _ _ (dcells_get ds i _ hdd 1 _ rfl); rwa [← Nat.add_assoc] at this
      have x2 : wr.cell? ⟨g, o9 + i * 15 + 2, none⟩ = some (.int .u64 a) := by have := hc _ _ (dcells_get ds i _ hdd 2 _ rfl); rwa [← Nat.add_assoc] at this
      have x3 : wr.cell? ⟨g, o9 + i * 15 + 3, none⟩ = some (.int .u64 b) := by have := hc _ _ (dcells_get ds i _ hdd 3 _ rfl); rwa [← Nat.add_assoc] at this
      have x4 : wr.cell? ⟨g, o9 + i * 15 + 4, none⟩ = some (.int .u64 c2) := by have := hc _ _ (dcells_get ds i _ hdd 4 _ rfl); rwa [← Nat.add_assoc] at this
      have x5 : wr.cell? ⟨g, o9 + i * 15 + 5, none⟩ = some (.int .u64 d2) := by have := hc _ _ (dcells_get ds i _ hdd 5 _ rfl); rwa [← Nat.add_assoc] at this
      have x6 : wr.cell? ⟨g, o9 + i * 15 + 6, none⟩ = some (.int .u64 e2) := by have := hc _ _ (dcells_get ds i _ hdd 6 _ rfl); rwa [← Nat.add_assoc] at this
      have x7 : wr.cell? ⟨g, o9 + i * 15 + 7, none⟩ = some (.int .u64 f2) := by have := hc _ _ (dcells_get ds i _ hdd 7 _ rfl); rwa [← Nat.add_assoc] at this
      have x8 : wr.cell? ⟨g, o9 + i * 15 + 8, none⟩ = some (.bool j) := by have := hc _ _ (dcells_get ds i _ hdd 8 _ rfl); rwa [← Nat.add_assoc] at this
      have x9 : wr.cell? ⟨g, o9 + i * 15 + 9, none⟩ = some (.int .u8 y) := by have := hc _ _ (dcells_get ds i _ hdd 9 _ rfl); rwa [← Nat.add_assoc] at this
      have x10 : wr.cell? ⟨g, o9 + i * 15 + 10, none⟩ = some (.int .i64 er) := by have := hc _ _ (dcells_get ds i _ hdd 10 _ rfl); rwa [← Nat.add_assoc] at this
      have x11 : wr.cell? ⟨g, o9 + i * 15 + 11, none⟩ = some (.bool fd) := by have := hc _ _ (dcells_get ds i _ hdd 11 _ rfl); rwa [← Nat.add_assoc] at this
      have x12 : wr.cell? ⟨g, o9 + i * 15 + 12, none⟩ = some (.int .u64 ke) := by have := hc _ _ (dcells_get ds i _ hdd 12 _ rfl); rwa [← Nat.add_assoc] at this
      have x13 : wr.cell? ⟨g, o9 + i * 15 + 13, none⟩ = some (.int .u64 va) := by have := hc _ _ (dcells_get ds i _ hdd 13 _ rfl); rwa [← Nat.add_assoc] at this
      have x14 : wr.cell? ⟨g, o9 + i * 15 + 14, none⟩ = some (.int .i64 cn) := by have := hc _ _ (dcells_get ds i _ hdd 14 _ rfl); rwa [← Nat.add_assoc] at this
      have HDK := Lib.hid hdok
      have HIN := Lib.hid hin
      haveI : In g wr := ⟨hg⟩
      have i1 : (i : Int) < (n : Int) := by omega
      have i2 : i < 1000 := by omega
      clear hc hdd hdok hin hi HC hl hsn hnw
      go_upto_region 13 with (fail)
      have hb := HL.out.box (dc ⟨t, ⟨k, a, b, c2, d2, e2, f2⟩, j, y, ⟨er, fd, ke, va, cn⟩⟩) 44
      obtain ⟨W5, hW5a⟩ : ∃ W, W = wr.alloc (.cells (dc ⟨t, ⟨k, a, b, c2, d2, e2, f2⟩, j, y, ⟨er, fd, ke, va, cn⟩⟩).toArray 44) := ⟨_, rfl⟩
      obtain ⟨gb, hgb⟩ : ∃ g, g = wr.heap.size := ⟨_, rfl⟩
      rw [← hW5a, ← hgb] at hb
      have hW5 : W5 = wr.alloc (.cells #[.int .i64 t, .int .u8 k, .int .u64 a, .int .u64 b, .int .u64 c2, .int .u64 d2, .int .u64 e2, .int .u64 f2, .bool j, .int .u8 y, .int .i64 er, .bool fd, .int .u64 ke, .int .u64 va, .int .i64 cn] 44) := hW5a
      rw [← hW5, ← hgb]
      have HB := Lib.hid hb
      have z0 := hb.cells (List.mem_cons_self ..) (j := 0) (v := .int .i64 t) rfl
      have z1 := hb.cells (List.mem_cons_self ..) (j := 1) (v := .int .u8 k) rfl
      have z2 := hb.cells (List.mem_cons_self ..) (j := 2) (v := .int .u64 a) rfl
      have z3 := hb.cells (List.mem_cons_self ..) (j := 3) (v := .int .u64 b) rfl
      have z4 := hb.cells (List.mem_cons_self ..) (j := 4) (v := .int .u64 c2) rfl
      have z5 := hb.cells (List.mem_cons_self ..) (j := 5) (v := .int .u64 d2) rfl
      have z6 := hb.cells (List.mem_cons_self ..) (j := 6) (v := .int .u64 e2) rfl
      have z7 := hb.cells (List.mem_cons_self ..) (j := 7) (v := .int .u64 f2) rfl
      have z8 := hb.cells (List.mem_cons_self ..) (j := 8) (v := .bool j) rfl
      have z9 := hb.cells (List.mem_cons_self ..) (j := 9) (v := .int .u8 y) rfl
      have z10 := hb.cells (List.mem_cons_self ..) (j := 10) (v := .int .i64 er) rfl
      have z11 := hb.cells (List.mem_cons_self ..) (j := 11) (v := .bool fd) rfl
      have z12 := hb.cells (List.mem_cons_self ..) (j := 12) (v := .int .u64 ke) rfl
      have z13 := hb.cells (List.mem_cons_self ..) (j := 13) (v := .int .u64 va) rfl
      have z14 := hb.cells (List.mem_cons_self ..) (j := 14) (v := .int .i64 cn) rfl
      haveI : In gb W5 := ⟨hb.bl (List.mem_cons_self ..)⟩
      haveI : In gm W5 := ⟨hb.im⟩
      haveI : In gr W5 := ⟨hb.ir⟩
      clear hb hW5a hW5 hgb x0 x1 x2 x3 x4 x5 x6 x7 x8 x9 x10 x11 x12 x13 x14
      have HI9 := Lib.hid (show i ≤ 80 by have := HIN.out; omega)
      cases j with
      | false =>
        have HD1 := Lib.hid (fun W (hw : Nw W5 W) => do_L2m (HB.out.grow hw) (by have := HI9.out; omega) t ⟨k, a, b, c2, d2, e2, f2⟩ HDK.out.1)
        have HD2 := Lib.hid (fun W (r : Md) (hw : L2 w gm gr c r s (i + 1) [(gb, dc ⟨t, ⟨k, a, b, c2, d2, e2, f2⟩, false, y, ⟨er, fd, ke, va, cn⟩⟩)] W) => do_L2r hw (by have := HI9.out; omega) t ⟨k, a, b, c2, d2, e2, f2⟩ HDK.out.1)
        have HOK2 := Lib.hid (show (doM s t ⟨k, a, b, c2, d2, e2, f2⟩).2.Ok (i + 1) from doM_ok HL.out.ok1 t HDK.out.1)
        have HLEN := Lib.hid (do_len s t ⟨k, a, b, c2, d2, e2, f2⟩)
        obtain ⟨Q, hQ⟩ : ∃ Q, Q = doM s t ⟨k, a, b, c2, d2, e2, f2⟩ := ⟨_, rfl⟩
        rw [← hQ] at HD1 HD2 HOK2 HLEN
        clear hQ
        obtain ⟨⟨r1, r2, r3, r4, r5⟩, s2⟩ := Q
        unfold opV resV at HD1 HD2
        simp only at HD1 HD2 HOK2 HLEN
        go_upto_region 17 with (fail)
        go_region_held3 (fun w' => w'.cell? ⟨gb, 0, none⟩ = some (.int .i64 t) ∧ w'.cell? ⟨gb, 1, none⟩ = some (.int .u8 k) ∧ w'.cell? ⟨gb, 2, none⟩ = some (.int .u64 a) ∧ w'.cell? ⟨gb, 3, none⟩ = some (.int .u64 b) ∧ w'.cell? ⟨gb, 4, none⟩ = some (.int .u64 c2) ∧ w'.cell? ⟨gb, 5, none⟩ = some (.int .u64 d2) ∧ w'.cell? ⟨gb, 6, none⟩ = some (.int .u64 e2) ∧ w'.cell? ⟨gb, 7, none⟩ = some (.int .u64 f2)) (first | exact ⟨z0, z1, z2, z3, z4, z5, z6, z7⟩ | exact ⟨cell_nw z0 (Nw.drew (Nw.refl _)), cell_nw z1 (Nw.drew (Nw.refl _)), cell_nw z2 (Nw.drew (Nw.refl _)), cell_nw z3 (Nw.drew (Nw.refl _)), cell_nw z4 (Nw.drew (Nw.refl _)), cell_nw z5 (Nw.drew (Nw.refl _)), cell_nw z6 (Nw.drew (Nw.refl _)), cell_nw z7 (Nw.drew (Nw.refl _))⟩ | exact ⟨h6.cells (List.mem_cons_self ..) (j := 0) rfl, h6.cells (List.mem_cons_self ..) (j := 1) rfl, h6.cells (List.mem_cons_self ..) (j := 2) rfl, h6.cells (List.mem_cons_self ..) (j := 3) rfl, h6.cells (List.mem_cons_self ..) (j := 4) rfl, h6.cells (List.mem_cons_self ..) (j := 5) rfl, h6.cells (List.mem_cons_self ..) (j := 6) rfl, h6.cells (List.mem_cons_self ..) (j := 7) rfl⟩ | exact ⟨h7.cells (List.mem_cons_self ..) (j := 0) rfl, h7.cells (List.mem_cons_self ..) (j := 1) rfl, h7.cells (List.mem_cons_self ..) (j := 2) rfl, h7.cells (List.mem_cons_self ..) (j := 3) rfl, h7.cells (List.mem_cons_self ..) (j := 4) rfl, h7.cells (List.mem_cons_self ..) (j := 5) rfl, h7.cells (List.mem_cons_self ..) (j := 6) rfl, h7.cells (List.mem_cons_self ..) (j := 7) rfl⟩)
          ((first | (go_at_call 12; refine (HD2.out W6 _ h6).mono ?_; rintro e W7 ⟨rfl, h7⟩) | (go_at_call 11; refine (HD1.out W5.drew (Nw.drew (Nw.refl _))).mono ?_; rintro e W6 ⟨rfl, h6⟩)))
        rename_i hHeld
        clear hHeld
        have h8 : L2 w gm gr c s2 s2 (i + 1) [] W7 := by
          have h9 := h7.drop
          exact ⟨h9.ex, HOK2.out, HOK2.out, h9.nw⟩
        have H8 := Lib.hid h8
        haveI : In gm W7 := ⟨h8.im⟩
        haveI : In gr W7 := ⟨h8.ir⟩
        clear h6 h7 h8 z0 z1 z2 z3 z4 z5 z6 z7 z8 z9 z10 z11 z12 z13 z14
        go_wp2_with fail
        refine (same_L2 H8.out (by have := HI9.out; omega)).mono ?_
        rintro e w9 ⟨rfl, hn9⟩
        have H9 := Lib.hid (H8.out.grow hn9)
        clear hn9
        go_wp2
        exact ⟨⟨i + 1, by have := HIN.out; omega, by go_num, Lib.hid ⟨s2, H9.out, HLEN.out.trans HSN.out⟩⟩, by have := HIN.out; simp [intOf]; omega⟩
      | true =>
        have HRC := Lib.hid (recorded_L2 HB.out (by have := HI9.out; omega) (by have := HSN.out; have := HNT.out; omega) ⟨t, ⟨k, a, b, c2, d2, e2, f2⟩, true, y, ⟨er, fd, ke, va, cn⟩⟩ HDK.out.1 HDK.out.2.2)
        have HKY := Lib.hid (rec_key HL.out.ok1 ⟨t, ⟨k, a, b, c2, d2, e2, f2⟩, true, y, ⟨er, fd, ke, va, cn⟩⟩ HDK.out.2.1)
        obtain ⟨R, hR⟩ : ∃ R, R = recM s ⟨t, ⟨k, a, b, c2, d2, e2, f2⟩, true, y, ⟨er, fd, ke, va, cn⟩⟩ := ⟨_, rfl⟩
        rw [← hR] at HRC HKY
        clear hR
        obtain ⟨r1, r2, r3, r4, r5⟩ := R
        unfold resV at HRC
        simp only at HRC HKY
        go_wp2_with fail
        refine HRC.out.mono ?_
        rintro e W6 ⟨rfl, hn6⟩
        have h6 := HB.out.grow hn6
        have h6b := h6.box [.int .i64 r1, .bool r2, .int .u64 r3, .int .u64 r4, .int .i64 r5] 42
        have H6 := Lib.hid h6
        haveI : In gm W6 := ⟨h6.im⟩
        haveI : In gr W6 := ⟨h6.ir⟩
        haveI : In gb W6 := ⟨h6.bl (List.mem_cons_self ..)⟩
        replace z0 := cell_nw z0 hn6
        replace z1 := cell_nw z1 hn6
        replace z2 := cell_nw z2 hn6
        replace z3 := cell_nw z3 hn6
        replace z4 := cell_nw z4 hn6
        replace z5 := cell_nw z5 hn6
        replace z6 := cell_nw z6 hn6
        replace z7 := cell_nw z7 hn6
        replace z8 := cell_nw z8 hn6
        replace z9 := cell_nw z9 hn6
        replace z10 := cell_nw z10 hn6
        replace z11 := cell_nw z11 hn6
        replace z12 := cell_nw z12 hn6
        replace z13 := cell_nw z13 hn6
        replace z14 := cell_nw z14 hn6
        clear hn6 h6
        go_upto_region 15 with (fail)
        obtain ⟨W7, hW7⟩ : ∃ W, W = W6.alloc (.cells #[.int .i64 r1, .bool r2, .int .u64 r3, .int .u64 r4, .int .i64 r5] 42) := ⟨_, rfl⟩
        obtain ⟨gc, hgc⟩ : ∃ g, g = W6.heap.size := ⟨_, rfl⟩
        have hW7' : W7 = W6.alloc (.cells [.int .i64 r1, .bool r2, .int .u64 r3, .int .u64 r4, .int .i64 r5].toArray 42) := hW7
        rw [← hW7', ← hgc] at h6b
        rw [← hW7, ← hgc]
        have H7 := Lib.hid h6b
        have u0 := h6b.cells (List.mem_cons_self ..) (j := 0) (v := .int .i64 r1) rfl
        have u1 := h6b.cells (List.mem_cons_self ..) (j := 1) (v := .bool r2) rfl
        have u2 := h6b.cells (List.mem_cons_self ..) (j := 2) (v := .int .u64 r3) rfl
        have u3 := h6b.cells (List.mem_cons_self ..) (j := 3) (v := .int .u64 r4) rfl
        have u4 := h6b.cells (List.mem_cons_self ..) (j := 4) (v := .int .i64 r5) rfl
        replace z0 := h6b.cells (List.mem_cons_of_mem _ (List.mem_cons_self ..)) (j := 0) (v := .int .i64 t) rfl
        replace z1 := h6b.cells (List.mem_cons_of_mem _ (List.mem_cons_self ..)) (j := 1) (v := .int .u8 k) rfl
        replace z2 := h6b.cells (List.mem_cons_of_mem _ (List.mem_cons_self ..)) (j := 2) (v := .int .u64 a) rfl
        replace z3 := h6b.cells (List.mem_cons_of_mem _ (List.mem_cons_self ..)) (j := 3) (v := .int .u64 b) rfl
        replace z4 := h6b.cells (List.mem_cons_of_mem _ (List.mem_cons_self ..)) (j := 4) (v := .int .u64 c2) rfl
        replace z5 := h6b.cells (List.mem_cons_of_mem _ (List.mem_cons_self ..)) (j := 5) (v := .int .u64 d2) rfl
        replace z6 := h6b.cells (List.mem_cons_of_mem _ (List.mem_cons_self ..)) (j := 6) (v := .int .u64 e2) rfl
        replace z7 := h6b.cells (List.mem_cons_of_mem _ (List.mem_cons_self ..)) (j := 7) (v := .int .u64 f2) rfl
        haveI : In gm W7 := ⟨h6b.im⟩
        haveI : In gr W7 := ⟨h6b.ir⟩
        haveI : In gb W7 := ⟨h6b.bl (List.mem_cons_of_mem _ (List.mem_cons_self ..))⟩
        haveI : In gc W7 := ⟨h6b.bl (List.mem_cons_self ..)⟩
        clear h6b hW7 hW7' hgc z8 z9 z10 z11 z12 z13 z14
        have HD1 := Lib.hid (fun W (hw : Nw W7 W) => acc_L2m (H7.out.grow hw) (by have := HI9.out; omega) t ⟨k, a, b, c2, d2, e2, f2⟩ HDK.out.1 ⟨r1, r2, r3, r4, r5⟩ HKY.out)
        have HD2 := Lib.hid (fun W (r : Md) (hw : L2 w gm gr c r s (i + 1) [(gc, [.int .i64 r1, .bool r2, .int .u64 r3, .int .u64 r4, .int .i64 r5]), (gb, dc ⟨t, ⟨k, a, b, c2, d2, e2, f2⟩, true, y, ⟨er, fd, ke, va, cn⟩⟩)] W) => acc_L2r hw (by have := HI9.out; omega) t ⟨k, a, b, c2, d2, e2, f2⟩ HDK.out.1 ⟨r1, r2, r3, r4, r5⟩ HKY.out)
        have HOK2 := Lib.hid (show (acceptM s t ⟨k, a, b, c2, d2, e2, f2⟩ ⟨r1, r2, r3, r4, r5⟩).2.Ok (i + 1) from acceptM_ok HL.out.ok1 t HDK.out.1 HKY.out.1)
        have HLEN := Lib.hid (acc_len s t ⟨k, a, b, c2, d2, e2, f2⟩ ⟨r1, r2, r3, r4, r5⟩)
        obtain ⟨Q, hQ⟩ : ∃ Q, Q = acceptM s t ⟨k, a, b, c2, d2, e2, f2⟩ ⟨r1, r2, r3, r4, r5⟩ := ⟨_, rfl⟩
        rw [← hQ] at HD1 HD2 HOK2 HLEN
        clear hQ
        obtain ⟨bq, s2⟩ := Q
        unfold opV resV at HD1 HD2
        simp only at HD1 HD2 HOK2 HLEN
        go_region_held3 (fun w' => w'.cell? ⟨gb, 0, none⟩ = some (.int .i64 t) ∧ w'.cell? ⟨gb, 1, none⟩ = some (.int .u8 k) ∧ w'.cell? ⟨gb, 2, none⟩ = some (.int .u64 a) ∧ w'.cell? ⟨gb, 3, none⟩ = some (.int .u64 b) ∧ w'.cell? ⟨gb, 4, none⟩ = some (.int .u64 c2) ∧ w'.cell? ⟨gb, 5, none⟩ = some (.int .u64 d2) ∧ w'.cell? ⟨gb, 6, none⟩ = some (.int .u64 e2) ∧ w'.cell? ⟨gb, 7, none⟩ = some (.int .u64 f2) ∧ w'.cell? ⟨gc, 0, none⟩ = some (.int .i64 r1) ∧ w'.cell? ⟨gc, 1, none⟩ = some (.bool r2) ∧ w'.cell? ⟨gc, 2, none⟩ = some (.int .u64 r3) ∧ w'.cell? ⟨gc, 3, none⟩ = some (.int .u64 r4) ∧ w'.cell? ⟨gc, 4, none⟩ = some (.int .i64 r5)) (first | exact ⟨z0, z1, z2, z3, z4, z5, z6, z7, u0, u1, u2, u3, u4⟩ | exact ⟨cell_nw z0 (Nw.drew (Nw.refl _)), cell_nw z1 (Nw.drew (Nw.refl _)), cell_nw z2 (Nw.drew (Nw.refl _)), cell_nw z3 (Nw.drew (Nw.refl _)), cell_nw z4 (Nw.drew (Nw.refl _)), cell_nw z5 (Nw.drew (Nw.refl _)), cell_nw z6 (Nw.drew (Nw.refl _)), cell_nw z7 (Nw.drew (Nw.refl _)), cell_nw u0 (Nw.drew (Nw.refl _)), cell_nw u1 (Nw.drew (Nw.refl _)), cell_nw u2 (Nw.drew (Nw.refl _)), cell_nw u3 (Nw.drew (Nw.refl _)), cell_nw u4 (Nw.drew (Nw.refl _))⟩ | exact ⟨h8.cells (List.mem_cons_of_mem _ (List.mem_cons_self ..)) (j := 0) rfl, h8.cells (List.mem_cons_of_mem _ (List.mem_cons_self ..)) (j := 1) rfl, h8.cells (List.mem_cons_of_mem _ (List.mem_cons_self ..)) (j := 2) rfl, h8.cells (List.mem_cons_of_mem _ (List.mem_cons_self ..)) (j := 3) rfl, h8.cells (List.mem_cons_of_mem _ (List.mem_cons_self ..)) (j := 4) rfl, h8.cells (List.mem_cons_of_mem _ (List.mem_cons_self ..)) (j := 5) rfl, h8.cells (List.mem_cons_of_mem _ (List.mem_cons_self ..)) (j := 6) rfl, h8.cells (List.mem_cons_of_mem _ (List.mem_cons_self ..)) (j := 7) rfl, h8.cells (List.mem_cons_self ..) (j := 0) rfl, h8.cells (List.mem_cons_self ..) (j := 1) rfl, h8.cells (List.mem_cons_self ..) (j := 2) rfl, h8.cells (List.mem_cons_self ..) (j := 3) rfl, h8.cells (List.mem_cons_self ..) (j := 4) rfl⟩ | exact ⟨h9.cells (List.mem_cons_of_mem _ (List.mem_cons_self ..)) (j := 0) rfl, h9.cells (List.mem_cons_of_mem _ (List.mem_cons_self ..)) (j := 1) rfl, h9.cells (List.mem_cons_of_mem _ (List.mem_cons_self ..)) (j := 2) rfl, h9.cells (List.mem_cons_of_mem _ (List.mem_cons_self ..)) (j := 3) rfl, h9.cells (List.mem_cons_of_mem _ (List.mem_cons_self ..)) (j := 4) rfl, h9.cells (List.mem_cons_of_mem _ (List.mem_cons_self ..)) (j := 5) rfl, h9.cells (List.mem_cons_of_mem _ (List.mem_cons_self ..)) (j := 6) rfl, h9.cells (List.mem_cons_of_mem _ (List.mem_cons_self ..)) (j := 7) rfl, h9.cells (List.mem_cons_self ..) (j := 0) rfl, h9.cells (List.mem_cons_self ..) (j := 1) rfl, h9.cells (List.mem_cons_self ..) (j := 2) rfl, h9.cells (List.mem_cons_self ..) (j := 3) rfl, h9.cells (List.mem_cons_self ..) (j := 4) rfl⟩)
          ((first | (go_at_call 10; refine (HD2.out W8 _ h8).mono ?_; rintro e W9 ⟨rfl, h9⟩) | (go_at_call 9; refine (HD1.out W7.drew (Nw.drew (Nw.refl _))).mono ?_; rintro e W8 ⟨rfl, h8⟩)))
        rename_i hHeld
        clear hHeld
        have h10 : L2 w gm gr c s2 s2 (i + 1) [] W9 := by
          have h11 := h9.drop
          exact ⟨h11.ex, HOK2.out, HOK2.out, h11.nw⟩
        have H10 := Lib.hid h10
        haveI : In gm W9 := ⟨h10.im⟩
        haveI : In gr W9 := ⟨h10.ir⟩
        clear h8 h9 h10 z0 z1 z2 z3 z4 z5 z6 z7 u0 u1 u2 u3 u4
        go_wp2_with fail
        refine (same_L2 H10.out (by have := HI9.out; omega)).mono ?_
        rintro e w9 ⟨rfl, hn9⟩
        have H11 := Lib.hid (H10.out.grow hn9)
        clear hn9
        go_wp2
        exact ⟨⟨i + 1, by have := HIN.out; omega, by go_num, Lib.hid ⟨s2, H11.out, HLEN.out.trans HSN.out⟩⟩, by have := HIN.out; simp [intOf]; omega⟩
    · have i1 : ¬ (i : Int) < (n : Int) := by omega
      have hsl := same_L2 hl (by omega)
      have HSL := Lib.hid hsl
      have HNW := Lib.hid hnw
      clear hsl hl hnw hsn HC hi hin
      go_wp2_with fail
      refine HSL.out.mono ?_
      rintro e w9 ⟨rfl, hn9⟩
      have HN9 := Lib.hid (HNW.out.trans hn9)
      clear hn9
      go_wp2
      go_ret
      exact ⟨rfl, HN9.out⟩
/-- The law. -/
theorem does_M (c : Cf) (cuts : List Nat) (A : Option Addr) (n cap : Nat) (ds : List Dd) (w : World) (h : Rd w 1 c.cA cuts.length (nums cuts)) (hcn : c.cn = cuts.length) (hcr : 0 ≤ c.eng ∧ c.eng < 256) (hd : Rd w 15 A n (dcells ds)) (hok : ∀ d ∈ ds, DdOk d) :
    Calls Tryz.prog 3 #[confV c, .slice A n cap] w fun e w' => e = .returned (.bool true) ∧ Nw w w' := by
  cases hs : (decide (n ≤ 80) && decide (c.cn ≤ 70)) with
  | false => exact does_long c A n cap w hs
  | true =>
    rcases chk_two c cuts with hc | hc
    · exact does_good c cuts A n cap ds w h hcn hcr hs hc hd hok
    · exact does_bad c cuts A n cap w h hcn hcr hs hc
end Go.Proofs.YtahagplegmcaaaaGreat
