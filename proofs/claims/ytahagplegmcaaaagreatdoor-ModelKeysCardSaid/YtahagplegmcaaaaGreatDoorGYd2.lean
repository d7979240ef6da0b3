import Derived.Test.YtahagplegmcaaaaGreatDoorGYb
set_option linter.unusedVariables false
set_option linter.unusedSimpArgs false
set_option linter.unnecessarySimpa false
namespace Go.Proofs.YtahagplegmcaaaaGreatDoor
open Go.RowKit Go.Xt
/-! The law ModelKeys. -/
set_option maxRecDepth 20000 in
set_option maxHeartbeats 64000000 in
theorem keys_same (c d : Cf) (cc cd : List Nat) (A B : Option Addr) (n m ca cb : Nat) (ds es : List Dd) (w : World) (hc : Rd w 1 c.cA cc.length (nums cc)) (hcn : c.cn = cc.length) (hcr : 0 ≤ c.eng ∧ c.eng < 256) (hd : Rd w 1 d.cA cd.length (nums cd)) (hdn : d.cn = cd.length) (hdr : 0 ≤ d.eng ∧ d.eng < 256) (hA : Rd w 15 A n (dcells ds)) (hB : Rd w 15 B m (dcells es)) (hoA : ∀ x ∈ ds, DdOk x) (hoB : ∀ x ∈ es, DdOk x) (HF : FmtAt w) (h1 : (decide (n ≤ 80) && decide (c.cn ≤ 70)) = true) (h2 : (decide (m ≤ 80) && decide (d.cn ≤ 70)) = true) :
    Calls Tryz.prog 3 #[confV c, confV d, .agg #[.slice A n ca, .slice B m cb, .bool true]] w fun e w' => e = .returned (.bool true) ∧ Nw w w' := by
  have HNM := Lib.hid (show n ≤ 80 ∧ m ≤ 80 by simp at h1 h2; exact ⟨h1.1, h2.1⟩)
  have HC := Lib.hid (And.intro hc (And.intro hcn hcr))
  have HD := Lib.hid (And.intro hd (And.intro hdn hdr))
  have HA0 := Lib.hid hA
  have HB0 := Lib.hid hB
  have HOA := Lib.hid hoA
  have HOB := Lib.hid hoB
  have HFM := Lib.hid HF
  clear hc hcn hcr hd hdn hdr hA hB hoA hoB HF
  have HS1 := Lib.hid (fun W => short_any c A n ca W)
  have HS2 := Lib.hid (fun W => short_any d B m cb W)
  rw [h1] at HS1
  rw [h2] at HS2
  have HKN := Lib.hid (fun W => known_M W)
  unfold confV at HS1 HS2 ⊢
  obtain ⟨q, hq⟩ : ∃ q, q = w.heap.size := ⟨_, rfl⟩
  obtain ⟨W1, hW1⟩ : ∃ W, W = ((w.alloc (cellsOf c 27)).alloc (cellsOf d 27)).alloc (.cells #[.slice A n ca, .slice B m cb, .bool true] 30) := ⟨_, rfl⟩
  have hn1 : Nw w W1 := by rw [hW1]; exact (((Nw.refl w).alloc _).alloc _).alloc _
  obtain ⟨k1, k2, k3, k4⟩ := boxes3 hW1
  rw [← hq] at k1 k2 k3 k4
  have HK1 := Lib.hid (fun W (hW : Nw W1 W) => (⟨k1.nw hW, k2.nw hW, cell_nw (by rw [Lib.cell_of_heap k4]; rfl) hW, cell_nw (by rw [Lib.cell_of_heap k4]; rfl) hW, cell_nw (by rw [Lib.cell_of_heap k4]; rfl) hW, k3.nw hW⟩ : ConfAt W q c ∧ ConfAt W (q + 1) d ∧ W.cell? ⟨q + 1 + 1, 0, none⟩ = some (.slice A n ca) ∧ W.cell? ⟨q + 1 + 1, 1, none⟩ = some (.slice B m cb) ∧ W.cell? ⟨q + 1 + 1, 2, none⟩ = some (.bool true) ∧ ConfTo W (q + 1)))
  unfold cellsOf at hW1
  have HW1 := Lib.hid hW1
  have HQ := Lib.hid hq
  have HN1 := Lib.hid hn1
  obtain ⟨i1, i2, i3, i4, i5, -⟩ := HK1.out W1 (Nw.refl _)
  haveI := i1
  haveI := i2
  haveI : In q W1 := ⟨i1.lt⟩
  haveI : In (q + 1) W1 := ⟨i2.lt⟩
  haveI : In (q + 1 + 1) W1 := ⟨World.block_lt_of_cell? _ _ i3⟩
  clear k1 k2 k3 k4 hq hW1 hn1 h1 h2
  go_enter Tryz.func3, Tryz.ntmps3
  go_upto_region 1 with (fail)
  rw [← HW1.out, ← HQ.out]
  go_wp2_with fail
  refine (HS1.out _).mono ?_
  rintro e Wa ⟨rfl, hna⟩
  clear i1 i2 i3 i4 i5
  obtain ⟨i1, i2, i3, i4, i5, i6⟩ := HK1.out Wa (hna)
  haveI := i1
  haveI := i2
  haveI : In q Wa := ⟨i1.lt⟩
  haveI : In (q + 1) Wa := ⟨i2.lt⟩
  haveI : In (q + 1 + 1) Wa := ⟨World.block_lt_of_cell? _ _ i3⟩
  go_wp2_with fail
  refine (HS2.out _).mono ?_
  rintro e Wb ⟨rfl, hnb⟩
  have hnb := hna.trans hnb
  clear i1 i2 i3 i4 i5 i6
  obtain ⟨i1, i2, i3, i4, i5, i6⟩ := HK1.out Wb (hnb)
  haveI := i1
  haveI := i2
  haveI : In q Wb := ⟨i1.lt⟩
  haveI : In (q + 1) Wb := ⟨i2.lt⟩
  haveI : In (q + 1 + 1) Wb := ⟨World.block_lt_of_cell? _ _ i3⟩
  haveI := i6
  go_upto_region 5 with (fail)
  obtain ⟨W5, hW5a⟩ : ∃ W, W = Wb.setCells (q + 1) 0 (ccells ⟨c.thr, c.sl, c.eng, c.bk, c.dk, c.dn, c.cA, c.cn, c.cc, c.t1, c.t2, c.t3, c.t4, c.t5, c.t6, c.lk, c.tr, c.ba⟩) := ⟨_, rfl⟩
  rw [← hW5a]
  have hW5 : W5 = Wb.setCells (q + 1) 0 (ccells c) := hW5a
  have hch : Chg [q + 1] Wb W5 := by rw [hW5]; exact Chg.setsK _ _ _ _
  obtain ⟨dq, hdq⟩ : ∃ x, x = c := ⟨_, rfl⟩
  obtain ⟨cdq, hcdq⟩ : ∃ x, x = cc := ⟨_, rfl⟩
  have HDq : Hid (Rd w 1 dq.cA cdq.length (nums cdq) ∧ dq.cn = cdq.length ∧ 0 ≤ dq.eng ∧ dq.eng < 256) := by rw [hdq, hcdq]; exact HC
  have k2 : ConfAt W5 (q + 1) dq := by rw [hW5, hdq]; exact i6.put c
  have k1 : ConfAt W5 q c := i1.chg hch (by simp)
  have k3 := hch.cell i3 (by simp)
  have k4 := hch.cell i4 (by simp)
  have hn5 : Nw w W5 := nw_chg2 (HN1.out.trans hnb) hch (fun k hk => by simp at hk; have := HQ.out; omega)
  clear hW5 hW5a hch hdq hcdq HD
  have HK5 := Lib.hid (fun W (hW : Nw W5 W) => (⟨k1.nw hW, k2.nw hW, cell_nw k3 hW, cell_nw k4 hW⟩ : ConfAt W q c ∧ ConfAt W (q + 1) dq ∧ W.cell? ⟨q + 1 + 1, 0, none⟩ = some (.slice A n ca) ∧ W.cell? ⟨q + 1 + 1, 1, none⟩ = some (.slice B m cb)))
  have HN5 := Lib.hid hn5
  have HA := Lib.hid (HA0.out.nw hn5)
  have HB := Lib.hid (HB0.out.nw hn5)
  clear hn5 hnb hna i5 i6 HK1 HS1 HS2 HA0 HB0 k1 k2 k3 k4
  clear i1 i2 i3 i4
  obtain ⟨i1, i2, i3, i4⟩ := HK5.out W5 (Nw.refl _)
  haveI := i1
  haveI := i2
  haveI : In q W5 := ⟨i1.lt⟩
  haveI : In (q + 1) W5 := ⟨i2.lt⟩
  haveI : In (q + 1 + 1) W5 := ⟨World.block_lt_of_cell? _ _ i3⟩
  rcases chk_two c cc with hcc | hcc
  · rcases chk_two dq cdq with hdd | hdd
    · obtain ⟨th1, th2⟩ := cf_thr hcc
      obtain ⟨n1, hn1⟩ : ∃ z : Nat, c.thr = z := ⟨c.thr.toNat, by omega⟩
      obtain ⟨th3, th4⟩ := cf_thr hdd
      obtain ⟨n2, hn2⟩ : ∃ z : Nat, dq.thr = z := ⟨dq.thr.toNat, by omega⟩
      have HM1 := Lib.hid (fun W (hw : Nw w W) => new_yes c cc n1 W (HC.out.1.nw hw) HC.out.2.1 HC.out.2.2 hcc hn1 (by omega))
      have HM2 := Lib.hid (fun W (hw : Nw w W) => new_yes dq cdq n2 W (HDq.out.1.nw hw) HDq.out.2.1 HDq.out.2.2 hdd hn2 (by omega))
      have HR1 := Lib.hid (fun W (hw : Nw w W) => rnew_yes c cc n1 W (HC.out.1.nw hw) HC.out.2.1 HC.out.2.2 hcc hn1 (by omega))
      have HR2 := Lib.hid (fun W (hw : Nw w W) => rnew_yes dq cdq n2 W (HDq.out.1.nw hw) HDq.out.2.1 HDq.out.2.2 hdd hn2 (by omega))
      have HSL1 := Lib.hid (And.intro (cf_sl hcc) (show 1 ≤ n1 ∧ n1 ≤ 64 by omega))
      have HSL2 := Lib.hid (And.intro (cf_sl hdd) (show 1 ≤ n2 ∧ n2 ≤ 64 by omega))
      unfold confV at HM1 HM2 HR1 HR2
      clear hcc hdd hn1 hn2 th1 th2 th3 th4
      go_wp2_with fail
      refine (HM1.out W5 (HN5.out.trans (Nw.refl W5))).mono ?_
      rintro e Y0 ⟨P0, rfl, hm0, hf0, hn0⟩
      have L0 : Lg W5 [⟨P0.gm, none, ⟨c.sl, [], List.replicate n1 Th0⟩, 0⟩] Y0 := Lg.addM (Lg.nil (Nw.refl W5)) hn0 hm0 hf0 HSL1.out.1 HSL1.out.2
      have N0 : Nw W5 Y0 := L0.nw
      clear hm0 hf0 hn0
      clear i1 i2 i3 i4
      obtain ⟨i1, i2, i3, i4⟩ := HK5.out Y0 (N0)
      haveI := i1
      haveI := i2
      haveI : In q Y0 := ⟨i1.lt⟩
      haveI : In (q + 1) Y0 := ⟨i2.lt⟩
      haveI : In (q + 1 + 1) Y0 := ⟨World.block_lt_of_cell? _ _ i3⟩
      go_wp2_with fail
      refine (HM2.out Y0 (HN5.out.trans N0)).mono ?_
      rintro e Y1 ⟨P1, rfl, hm1, hf1, hn1⟩
      have L1 : Lg W5 [⟨P0.gm, none, ⟨c.sl, [], List.replicate n1 Th0⟩, 0⟩, ⟨P1.gm, none, ⟨dq.sl, [], List.replicate n2 Th0⟩, 0⟩] Y1 := Lg.addM L0 hn1 hm1 hf1 HSL2.out.1 HSL2.out.2
      have N1 : Nw W5 Y1 := L1.nw
      clear hm1 hf1 hn1
      clear i1 i2 i3 i4
      obtain ⟨i1, i2, i3, i4⟩ := HK5.out Y1 (N1)
      haveI := i1
      haveI := i2
      haveI : In q Y1 := ⟨i1.lt⟩
      haveI : In (q + 1) Y1 := ⟨i2.lt⟩
      haveI : In (q + 1 + 1) Y1 := ⟨World.block_lt_of_cell? _ _ i3⟩
      go_wp2_with fail
      refine (HR1.out Y1 (HN5.out.trans N1)).mono ?_
      rintro e Y2 ⟨P2, rfl, hm2, hf2, hn2⟩
      have L2 : Lg W5 [⟨P0.gm, none, ⟨c.sl, [], List.replicate n1 Th0⟩, 0⟩, ⟨P1.gm, none, ⟨dq.sl, [], List.replicate n2 Th0⟩, 0⟩, ⟨P2.gm, some c, ⟨c.sl, [], List.replicate n1 Th0⟩, 0⟩] Y2 := Lg.addR L1 hn2 hm2 hf2 HSL1.out.1 HSL1.out.2
      have N2 : Nw W5 Y2 := L2.nw
      clear hm2 hf2 hn2
      clear i1 i2 i3 i4
      obtain ⟨i1, i2, i3, i4⟩ := HK5.out Y2 (N2)
      haveI := i1
      haveI := i2
      haveI : In q Y2 := ⟨i1.lt⟩
      haveI : In (q + 1) Y2 := ⟨i2.lt⟩
      haveI : In (q + 1 + 1) Y2 := ⟨World.block_lt_of_cell? _ _ i3⟩
      go_wp2_with fail
      refine (HR2.out Y2 (HN5.out.trans N2)).mono ?_
      rintro e Y3 ⟨P3, rfl, hm3, hf3, hn3⟩
      have L3 : Lg W5 [⟨P0.gm, none, ⟨c.sl, [], List.replicate n1 Th0⟩, 0⟩, ⟨P1.gm, none, ⟨dq.sl, [], List.replicate n2 Th0⟩, 0⟩, ⟨P2.gm, some c, ⟨c.sl, [], List.replicate n1 Th0⟩, 0⟩, ⟨P3.gm, some dq, ⟨dq.sl, [], List.replicate n2 Th0⟩, 0⟩] Y3 := Lg.addR L2 hn3 hm3 hf3 HSL2.out.1 HSL2.out.2
      have N3 : Nw W5 Y3 := L3.nw
      clear hm3 hf3 hn3
      clear i1 i2 i3 i4
      obtain ⟨i1, i2, i3, i4⟩ := HK5.out Y3 (N3)
      haveI := i1
      haveI := i2
      haveI : In q Y3 := ⟨i1.lt⟩
      haveI : In (q + 1) Y3 := ⟨i2.lt⟩
      haveI : In (q + 1 + 1) Y3 := ⟨World.block_lt_of_cell? _ _ i3⟩
      obtain ⟨gm, hgm⟩ : ∃ g, g = P0.gm := ⟨_, rfl⟩
      obtain ⟨gn, hgn⟩ : ∃ g, g = P1.gm := ⟨_, rfl⟩
      obtain ⟨gr, hgr⟩ : ∃ g, g = P2.gm := ⟨_, rfl⟩
      obtain ⟨gs, hgs⟩ : ∃ g, g = P3.gm := ⟨_, rfl⟩
      rw [← hgm, ← hgn, ← hgr, ← hgs] at L3
      rw [← hgm, ← hgn, ← hgr, ← hgs]
      obtain ⟨s0, hs0⟩ : ∃ s, s = (⟨c.sl, [], List.replicate n1 Th0⟩ : Md) := ⟨_, rfl⟩
      obtain ⟨t0, ht0⟩ : ∃ s, s = (⟨dq.sl, [], List.replicate n2 Th0⟩ : Md) := ⟨_, rfl⟩
      rw [← hs0, ← ht0] at L3
      have H4 := Lib.hid L3
      clear L0 L1 L2 L3 N0 N1 N2 N3 hgm hgn hgr hgs hs0 ht0 HM1 HM2 HR1 HR2 HSL1 HSL2
      go_wp2
      go_loopw [15] (fun a wr => ∃ i : Nat, i ≤ n ∧ a = .int .i64 i ∧ Hid (∃ s : Md, Lg W5 [⟨gm, none, s, i⟩, ⟨gn, none, t0, 0⟩, ⟨gr, some c, s, i⟩, ⟨gs, some dq, t0, 0⟩] wr)) (fun a _ => n - (intOf a).toNat)
      case atStart => exact ⟨0, Nat.zero_le _, rfl, Lib.hid ⟨_, H4.out⟩⟩
      case round =>
        obtain ⟨i, hi, rfl, HE⟩ := hrel
        obtain ⟨s1, hl⟩ := HE.out
        have HL1 := Lib.hid hl
        have nw := hl.nw
        clear i1 i2 i3 i4
        obtain ⟨i1, i2, i3, i4⟩ := HK5.out wr (nw)
        haveI := i1
        haveI := i2
        haveI : In q wr := ⟨i1.lt⟩
        haveI : In (q + 1) wr := ⟨i2.lt⟩
        haveI : In (q + 1 + 1) wr := ⟨World.block_lt_of_cell? _ _ i3⟩
        by_cases hin : i < n
        · obtain ⟨g, o9, rfl, hg, hcl⟩ := HA.out.2 (by omega)
          obtain ⟨x, hx⟩ : ∃ x, ds[i]? = some x := ⟨_, List.getElem?_eq_getElem (by have := HA.out.1; rw [dcells_len] at this; omega)⟩
          have hok := (HOA.out x (List.mem_of_getElem? hx)).1
          obtain ⟨t9, ⟨k, a, b, c2, d2, e2, f2⟩, j9, y9, r9⟩ := x
          have x0 : W5.cell? ⟨g, o9 + i * 15, none⟩ = some (.int .i64 t9) := by have := hcl _ _ (dcells_get ds i _ hx 0 _ rfl); rwa [Nat.add_zero] at this
          have x1 : W5.cell? ⟨g, o9 + i * 15 + 1, none⟩ = some (.int .u8 k) := by have := hcl _ _ (dcells_get ds i _ hx 1 _ rfl); rwa [← Nat.add_assoc] at this
          have x2 : W5.cell? ⟨g, o9 + i * 15 + 2, none⟩ = some (.int .u64 a) := by have := hcl _ _ (dcells_get ds i _ hx 2 _ rfl); rwa [← Nat.add_assoc] at this
          have x3 : W5.cell? ⟨g, o9 + i * 15 + 3, none⟩ = some (.int .u64 b) := by have := hcl _ _ (dcells_get ds i _ hx 3 _ rfl); rwa [← Nat.add_assoc] at this
          have x4 : W5.cell? ⟨g, o9 + i * 15 + 4, none⟩ = some (.int .u64 c2) := by have := hcl _ _ (dcells_get ds i _ hx 4 _ rfl); rwa [← Nat.add_assoc] at this
          have x5 : W5.cell? ⟨g, o9 + i * 15 + 5, none⟩ = some (.int .u64 d2) := by have := hcl _ _ (dcells_get ds i _ hx 5 _ rfl); rwa [← Nat.add_assoc] at this
          have x6 : W5.cell? ⟨g, o9 + i * 15 + 6, none⟩ = some (.int .u64 e2) := by have := hcl _ _ (dcells_get ds i _ hx 6 _ rfl); rwa [← Nat.add_assoc] at this
          have x7 : W5.cell? ⟨g, o9 + i * 15 + 7, none⟩ = some (.int .u64 f2) := by have := hcl _ _ (dcells_get ds i _ hx 7 _ rfl); rwa [← Nat.add_assoc] at this
          have HKS := Lib.hid (fun W (hW : Nw W5 W) => (⟨(HK5.out W hW).2.2.1, cell_nw x0 hW, cell_nw x1 hW, cell_nw x2 hW, cell_nw x3 hW, cell_nw x4 hW, cell_nw x5 hW, cell_nw x6 hW, cell_nw x7 hW⟩ : W.cell? ⟨q + 1 + 1, 0, none⟩ = some (.slice (some ⟨g, o9, none⟩) n ca) ∧ W.cell? ⟨g, o9 + i * 15, none⟩ = some (.int .i64 t9) ∧ W.cell? ⟨g, o9 + i * 15 + 1, none⟩ = some (.int .u8 k) ∧ W.cell? ⟨g, o9 + i * 15 + 2, none⟩ = some (.int .u64 a) ∧ W.cell? ⟨g, o9 + i * 15 + 3, none⟩ = some (.int .u64 b) ∧ W.cell? ⟨g, o9 + i * 15 + 4, none⟩ = some (.int .u64 c2) ∧ W.cell? ⟨g, o9 + i * 15 + 5, none⟩ = some (.int .u64 d2) ∧ W.cell? ⟨g, o9 + i * 15 + 6, none⟩ = some (.int .u64 e2) ∧ W.cell? ⟨g, o9 + i * 15 + 7, none⟩ = some (.int .u64 f2)))
          haveI : In g wr := ⟨Nat.lt_of_lt_of_le hg nw.grown.size⟩
          have j1 : (i : Int) < (n : Int) := by omega
          have j2 : i < 1000 := by have := HNM.out; omega
          have HIN := Lib.hid hin
          have HOK := Lib.hid hok
          clear hx hcl hok hin hi HE hl x0 x1 x2 x3 x4 x5 x6 x7
          obtain ⟨Q, hQ⟩ : ∃ Q, Q = doM s1 t9 ⟨k, a, b, c2, d2, e2, f2⟩ := ⟨_, rfl⟩
          have hD1 := fun W (s' : Md) (h : Lg W5 [⟨gm, none, s1, i⟩, ⟨gn, none, t0, 0⟩, ⟨gr, some c, s1, i⟩, ⟨gs, some dq, t0, 0⟩] W) => do_Lm (i := 0) h rfl (by have := HNM.out; have := HIN.out; omega) t9 ⟨k, a, b, c2, d2, e2, f2⟩ HOK.out
          have hD2 := fun W (s' : Md) (h : Lg W5 [⟨gm, none, s', i + 1⟩, ⟨gn, none, t0, 0⟩, ⟨gr, some c, s1, i⟩, ⟨gs, some dq, t0, 0⟩] W) => do_Lr (i := 2) h rfl (by have := HNM.out; have := HIN.out; omega) t9 ⟨k, a, b, c2, d2, e2, f2⟩ HOK.out
          rw [← hQ] at hD1 hD2
          clear hQ
          obtain ⟨rr, s9⟩ := Q
          unfold opV resV at hD1 hD2
          simp only [List.set_cons_zero, List.set_cons_succ] at hD1 hD2
          have HD1 := Lib.hid hD1
          have HD2 := Lib.hid hD2
          clear hD1 hD2
          go_upto_region 16 with (fail)
          go_region_held3 (fun W => W.cell? ⟨q + 1 + 1, 0, none⟩ = some (.slice (some ⟨g, o9, none⟩) n ca) ∧ W.cell? ⟨g, o9 + i * 15, none⟩ = some (.int .i64 t9) ∧ W.cell? ⟨g, o9 + i * 15 + 1, none⟩ = some (.int .u8 k) ∧ W.cell? ⟨g, o9 + i * 15 + 2, none⟩ = some (.int .u64 a) ∧ W.cell? ⟨g, o9 + i * 15 + 3, none⟩ = some (.int .u64 b) ∧ W.cell? ⟨g, o9 + i * 15 + 4, none⟩ = some (.int .u64 c2) ∧ W.cell? ⟨g, o9 + i * 15 + 5, none⟩ = some (.int .u64 d2) ∧ W.cell? ⟨g, o9 + i * 15 + 6, none⟩ = some (.int .u64 e2) ∧ W.cell? ⟨g, o9 + i * 15 + 7, none⟩ = some (.int .u64 f2)) (first | exact HKS.out _ v1.nw | exact HKS.out _ nw | exact HKS.out _ (Nw.drew nw))
            ((go_at_call 8; refine (HD1.out _ s9 (Lg.grow HL1.out (Nw.drew (Nw.refl _)))).mono ?_; rintro e V1 ⟨rfl, v1⟩))
          rename_i hHeld
          clear hHeld
          have m1 := v1.nw
          clear i1 i2 i3 i4
          obtain ⟨i1, i2, i3, i4⟩ := HK5.out V1 (m1)
          haveI := i1
          haveI := i2
          haveI : In q V1 := ⟨i1.lt⟩
          haveI : In (q + 1) V1 := ⟨i2.lt⟩
          haveI : In (q + 1 + 1) V1 := ⟨World.block_lt_of_cell? _ _ i3⟩
          haveI : In g V1 := ⟨Nat.lt_of_lt_of_le hg m1.grown.size⟩
          go_upto_region 17 with (fail)
          go_region_held3 (fun W => W.cell? ⟨q + 1 + 1, 0, none⟩ = some (.slice (some ⟨g, o9, none⟩) n ca) ∧ W.cell? ⟨g, o9 + i * 15, none⟩ = some (.int .i64 t9) ∧ W.cell? ⟨g, o9 + i * 15 + 1, none⟩ = some (.int .u8 k) ∧ W.cell? ⟨g, o9 + i * 15 + 2, none⟩ = some (.int .u64 a) ∧ W.cell? ⟨g, o9 + i * 15 + 3, none⟩ = some (.int .u64 b) ∧ W.cell? ⟨g, o9 + i * 15 + 4, none⟩ = some (.int .u64 c2) ∧ W.cell? ⟨g, o9 + i * 15 + 5, none⟩ = some (.int .u64 d2) ∧ W.cell? ⟨g, o9 + i * 15 + 6, none⟩ = some (.int .u64 e2) ∧ W.cell? ⟨g, o9 + i * 15 + 7, none⟩ = some (.int .u64 f2)) (first | exact HKS.out _ v2.nw | exact HKS.out _ m1 | exact HKS.out _ (Nw.drew m1))
            ((go_at_call 9; refine (HD2.out _ s9 (Lg.grow v1 (Nw.drew (Nw.refl _)))).mono ?_; rintro e V2 ⟨rfl, v2⟩))
          rename_i hHeld
          clear hHeld
          have m2 := v2.nw
          clear i1 i2 i3 i4
          obtain ⟨i1, i2, i3, i4⟩ := HK5.out V2 (m2)
          haveI := i1
          haveI := i2
          haveI : In q V2 := ⟨i1.lt⟩
          haveI : In (q + 1) V2 := ⟨i2.lt⟩
          haveI : In (q + 1 + 1) V2 := ⟨World.block_lt_of_cell? _ _ i3⟩
          haveI : In g V2 := ⟨Nat.lt_of_lt_of_le hg m2.grown.size⟩
          have HV := Lib.hid v2
          clear v1 v2 m1 m2 nw
          go_wp2
          exact ⟨⟨i + 1, by have := HIN.out; omega, by go_num, Lib.hid ⟨s9, HV.out⟩⟩, by have := HIN.out; simp [intOf]; omega⟩
        · have j1 : ¬ (i : Int) < (n : Int) := by omega
          have hin : n = i := by omega
          subst hin
          clear hi HE hl nw
          go_wp2
          go_loopw [16] (fun a wr => ∃ i : Nat, i ≤ m ∧ a = .int .i64 i ∧ Hid (∃ s : Md, Lg W5 [⟨gm, none, s1, n⟩, ⟨gn, none, s, i⟩, ⟨gr, some c, s1, n⟩, ⟨gs, some dq, s, i⟩] wr)) (fun a _ => m - (intOf a).toNat)
          case atStart => exact ⟨0, Nat.zero_le _, rfl, Lib.hid ⟨_, HL1.out⟩⟩
          case round =>
            obtain ⟨i, hi, rfl, HE⟩ := hrel
            obtain ⟨t1, hl⟩ := HE.out
            have HL2 := Lib.hid hl
            have nw := hl.nw
            clear i1 i2 i3 i4
            obtain ⟨i1, i2, i3, i4⟩ := HK5.out wr (nw)
            haveI := i1
            haveI := i2
            haveI : In q wr := ⟨i1.lt⟩
            haveI : In (q + 1) wr := ⟨i2.lt⟩
            haveI : In (q + 1 + 1) wr := ⟨World.block_lt_of_cell? _ _ i3⟩
            by_cases hin : i < m
            · obtain ⟨g, o9, rfl, hg, hcl⟩ := HB.out.2 (by omega)
              obtain ⟨x, hx⟩ : ∃ x, es[i]? = some x := ⟨_, List.getElem?_eq_getElem (by have := HB.out.1; rw [dcells_len] at this; omega)⟩
              have hok := (HOB.out x (List.mem_of_getElem? hx)).1
              obtain ⟨t9, ⟨k, a, b, c2, d2, e2, f2⟩, j9, y9, r9⟩ := x
              have x0 : W5.cell? ⟨g, o9 + i * 15, none⟩ = some (.int .i64 t9) := by have := hcl _ _ (dcells_get es i _ hx 0 _ rfl); rwa [Nat.add_zero] at this
              have x1 : W5.cell? ⟨g, o9 + i * 15 + 1, none⟩ = some (.int .u8 k) := by have := hcl _ _ (dcells_get es i _ hx 1 _ rfl); rwa [← Nat.add_assoc] at this
              have x2 : W5.cell? ⟨g, o9 + i * 15 + 2, none⟩ = some (.int .u64 a) := by have := hcl _ _ (dcells_get es i _ hx 2 _ rfl); rwa [← Nat.add_assoc] at this
              have x3 : W5.cell? ⟨g, o9 + i * 15 + 3, none⟩ = some (.int .u64 b) := by have := hcl _ _ (dcells_get es i _ hx 3 _ rfl); rwa [← Nat.add_assoc] at this
              have x4 : W5.cell? ⟨g, o9 + i * 15 + 4, none⟩ = some (.int .u64 c2) := by have := hcl _ _ (dcells_get es i _ hx 4 _ rfl); rwa [← Nat.add_assoc] at this
              have x5 : W5.cell? ⟨g, o9 + i * 15 + 5, none⟩ = some (.int .u64 d2) := by have := hcl _ _ (dcells_get es i _ hx 5 _ rfl); rwa [← Nat.add_assoc] at this
              have x6 : W5.cell? ⟨g, o9 + i * 15 + 6, none⟩ = some (.int .u64 e2) := by have := hcl _ _ (dcells_get es i _ hx 6 _ rfl); rwa [← Nat.add_assoc] at this
              have x7 : W5.cell? ⟨g, o9 + i * 15 + 7, none⟩ = some (.int .u64 f2) := by have := hcl _ _ (dcells_get es i _ hx 7 _ rfl); rwa [← Nat.add_assoc] at this
              have HKS := Lib.hid (fun W (hW : Nw W5 W) => (⟨(HK5.out W hW).2.2.2, cell_nw x0 hW, cell_nw x1 hW, cell_nw x2 hW, cell_nw x3 hW, cell_nw x4 hW, cell_nw x5 hW, cell_nw x6 hW, cell_nw x7 hW⟩ : W.cell? ⟨q + 1 + 1, 1, none⟩ = some (.slice (some ⟨g, o9, none⟩) m cb) ∧ W.cell? ⟨g, o9 + i * 15, none⟩ = some (.int .i64 t9) ∧ W.cell? ⟨g, o9 + i * 15 + 1, none⟩ = some (.int .u8 k) ∧ W.cell? ⟨g, o9 + i * 15 + 2, none⟩ = some (.int .u64 a) ∧ W.cell? ⟨g, o9 + i * 15 + 3, none⟩ = some (.int .u64 b) ∧ W.cell? ⟨g, o9 + i * 15 + 4, none⟩ = some (.int .u64 c2) ∧ W.cell? ⟨g, o9 + i * 15 + 5, none⟩ = some (.int .u64 d2) ∧ W.cell? ⟨g, o9 + i * 15 + 6, none⟩ = some (.int .u64 e2) ∧ W.cell? ⟨g, o9 + i * 15 + 7, none⟩ = some (.int .u64 f2)))
              haveI : In g wr := ⟨Nat.lt_of_lt_of_le hg nw.grown.size⟩
              have j1 : (i : Int) < (m : Int) := by omega
              have j2 : i < 1000 := by have := HNM.out; omega
              have HIN := Lib.hid hin
              have HOK := Lib.hid hok
              clear hx hcl hok hin hi HE hl x0 x1 x2 x3 x4 x5 x6 x7
              obtain ⟨Q, hQ⟩ : ∃ Q, Q = doM t1 t9 ⟨k, a, b, c2, d2, e2, f2⟩ := ⟨_, rfl⟩
              have hD1 := fun W (s' : Md) (h : Lg W5 [⟨gm, none, s1, n⟩, ⟨gn, none, t1, i⟩, ⟨gr, some c, s1, n⟩, ⟨gs, some dq, t1, i⟩] W) => do_Lm (i := 1) h rfl (by have := HNM.out; have := HIN.out; omega) t9 ⟨k, a, b, c2, d2, e2, f2⟩ HOK.out
              have hD2 := fun W (s' : Md) (h : Lg W5 [⟨gm, none, s1, n⟩, ⟨gn, none, s', i + 1⟩, ⟨gr, some c, s1, n⟩, ⟨gs, some dq, t1, i⟩] W) => do_Lr (i := 3) h rfl (by have := HNM.out; have := HIN.out; omega) t9 ⟨k, a, b, c2, d2, e2, f2⟩ HOK.out
              rw [← hQ] at hD1 hD2
              clear hQ
              obtain ⟨rr, s9⟩ := Q
              unfold opV resV at hD1 hD2
              simp only [List.set_cons_zero, List.set_cons_succ] at hD1 hD2
              have HD1 := Lib.hid hD1
              have HD2 := Lib.hid hD2
              clear hD1 hD2
              go_upto_region 21 with (fail)
              go_region_held3 (fun W => W.cell? ⟨q + 1 + 1, 1, none⟩ = some (.slice (some ⟨g, o9, none⟩) m cb) ∧ W.cell? ⟨g, o9 + i * 15, none⟩ = some (.int .i64 t9) ∧ W.cell? ⟨g, o9 + i * 15 + 1, none⟩ = some (.int .u8 k) ∧ W.cell? ⟨g, o9 + i * 15 + 2, none⟩ = some (.int .u64 a) ∧ W.cell? ⟨g, o9 + i * 15 + 3, none⟩ = some (.int .u64 b) ∧ W.cell? ⟨g, o9 + i * 15 + 4, none⟩ = some (.int .u64 c2) ∧ W.cell? ⟨g, o9 + i * 15 + 5, none⟩ = some (.int .u64 d2) ∧ W.cell? ⟨g, o9 + i * 15 + 6, none⟩ = some (.int .u64 e2) ∧ W.cell? ⟨g, o9 + i * 15 + 7, none⟩ = some (.int .u64 f2)) (first | exact HKS.out _ v1.nw | exact HKS.out _ nw | exact HKS.out _ (Nw.drew nw))
                ((go_at_call 8; refine (HD1.out _ s9 (Lg.grow HL2.out (Nw.drew (Nw.refl _)))).mono ?_; rintro e V1 ⟨rfl, v1⟩))
              rename_i hHeld
              clear hHeld
              have m1 := v1.nw
              clear i1 i2 i3 i4
              obtain ⟨i1, i2, i3, i4⟩ := HK5.out V1 (m1)
              haveI := i1
              haveI := i2
              haveI : In q V1 := ⟨i1.lt⟩
              haveI : In (q + 1) V1 := ⟨i2.lt⟩
              haveI : In (q + 1 + 1) V1 := ⟨World.block_lt_of_cell? _ _ i3⟩
              haveI : In g V1 := ⟨Nat.lt_of_lt_of_le hg m1.grown.size⟩
              go_upto_region 22 with (fail)
              go_region_held3 (fun W => W.cell? ⟨q + 1 + 1, 1, none⟩ = some (.slice (some ⟨g, o9, none⟩) m cb) ∧ W.cell? ⟨g, o9 + i * 15, none⟩ = some (.int .i64 t9) ∧ W.cell? ⟨g, o9 + i * 15 + 1, none⟩ = some (.int .u8 k) ∧ W.cell? ⟨g, o9 + i * 15 + 2, none⟩ = some (.int .u64 a) ∧ W.cell? ⟨g, o9 + i * 15 + 3, none⟩ = some (.int .u64 b) ∧ W.cell? ⟨g, o9 + i * 15 + 4, none⟩ = some (.int .u64 c2) ∧ W.cell? ⟨g, o9 + i * 15 + 5, none⟩ = some (.int .u64 d2) ∧ W.cell? ⟨g, o9 + i * 15 + 6, none⟩ = some (.int .u64 e2) ∧ W.cell? ⟨g, o9 + i * 15 + 7, none⟩ = some (.int .u64 f2)) (first | exact HKS.out _ v2.nw | exact HKS.out _ m1 | exact HKS.out _ (Nw.drew m1))
                ((go_at_call 9; refine (HD2.out _ s9 (Lg.grow v1 (Nw.drew (Nw.refl _)))).mono ?_; rintro e V2 ⟨rfl, v2⟩))
              rename_i hHeld
              clear hHeld
              have m2 := v2.nw
              clear i1 i2 i3 i4
              obtain ⟨i1, i2, i3, i4⟩ := HK5.out V2 (m2)
              haveI := i1
              haveI := i2
              haveI : In q V2 := ⟨i1.lt⟩
              haveI : In (q + 1) V2 := ⟨i2.lt⟩
              haveI : In (q + 1 + 1) V2 := ⟨World.block_lt_of_cell? _ _ i3⟩
              haveI : In g V2 := ⟨Nat.lt_of_lt_of_le hg m2.grown.size⟩
              have HV := Lib.hid v2
              clear v1 v2 m1 m2 nw
              go_wp2
              exact ⟨⟨i + 1, by have := HIN.out; omega, by go_num, Lib.hid ⟨s9, HV.out⟩⟩, by have := HIN.out; simp [intOf]; omega⟩
            · have j1 : ¬ (i : Int) < (m : Int) := by omega
              have hin : m = i := by omega
              subst hin
              clear hi HE hl nw
              obtain ⟨z1, hz1⟩ : ∃ z : ByteArray, z = ⟨(keyB s1).toArray⟩ := ⟨_, rfl⟩
              obtain ⟨z2, hz2⟩ : ∃ z : ByteArray, z = ⟨(keyB t1).toArray⟩ := ⟨_, rfl⟩
              go_wp2_with fail
              refine (copy_Lg (i := 0) HL2.out rfl (by have := HNM.out; omega)).mono ?_
              rintro e Y8 ⟨gk, rfl, h8⟩
              have h8 : Lg W5 [⟨gm, none, s1, n⟩, ⟨gn, none, t1, m⟩, ⟨gr, some c, s1, n⟩, ⟨gs, some dq, t1, m⟩, ⟨gk, none, s1, n⟩] Y8 := h8
              have N8 := h8.nw
              clear i1 i2 i3 i4
              obtain ⟨i1, i2, i3, i4⟩ := HK5.out Y8 (N8)
              haveI := i1
              haveI := i2
              haveI : In q Y8 := ⟨i1.lt⟩
              haveI : In (q + 1) Y8 := ⟨i2.lt⟩
              haveI : In (q + 1 + 1) Y8 := ⟨World.block_lt_of_cell? _ _ i3⟩
              have H8 := Lib.hid h8
              have hK1 := fun W (hW : Nw Y8 W) => key_Lg (i := 0) (h8.grow hW) (HFM.out.nw HN5.out) rfl (by have := HNM.out; omega)
              have hK2 := fun W (hW : Nw Y8 W) => key_Lg (i := 1) (h8.grow hW) (HFM.out.nw HN5.out) rfl (by have := HNM.out; omega)
              have hK3 := fun W (hW : Nw Y8 W) => key_Lg (i := 4) (h8.grow hW) (HFM.out.nw HN5.out) rfl (by have := HNM.out; omega)
              have hSM := fun W (hW : Nw Y8 W) => rsame_Lg (i := 2) (j := 3) (h8.grow hW) rfl rfl (by have := HNM.out; omega) (by have := HNM.out; omega)
              rw [← hz1] at hK1 hK3 hSM
              rw [← hz2] at hK2 hSM
              obtain ⟨bz, hbz⟩ : ∃ b, b = decide (z1 = z2) := ⟨_, rfl⟩
              rw [← hbz] at hSM
              have eb1 : (z1.toList == z2.toList) = bz := by rw [hbz]; exact str_beqK z1 z2
              have eb2 : decide (z1 = z2) = bz := hbz.symm
              have K1 := Lib.hid hK1
              have K2 := Lib.hid hK2
              have K3 := Lib.hid hK3
              have SM := Lib.hid hSM
              clear hK1 hK2 hK3 hSM hz1 hz2 hbz h8 N8
              go_wp2_with fail
              refine (K1.out _ ((by repeat (first | exact Xt.Nw.refl _ | refine Xt.Nw.drew ?_ | refine Xt.Nw.drewN ?_ _ | refine Xt.Nw.alloc ?_ _ | refine Xt.Nw.joined ?_ | refine Xt.Nw.drewd ?_ | refine Xt.Nw.drewdN ?_ | refine Xt.Nw.ext ?_ | refine Xt.Nw.ext_some ?_ (by assumption) | refine Xt.Nw.setCell ?_ (by simp [go_sem] <;> omega) _)))).mono ?_
              rintro e w' ⟨rfl, d11, rfl⟩
              go_wp2_with fail
              refine (K2.out _ ((by repeat (first | exact Xt.Nw.refl _ | refine Xt.Nw.drew ?_ | refine Xt.Nw.drewN ?_ _ | refine Xt.Nw.alloc ?_ _ | refine Xt.Nw.joined ?_ | refine Xt.Nw.drewd ?_ | refine Xt.Nw.drewdN ?_ | refine Xt.Nw.ext ?_ | refine Xt.Nw.ext_some ?_ (by assumption) | refine Xt.Nw.setCell ?_ (by simp [go_sem] <;> omega) _)))).mono ?_
              rintro e w' ⟨rfl, d12, rfl⟩
              go_wp2_with fail
              refine (SM.out _ ((by repeat (first | exact Xt.Nw.refl _ | refine Xt.Nw.drew ?_ | refine Xt.Nw.drewN ?_ _ | refine Xt.Nw.alloc ?_ _ | refine Xt.Nw.joined ?_ | refine Xt.Nw.drewd ?_ | refine Xt.Nw.drewdN ?_ | refine Xt.Nw.ext ?_ | refine Xt.Nw.ext_some ?_ (by assumption) | refine Xt.Nw.setCell ?_ (by simp [go_sem] <;> omega) _)))).mono ?_
              rintro e w' ⟨rfl, d13, rfl⟩
              have e9 : (bz != bz) = false := by simp
              go_wp2_with fail
              refine (K3.out _ ((by repeat (first | exact Xt.Nw.refl _ | refine Xt.Nw.drew ?_ | refine Xt.Nw.drewN ?_ _ | refine Xt.Nw.alloc ?_ _ | refine Xt.Nw.joined ?_ | refine Xt.Nw.drewd ?_ | refine Xt.Nw.drewdN ?_ | refine Xt.Nw.ext ?_ | refine Xt.Nw.ext_some ?_ (by assumption) | refine Xt.Nw.setCell ?_ (by simp [go_sem] <;> omega) _)))).mono ?_
              rintro e w' ⟨rfl, d14, rfl⟩
              go_wp2_with fail
              refine (K1.out _ ((by repeat (first | exact Xt.Nw.refl _ | refine Xt.Nw.drew ?_ | refine Xt.Nw.drewN ?_ _ | refine Xt.Nw.alloc ?_ _ | refine Xt.Nw.joined ?_ | refine Xt.Nw.drewd ?_ | refine Xt.Nw.drewdN ?_ | refine Xt.Nw.ext ?_ | refine Xt.Nw.ext_some ?_ (by assumption) | refine Xt.Nw.setCell ?_ (by simp [go_sem] <;> omega) _)))).mono ?_
              rintro e Y9 ⟨rfl, h9⟩
              have H8 := Lib.hid (H8.out.grow (show Nw Y8 Y9 from Nw.trans ((by repeat (first | exact Xt.Nw.refl _ | refine Xt.Nw.drew ?_ | refine Xt.Nw.drewN ?_ _ | refine Xt.Nw.alloc ?_ _ | refine Xt.Nw.joined ?_ | refine Xt.Nw.drewd ?_ | refine Xt.Nw.drewdN ?_ | refine Xt.Nw.ext ?_ | refine Xt.Nw.ext_some ?_ (by assumption) | refine Xt.Nw.setCell ?_ (by simp [go_sem] <;> omega) _))) h9))
              clear h9 K1 K2 K3 SM
              clear i1 i2 i3 i4
              obtain ⟨i1, i2, i3, i4⟩ := HK5.out Y9 (H8.out.nw)
              haveI := i1
              haveI := i2
              haveI : In q Y9 := ⟨i1.lt⟩
              haveI : In (q + 1) Y9 := ⟨i2.lt⟩
              haveI : In (q + 1 + 1) Y9 := ⟨World.block_lt_of_cell? _ _ i3⟩
              go_wp2
              go_loopw [18] (fun a wr => ∃ i : Nat, i ≤ m ∧ a = .int .i64 i ∧ Hid (∃ s : Md, Lg W5 [⟨gm, none, s1, n⟩, ⟨gn, none, t1, m⟩, ⟨gr, some c, s1, n⟩, ⟨gs, some dq, t1, m⟩, ⟨gk, none, s, n + i⟩] wr)) (fun a _ => m - (intOf a).toNat)
              case atStart => exact ⟨0, Nat.zero_le _, rfl, Lib.hid ⟨_, H8.out⟩⟩
              case round =>
                obtain ⟨i, hi, rfl, HE⟩ := hrel
                obtain ⟨u1, hl⟩ := HE.out
                have HL3 := Lib.hid hl
                have nw := hl.nw
                clear i1 i2 i3 i4
                obtain ⟨i1, i2, i3, i4⟩ := HK5.out wr (nw)
                haveI := i1
                haveI := i2
                haveI : In q wr := ⟨i1.lt⟩
                haveI : In (q + 1) wr := ⟨i2.lt⟩
                haveI : In (q + 1 + 1) wr := ⟨World.block_lt_of_cell? _ _ i3⟩
                by_cases hin : i < m
                · obtain ⟨g, o9, rfl, hg, hcl⟩ := HB.out.2 (by omega)
                  obtain ⟨x, hx⟩ : ∃ x, es[i]? = some x := ⟨_, List.getElem?_eq_getElem (by have := HB.out.1; rw [dcells_len] at this; omega)⟩
                  have hok := (HOB.out x (List.mem_of_getElem? hx)).1
                  obtain ⟨t9, ⟨k, a, b, c2, d2, e2, f2⟩, j9, y9, r9⟩ := x
                  have x0 : W5.cell? ⟨g, o9 + i * 15, none⟩ = some (.int .i64 t9) := by have := hcl _ _ (dcells_get es i _ hx 0 _ rfl); rwa [Nat.add_zero] at this
                  have x1 : W5.cell? ⟨g, o9 + i * 15 + 1, none⟩ = some (.int .u8 k) := by have := hcl _ _ (dcells_get es i _ hx 1 _ rfl); rwa [← Nat.add_assoc] at this
                  have x2 : W5.cell? ⟨g, o9 + i * 15 + 2, none⟩ = some (.int .u64 a) := by have := hcl _ _ (dcells_get es i _ hx 2 _ rfl); rwa [← Nat.add_assoc] at this
                  have x3 : W5.cell? ⟨g, o9 + i * 15 + 3, none⟩ = some (.int .u64 b) := by have := hcl _ _ (dcells_get es i _ hx 3 _ rfl); rwa [← Nat.add_assoc] at this
                  have x4 : W5.cell? ⟨g, o9 + i * 15 + 4, none⟩ = some (.int .u64 c2) := by have := hcl _ _ (dcells_get es i _ hx 4 _ rfl); rwa [← Nat.add_assoc] at this
                  have x5 : W5.cell? ⟨g, o9 + i * 15 + 5, none⟩ = some (.int .u64 d2) := by have := hcl _ _ (dcells_get es i _ hx 5 _ rfl); rwa [← Nat.add_assoc] at this
                  have x6 : W5.cell? ⟨g, o9 + i * 15 + 6, none⟩ = some (.int .u64 e2) := by have := hcl _ _ (dcells_get es i _ hx 6 _ rfl); rwa [← Nat.add_assoc] at this
                  have x7 : W5.cell? ⟨g, o9 + i * 15 + 7, none⟩ = some (.int .u64 f2) := by have := hcl _ _ (dcells_get es i _ hx 7 _ rfl); rwa [← Nat.add_assoc] at this
                  have HKS := Lib.hid (fun W (hW : Nw W5 W) => (⟨(HK5.out W hW).2.2.2, cell_nw x0 hW, cell_nw x1 hW, cell_nw x2 hW, cell_nw x3 hW, cell_nw x4 hW, cell_nw x5 hW, cell_nw x6 hW, cell_nw x7 hW⟩ : W.cell? ⟨q + 1 + 1, 1, none⟩ = some (.slice (some ⟨g, o9, none⟩) m cb) ∧ W.cell? ⟨g, o9 + i * 15, none⟩ = some (.int .i64 t9) ∧ W.cell? ⟨g, o9 + i * 15 + 1, none⟩ = some (.int .u8 k) ∧ W.cell? ⟨g, o9 + i * 15 + 2, none⟩ = some (.int .u64 a) ∧ W.cell? ⟨g, o9 + i * 15 + 3, none⟩ = some (.int .u64 b) ∧ W.cell? ⟨g, o9 + i * 15 + 4, none⟩ = some (.int .u64 c2) ∧ W.cell? ⟨g, o9 + i * 15 + 5, none⟩ = some (.int .u64 d2) ∧ W.cell? ⟨g, o9 + i * 15 + 6, none⟩ = some (.int .u64 e2) ∧ W.cell? ⟨g, o9 + i * 15 + 7, none⟩ = some (.int .u64 f2)))
                  haveI : In g wr := ⟨Nat.lt_of_lt_of_le hg nw.grown.size⟩
                  have j1 : (i : Int) < (m : Int) := by omega
                  have j2 : i < 1000 := by have := HNM.out; omega
                  have HIN := Lib.hid hin
                  have HOK := Lib.hid hok
                  clear hx hcl hok hin hi HE hl x0 x1 x2 x3 x4 x5 x6 x7
                  obtain ⟨Q, hQ⟩ : ∃ Q, Q = doM u1 t9 ⟨k, a, b, c2, d2, e2, f2⟩ := ⟨_, rfl⟩
                  have hD1 := fun W (s' : Md) (h : Lg W5 [⟨gm, none, s1, n⟩, ⟨gn, none, t1, m⟩, ⟨gr, some c, s1, n⟩, ⟨gs, some dq, t1, m⟩, ⟨gk, none, u1, n + i⟩] W) => do_Lm (i := 4) h rfl (by have := HNM.out; have := HIN.out; omega) t9 ⟨k, a, b, c2, d2, e2, f2⟩ HOK.out
                  rw [← hQ] at hD1
                  clear hQ
                  obtain ⟨rr, s9⟩ := Q
                  unfold opV resV at hD1
                  simp only [List.set_cons_zero, List.set_cons_succ] at hD1
                  have HD1 := Lib.hid hD1
                  clear hD1
                  go_upto_region 29 with (fail)
                  go_region_held3 (fun W => W.cell? ⟨q + 1 + 1, 1, none⟩ = some (.slice (some ⟨g, o9, none⟩) m cb) ∧ W.cell? ⟨g, o9 + i * 15, none⟩ = some (.int .i64 t9) ∧ W.cell? ⟨g, o9 + i * 15 + 1, none⟩ = some (.int .u8 k) ∧ W.cell? ⟨g, o9 + i * 15 + 2, none⟩ = some (.int .u64 a) ∧ W.cell? ⟨g, o9 + i * 15 + 3, none⟩ = some (.int .u64 b) ∧ W.cell? ⟨g, o9 + i * 15 + 4, none⟩ = some (.int .u64 c2) ∧ W.cell? ⟨g, o9 + i * 15 + 5, none⟩ = some (.int .u64 d2) ∧ W.cell? ⟨g, o9 + i * 15 + 6, none⟩ = some (.int .u64 e2) ∧ W.cell? ⟨g, o9 + i * 15 + 7, none⟩ = some (.int .u64 f2)) (first | exact HKS.out _ v1.nw | exact HKS.out _ nw | exact HKS.out _ (Nw.drew nw))
                    ((go_at_call 8; refine (HD1.out _ s9 (Lg.grow HL3.out (Nw.drew (Nw.refl _)))).mono ?_; rintro e V1 ⟨rfl, v1⟩))
                  rename_i hHeld
                  clear hHeld
                  have m1 := v1.nw
                  clear i1 i2 i3 i4
                  obtain ⟨i1, i2, i3, i4⟩ := HK5.out V1 (m1)
                  haveI := i1
                  haveI := i2
                  haveI : In q V1 := ⟨i1.lt⟩
                  haveI : In (q + 1) V1 := ⟨i2.lt⟩
                  haveI : In (q + 1 + 1) V1 := ⟨World.block_lt_of_cell? _ _ i3⟩
                  haveI : In g V1 := ⟨Nat.lt_of_lt_of_le hg m1.grown.size⟩
                  have HV := Lib.hid v1
                  clear v1 m1 nw
                  go_wp2
                  exact ⟨⟨i + 1, by have := HIN.out; omega, by go_num, Lib.hid ⟨s9, HV.out⟩⟩, by have := HIN.out; simp [intOf]; omega⟩
                · have j1 : ¬ (i : Int) < (m : Int) := by omega
                  have hin : m = i := by omega
                  subst hin
                  clear hi HE hl nw
                  have HL5 := HL3
                  go_wp2_with fail
                  refine (same_Lg (i := 0) (j := 2) HL5.out rfl rfl (by have := HNM.out; omega)).mono ?_
                  rintro e X9 ⟨rfl, hx9⟩
                  have HX9 := Lib.hid (HL5.out.grow hx9)
                  clear hx9
                  go_wp2_with fail
                  refine (same_Lg (i := 1) (j := 3) HX9.out rfl rfl (by have := HNM.out; omega)).mono ?_
                  rintro e X10 ⟨rfl, hx10⟩
                  have HX10 := Lib.hid (HX9.out.nw.trans hx10)
                  clear hx10
                  go_wp2
                  go_ret
                  exact ⟨rfl, HN5.out.trans (HX10.out.trans ((by repeat (first | exact Xt.Nw.refl _ | refine Xt.Nw.drew ?_ | refine Xt.Nw.drewN ?_ _ | refine Xt.Nw.alloc ?_ _ | refine Xt.Nw.joined ?_ | refine Xt.Nw.drewd ?_ | refine Xt.Nw.drewdN ?_ | refine Xt.Nw.ext ?_ | refine Xt.Nw.ext_some ?_ (by assumption) | refine Xt.Nw.setCell ?_ (by simp [go_sem] <;> omega) _))))⟩
    · obtain ⟨th1, th2⟩ := cf_thr hcc
      obtain ⟨n1, hn1⟩ : ∃ z : Nat, c.thr = z := ⟨c.thr.toNat, by omega⟩
      have HM1 := Lib.hid (fun W (hw : Nw w W) => new_yes c cc n1 W (HC.out.1.nw hw) HC.out.2.1 HC.out.2.2 hcc hn1 (by omega))
      have HM2 := Lib.hid (fun W (hw : Nw w W) => new_no dq cdq W (HDq.out.1.nw hw) HDq.out.2.1 HDq.out.2.2 hdd)
      have HR1 := Lib.hid (fun W (hw : Nw w W) => rnew_yes c cc n1 W (HC.out.1.nw hw) HC.out.2.1 HC.out.2.2 hcc hn1 (by omega))
      have HR2 := Lib.hid (fun W (hw : Nw w W) => rnew_no dq cdq W (HDq.out.1.nw hw) HDq.out.2.1 HDq.out.2.2 hdd)
      unfold confV at HM1 HM2 HR1 HR2
      clear hcc hdd hn1 th1 th2
      go_wp2_with fail
      refine (HM1.out W5 (HN5.out.trans (Nw.refl W5))).mono ?_
      rintro e Y0 ⟨P0, rfl, -, -, hn0⟩
      have N0 : Nw W5 Y0 := Nw.trans (Nw.refl W5) hn0
      clear hn0
      clear i1 i2 i3 i4
      obtain ⟨i1, i2, i3, i4⟩ := HK5.out Y0 (N0)
      haveI := i1
      haveI := i2
      haveI : In q Y0 := ⟨i1.lt⟩
      haveI : In (q + 1) Y0 := ⟨i2.lt⟩
      haveI : In (q + 1 + 1) Y0 := ⟨World.block_lt_of_cell? _ _ i3⟩
      go_wp2_with fail
      refine (HM2.out Y0 (HN5.out.trans N0)).mono ?_
      rintro e Y1 ⟨rfl, hn1⟩
      have N1 : Nw W5 Y1 := Nw.trans N0 hn1
      clear hn1
      clear i1 i2 i3 i4
      obtain ⟨i1, i2, i3, i4⟩ := HK5.out Y1 (N1)
      haveI := i1
      haveI := i2
      haveI : In q Y1 := ⟨i1.lt⟩
      haveI : In (q + 1) Y1 := ⟨i2.lt⟩
      haveI : In (q + 1 + 1) Y1 := ⟨World.block_lt_of_cell? _ _ i3⟩
      go_wp2_with fail
      refine (HR1.out Y1 (HN5.out.trans N1)).mono ?_
      rintro e Y2 ⟨P2, rfl, -, -, hn2⟩
      have N2 : Nw W5 Y2 := Nw.trans N1 hn2
      clear hn2
      clear i1 i2 i3 i4
      obtain ⟨i1, i2, i3, i4⟩ := HK5.out Y2 (N2)
      haveI := i1
      haveI := i2
      haveI : In q Y2 := ⟨i1.lt⟩
      haveI : In (q + 1) Y2 := ⟨i2.lt⟩
      haveI : In (q + 1 + 1) Y2 := ⟨World.block_lt_of_cell? _ _ i3⟩
      go_wp2_with fail
      refine (HR2.out Y2 (HN5.out.trans N2)).mono ?_
      rintro e Y3 ⟨rfl, hn3⟩
      have N3 : Nw W5 Y3 := Nw.trans N2 hn3
      clear hn3
      clear i1 i2 i3 i4
      obtain ⟨i1, i2, i3, i4⟩ := HK5.out Y3 (N3)
      haveI := i1
      haveI := i2
      haveI : In q Y3 := ⟨i1.lt⟩
      haveI : In (q + 1) Y3 := ⟨i2.lt⟩
      haveI : In (q + 1 + 1) Y3 := ⟨World.block_lt_of_cell? _ _ i3⟩
      have HY := Lib.hid N3
      clear N0 N1 N2 N3
      go_wp2_with (go_at_call 5; refine (HKN.out _).mono ?_; rintro e w' ⟨rfl, dW, rfl⟩)
      go_ret
      exact ⟨rfl, HN5.out.trans (HY.out.trans ((by repeat (first | exact Xt.Nw.refl _ | refine Xt.Nw.drew ?_ | refine Xt.Nw.drewN ?_ _ | refine Xt.Nw.alloc ?_ _ | refine Xt.Nw.joined ?_ | refine Xt.Nw.drewd ?_ | refine Xt.Nw.drewdN ?_ | refine Xt.Nw.ext ?_ | refine Xt.Nw.ext_some ?_ (by assumption) | refine Xt.Nw.setCell ?_ (by simp [go_sem] <;> omega) _))))⟩
  · rcases chk_two dq cdq with hdd | hdd
    · obtain ⟨th3, th4⟩ := cf_thr hdd
      obtain ⟨n2, hn2⟩ : ∃ z : Nat, dq.thr = z := ⟨dq.thr.toNat, by omega⟩
      have HM1 := Lib.hid (fun W (hw : Nw w W) => new_no c cc W (HC.out.1.nw hw) HC.out.2.1 HC.out.2.2 hcc)
      have HM2 := Lib.hid (fun W (hw : Nw w W) => new_yes dq cdq n2 W (HDq.out.1.nw hw) HDq.out.2.1 HDq.out.2.2 hdd hn2 (by omega))
      have HR1 := Lib.hid (fun W (hw : Nw w W) => rnew_no c cc W (HC.out.1.nw hw) HC.out.2.1 HC.out.2.2 hcc)
      have HR2 := Lib.hid (fun W (hw : Nw w W) => rnew_yes dq cdq n2 W (HDq.out.1.nw hw) HDq.out.2.1 HDq.out.2.2 hdd hn2 (by omega))
      unfold confV at HM1 HM2 HR1 HR2
      clear hcc hdd hn2 th3 th4
      go_wp2_with fail
      refine (HM1.out W5 (HN5.out.trans (Nw.refl W5))).mono ?_
      rintro e Y0 ⟨rfl, hn0⟩
      have N0 : Nw W5 Y0 := Nw.trans (Nw.refl W5) hn0
      clear hn0
      clear i1 i2 i3 i4
      obtain ⟨i1, i2, i3, i4⟩ := HK5.out Y0 (N0)
      haveI := i1
      haveI := i2
      haveI : In q Y0 := ⟨i1.lt⟩
      haveI : In (q + 1) Y0 := ⟨i2.lt⟩
      haveI : In (q + 1 + 1) Y0 := ⟨World.block_lt_of_cell? _ _ i3⟩
      go_wp2_with fail
      refine (HM2.out Y0 (HN5.out.trans N0)).mono ?_
      rintro e Y1 ⟨P1, rfl, -, -, hn1⟩
      have N1 : Nw W5 Y1 := Nw.trans N0 hn1
      clear hn1
      clear i1 i2 i3 i4
      obtain ⟨i1, i2, i3, i4⟩ := HK5.out Y1 (N1)
      haveI := i1
      haveI := i2
      haveI : In q Y1 := ⟨i1.lt⟩
      haveI : In (q + 1) Y1 := ⟨i2.lt⟩
      haveI : In (q + 1 + 1) Y1 := ⟨World.block_lt_of_cell? _ _ i3⟩
      go_wp2_with fail
      refine (HR1.out Y1 (HN5.out.trans N1)).mono ?_
      rintro e Y2 ⟨rfl, hn2⟩
      have N2 : Nw W5 Y2 := Nw.trans N1 hn2
      clear hn2
      clear i1 i2 i3 i4
      obtain ⟨i1, i2, i3, i4⟩ := HK5.out Y2 (N2)
      haveI := i1
      haveI := i2
      haveI : In q Y2 := ⟨i1.lt⟩
      haveI : In (q + 1) Y2 := ⟨i2.lt⟩
      haveI : In (q + 1 + 1) Y2 := ⟨World.block_lt_of_cell? _ _ i3⟩
      go_wp2_with fail
      refine (HR2.out Y2 (HN5.out.trans N2)).mono ?_
      rintro e Y3 ⟨P3, rfl, -, -, hn3⟩
      have N3 : Nw W5 Y3 := Nw.trans N2 hn3
      clear hn3
      clear i1 i2 i3 i4
      obtain ⟨i1, i2, i3, i4⟩ := HK5.out Y3 (N3)
      haveI := i1
      haveI := i2
      haveI : In q Y3 := ⟨i1.lt⟩
      haveI : In (q + 1) Y3 := ⟨i2.lt⟩
      haveI : In (q + 1 + 1) Y3 := ⟨World.block_lt_of_cell? _ _ i3⟩
      have HY := Lib.hid N3
      clear N0 N1 N2 N3
      go_wp2_with (go_at_call 5; refine (HKN.out _).mono ?_; rintro e w' ⟨rfl, dW, rfl⟩)
      go_ret
      exact ⟨rfl, HN5.out.trans (HY.out.trans ((by repeat (first | exact Xt.Nw.refl _ | refine Xt.Nw.drew ?_ | refine Xt.Nw.drewN ?_ _ | refine Xt.Nw.alloc ?_ _ | refine Xt.Nw.joined ?_ | refine Xt.Nw.drewd ?_ | refine Xt.Nw.drewdN ?_ | refine Xt.Nw.ext ?_ | refine Xt.Nw.ext_some ?_ (by assumption) | refine Xt.Nw.setCell ?_ (by simp [go_sem] <;> omega) _))))⟩
    · have HM1 := Lib.hid (fun W (hw : Nw w W) => new_no c cc W (HC.out.1.nw hw) HC.out.2.1 HC.out.2.2 hcc)
      have HM2 := Lib.hid (fun W (hw : Nw w W) => new_no dq cdq W (HDq.out.1.nw hw) HDq.out.2.1 HDq.out.2.2 hdd)
      have HR1 := Lib.hid (fun W (hw : Nw w W) => rnew_no c cc W (HC.out.1.nw hw) HC.out.2.1 HC.out.2.2 hcc)
      have HR2 := Lib.hid (fun W (hw : Nw w W) => rnew_no dq cdq W (HDq.out.1.nw hw) HDq.out.2.1 HDq.out.2.2 hdd)
      unfold confV at HM1 HM2 HR1 HR2
      clear hcc hdd
      go_wp2_with fail
      refine (HM1.out W5 (HN5.out.trans (Nw.refl W5))).mono ?_
      rintro e Y0 ⟨rfl, hn0⟩
      have N0 : Nw W5 Y0 := Nw.trans (Nw.refl W5) hn0
      clear hn0
      clear i1 i2 i3 i4
      obtain ⟨i1, i2, i3, i4⟩ := HK5.out Y0 (N0)
      haveI := i1
      haveI := i2
      haveI : In q Y0 := ⟨i1.lt⟩
      haveI : In (q + 1) Y0 := ⟨i2.lt⟩
      haveI : In (q + 1 + 1) Y0 := ⟨World.block_lt_of_cell? _ _ i3⟩
      go_wp2_with fail
      refine (HM2.out Y0 (HN5.out.trans N0)).mono ?_
      rintro e Y1 ⟨rfl, hn1⟩
      have N1 : Nw W5 Y1 := Nw.trans N0 hn1
      clear hn1
      clear i1 i2 i3 i4
      obtain ⟨i1, i2, i3, i4⟩ := HK5.out Y1 (N1)
      haveI := i1
      haveI := i2
      haveI : In q Y1 := ⟨i1.lt⟩
      haveI : In (q + 1) Y1 := ⟨i2.lt⟩
      haveI : In (q + 1 + 1) Y1 := ⟨World.block_lt_of_cell? _ _ i3⟩
      go_wp2_with fail
      refine (HR1.out Y1 (HN5.out.trans N1)).mono ?_
      rintro e Y2 ⟨rfl, hn2⟩
      have N2 : Nw W5 Y2 := Nw.trans N1 hn2
      clear hn2
      clear i1 i2 i3 i4
      obtain ⟨i1, i2, i3, i4⟩ := HK5.out Y2 (N2)
      haveI := i1
      haveI := i2
      haveI : In q Y2 := ⟨i1.lt⟩
      haveI : In (q + 1) Y2 := ⟨i2.lt⟩
      haveI : In (q + 1 + 1) Y2 := ⟨World.block_lt_of_cell? _ _ i3⟩
      go_wp2_with fail
      refine (HR2.out Y2 (HN5.out.trans N2)).mono ?_
      rintro e Y3 ⟨rfl, hn3⟩
      have N3 : Nw W5 Y3 := Nw.trans N2 hn3
      clear hn3
      clear i1 i2 i3 i4
      obtain ⟨i1, i2, i3, i4⟩ := HK5.out Y3 (N3)
      haveI := i1
      haveI := i2
      haveI : In q Y3 := ⟨i1.lt⟩
      haveI : In (q + 1) Y3 := ⟨i2.lt⟩
      haveI : In (q + 1 + 1) Y3 := ⟨World.block_lt_of_cell? _ _ i3⟩
      have HY := Lib.hid N3
      clear N0 N1 N2 N3
      go_wp2_with (go_at_call 5; refine (HKN.out _).mono ?_; rintro e w' ⟨rfl, dW, rfl⟩)
      go_ret
      exact ⟨rfl, HN5.out.trans (HY.out.trans ((by repeat (first | exact Xt.Nw.refl _ | refine Xt.Nw.drew ?_ | refine Xt.Nw.drewN ?_ _ | refine Xt.Nw.alloc ?_ _ | refine Xt.Nw.joined ?_ | refine Xt.Nw.drewd ?_ | refine Xt.Nw.drewdN ?_ | refine Xt.Nw.ext ?_ | refine Xt.Nw.ext_some ?_ (by assumption) | refine Xt.Nw.setCell ?_ (by simp [go_sem] <;> omega) _))))⟩
end Go.Proofs.YtahagplegmcaaaaGreatDoor
