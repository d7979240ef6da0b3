import Derived.Test.YtfnapkfdocabcaaGreatGOl0
import Derived.Deep.CutBlock
import Derived.Deep.DeepCutAuto
set_option linter.unusedVariables false
set_option linter.unusedSimpArgs false
set_option linter.unnecessarySimpa false
namespace Go.Proofs.YtfnapkfdocabcaaGreat
open Go.RowKit Go.Xt
/-! The law WitnessAlone. -/
/-- What is known of the rounds of the first loop. -/
def AlP (Wb : World) (c : Cf) (gm gc nt k : Nat) (v : Value) (hs : List Cl) (W : World) : Prop :=
  ∃ p, AS Wb gm gc nt (stD (s1M c) hs) k v hs hs p W ∧ hs.length = k ∧ AlS hs ∧ AlR (s1M c) hs ∧ (∀ y ∈ hs, WfX y)
/-- The next call. -/
def nxC (k t : Nat) (q : Int) (o : Ox) (r : Rs) : Cl := ⟨t, q, o.k, o.key, o.hi, o.val, o.old, o.by_, o.draw, 3 * (k : Int), 3 * (k : Int) + 2, 3 * (k : Int) + 2, 2, r.err, r.fd, r.key, r.val, r.cnt⟩
theorem AlP.next {Wb W : World} {c : Cf} {gm gc nt k t : Nat} {v : Value} {hs : List Cl} {o : Ox} {r : Rs} {s' : Md} {p : Pl} {N : Nat} (hlen : hs.length = k) (ha : AlS hs) (hr : AlR (s1M c) hs) (hwf : ∀ y ∈ hs, WfX y)
    (hd : (r, s') = doM (stD (s1M c) hs) t o) (hok : (stD (s1M c) hs).Ok N) (ht : t < 64) (hk : k < 20) (ho : o.Wf)
    (H : AS Wb gm gc nt s' (k + 1) v (hs ++ [nxC k t (((ofT (t : Int) hs).length : Nat) : Int) o r]) (hs ++ [nxC k t (((ofT (t : Int) hs).length : Nat) : Int) o r]) p W) :
    AlP Wb c gm gc nt (k + 1) v (hs ++ [nxC k t (((ofT (t : Int) hs).length : Nat) : Int) o r]) W := by
  have e1 : r = (doM (stD (s1M c) hs) t o).1 := by rw [← hd]
  have e2 : s' = (doM (stD (s1M c) hs) t o).2 := by rw [← hd]
  have hkey := doM_key hok (t : Int) o
  rw [← e1] at hkey
  have hq : ((ofT (t : Int) hs).length : Nat) ≤ hs.length := List.length_filter_le _ _
  refine ⟨p, ?_, by rw [List.length_append, hlen]; rfl, ha.snoc ⟨by rw [hlen]; rfl, by rw [hlen]; rfl, by rw [hlen]; rfl, rfl⟩ rfl ⟨by show (0 : Int) ≤ (t : Int); omega, by show (t : Int) < 64; omega⟩, hr.snoc ?_, fun y hy => ?_⟩
  · have e3 : stD (s1M c) (hs ++ [nxC k t (((ofT (t : Int) hs).length : Nat) : Int) o r]) = s' := by rw [stD_snoc, e2]; rfl
    rw [e3]; exact H
  · rw [show rsC (nxC k t (((ofT (t : Int) hs).length : Nat) : Int) o r) = r from rfl, e1]; rfl
  · rcases List.mem_append.1 hy with h | h
    · exact hwf y h
    · simp only [List.mem_cons, List.not_mem_nil, or_false] at h
      subst h
      exact ⟨⟨⟨by show _ ≤ (t : Int); omega, by show (t : Int) ≤ _; omega⟩, ⟨by show _ ≤ (((ofT (t : Int) hs).length : Nat) : Int); omega, by show (((ofT (t : Int) hs).length : Nat) : Int) ≤ _; omega⟩, ⟨by show _ ≤ 3 * (k : Int); omega, by show 3 * (k : Int) ≤ _; omega⟩, ⟨by show _ ≤ 3 * (k : Int) + 2; omega, by show 3 * (k : Int) + 2 ≤ _; omega⟩, ⟨by show _ ≤ 3 * (k : Int) + 2; omega, by show 3 * (k : Int) + 2 ≤ _; omega⟩, ⟨by show _ ≤ (2 : Int); omega, by show (2 : Int) ≤ _; omega⟩⟩, ho, hkey⟩
/-- What a region of the loop reads. -/
theorem AS.reads {w W : World} {gm gc nt N : Nat} {s : Md} {v : Value} {h hc : List Cl} {p : Pl} (H : AS w gm gc nt s N v h hc p W) {t : Nat} (ht : t < nt) {q : Int} (hq : q = (((ofT (t : Int) hc).length : Nat) : Int)) {b z : Nat} {o : Ox} (ho : w.rangeAt b z (ocells o)) :
    W.cell? ⟨gc, t, none⟩ = some (.int .i64 q) ∧ (loadOp (.pointer (some ⟨b, z, none⟩))).run Tryz.prog W = .ok (.agg #[.int .u8 o.k, .int .u64 o.key, .int .u64 o.hi, .int .u64 o.val, .int .u64 o.old, .int .u64 o.by_, .int .u64 o.draw]) W :=
  ⟨by rw [hq]; exact H.cell ht, run_loadOp (range_nw ho H.nw)⟩
theorem tmod_nat (x : Int) {n : Nat} (hn : 1 ≤ n ∧ n ≤ 64) : ∃ t : Nat, t < n ∧ IntKind.i64.wrap (Int.tmod x n) = Int.tmod x n ∧ IntKind.i64.wrap (Int.tmod x n + n) = Int.tmod x n + n ∧ IntKind.i64.wrap (Int.tmod (Int.tmod x n + n) n) = Int.tmod (Int.tmod x n + n) n ∧ Int.tmod (Int.tmod x n + n) n = (t : Int) := by
  have h1 := Int.tmod_lt_of_pos x (show (0 : Int) < (n : Int) by omega)
  have h2 := Int.lt_tmod_of_pos x (show (0 : Int) < (n : Int) by omega)
  have h3 := Int.tmod_lt_of_pos (Int.tmod x n + n) (show (0 : Int) < (n : Int) by omega)
  have h4 : 0 ≤ Int.tmod (Int.tmod x n + n) n := Int.tmod_nonneg _ (by omega)
  exact ⟨(Int.tmod (Int.tmod x n + n) n).toNat, by omega, by rw [IntKind.wrap_i64]; omega, by rw [IntKind.wrap_i64]; omega, by rw [IntKind.wrap_i64]; omega, by omega⟩
set_option maxRecDepth 20000 in
set_option maxHeartbeats 8000000 in
theorem alone_M (c : Cf) (cuts : List Nat) (A : Option Addr) (n cap : Nat) (ops : List Ox) (Aw : Option Addr) (nw cw : Nat) (who : List Int) (wh : Int) (r : Rs) (w : World) (hr : Rd w 1 c.cA cuts.length (nums cuts)) (hcn : c.cn = cuts.length) (he : 0 ≤ c.eng ∧ c.eng < 256) (hcm : c.cc ≤ maxLen) (hcc : c.cn ≤ c.cc) (hl : Ops w A n ops) (hw : ∀ y ∈ ops, y.Wf) (hwho : Is w Aw nw who) (hrk : 0 ≤ r.key ∧ r.key < 18446744073709551616) :
    Calls Tryz.prog 3 #[confV c, .slice A n cap, .agg #[.slice Aw nw cw, .int .i64 wh, .int .i64 r.err, .bool r.fd, .int .u64 r.key, .int .u64 r.val, .int .i64 r.cnt]] w fun e w' => e = .returned (.bool true) ∧ Nw w w' := by
  obtain ⟨b0, hb0⟩ : ∃ b, b = w.heap.size := ⟨_, rfl⟩
  obtain ⟨W0, hW0⟩ : ∃ W, W = (w.alloc (cellsOf c 27)).alloc (.cells #[.slice Aw nw cw, .int .i64 wh, .int .i64 r.err, .bool r.fd, .int .u64 r.key, .int .u64 r.val, .int .i64 r.cnt] 35) := ⟨_, rfl⟩
  have hn0 : Nw w W0 := by rw [hW0]; exact ((Nw.refl w).alloc _).alloc _
  haveI hca : ConfAt W0 b0 c := by
    have h1 : ConfAt (w.alloc (cellsOf c 27)) b0 c := ⟨fun i v hv => by unfold cellsOf; unfold ccells at hv; rw [hb0, World.cell?_alloc_new]; simpa using hv, by rw [hb0]; simp⟩
    rw [hW0]; infer_instance
  have hbx : BoxAt W0 b0 := by
    have h1 : BoxAt (w.alloc (cellsOf c 27)) b0 := by rw [hb0]; exact ConfAt.box
    rw [hW0]; infer_instance
  have hsz : (w.alloc (cellsOf c 27)).heap.size = b0 + 1 := by rw [hb0]; simp
  have hox : ∀ i v, ([.slice Aw nw cw, .int .i64 wh, .int .i64 r.err, .bool r.fd, .int .u64 r.key, .int .u64 r.val, .int .i64 r.cnt] : List Value)[i]? = some v → W0.cell? ⟨b0 + 1, i, none⟩ = some v := fun i v hv => by
    rw [hW0, ← hsz, World.cell?_alloc_new]; simpa using hv
  have HSM := Lib.hid (small_any c cuts W0 hcn hcc hcm (Rd.nw hr hn0))
  have HOX := Lib.hid hox
  have HL := Lib.hid hl
  have HW := Lib.hid hw
  have HWHO := Lib.hid hwho
  have HRK := Lib.hid hrk
  have HEN := Lib.hid he
  have HCN := Lib.hid hcn
  unfold cellsOf at hW0
  have HW0 := Lib.hid hW0
  have HN0 := Lib.hid hn0
  have HB0 := Lib.hid hb0
  have HBX := Lib.hid hbx
  unfold confV at HSM ⊢
  haveI : In b0 W0 := ⟨hca.lt⟩
  clear hsz hox hb0 hW0 hn0 hbx hr hcn he hcm hcc hl hw hwho hrk
  go_enter Tryz.func3, Tryz.ntmps3
  go_upto_region 1 with (fail)
  rw [← HW0.out, ← HB0.out]
  go_wp2_with fail
  refine HSM.out.mono ?_
  rintro e W1 ⟨c', rfl, hc', hrd, hap, hn1⟩
  have hbx1 := HBX.out.nw hn1
  have hst := run_storeConf (c := c') hbx1
  unfold confV at hst
  obtain ⟨W2, hW2⟩ : ∃ W, W = putConf W1 b0 c' := ⟨_, rfl⟩
  have hcf : ConfAt W2 b0 c' := by rw [hW2]; exact putConf_at hbx1
  have hch : Chg [b0] W1 W2 := by rw [hW2]; exact putConf_chg W1 b0 c'
  rw [← hW2] at hst
  have hn2 : Nw w W2 := nw_chg2 (HN0.out.trans hn1) hch (fun k hk => by have := HB0.out; simp at hk; omega)
  have hrd2 : Rd W2 1 c'.cA (cuts.take 70).length (nums (cuts.take 70)) := by
    rw [hW2]
    exact rd_chg hrd (putConf_chg W1 b0 c') (fun b o e => by have := hap b o e; have := HBX.out.lt; simp; omega)
  have hox2 : ∀ i v, ([.slice Aw nw cw, .int .i64 wh, .int .i64 r.err, .bool r.fd, .int .u64 r.key, .int .u64 r.val, .int .i64 r.cnt] : List Value)[i]? = some v → W2.cell? ⟨b0 + 1, i, none⟩ = some v := fun i v hv => hch.cell (cell_nw (HOX.out i v hv) hn1) (by simp)
  haveI : In b0 W1 := ⟨hbx1.lt⟩
  haveI := hcf
  haveI : In b0 W2 := ⟨hcf.lt⟩
  have k0 := hox2 0 _ rfl
  have k1 := hox2 1 _ rfl
  have krs : W2.rangeAt (b0 + 1) 2 (rcells r) := fun j v hv => hox2 (2 + j) v (by
    have hj : j < 5 := (List.getElem?_eq_some_iff.1 hv).1
    rcases (by omega : j = 0 ∨ j = 1 ∨ j = 2 ∨ j = 3 ∨ j = 4) with rfl | rfl | rfl | rfl | rfl <;> exact hv)
  haveI : In (b0 + 1) W2 := ⟨World.block_lt_of_cell? W2 _ k0⟩
  have KRS := Lib.hid krs
  have HOX1 := Lib.hid (show b0 + 1 < W2.heap.size from World.block_lt_of_cell? W2 _ k0)
  have HN2 := Lib.hid hn2
  have HRD := Lib.hid hrd2
  have HC' := Lib.hid hc'
  obtain ⟨cu, hcu⟩ : ∃ cu, cu = cuts.take 70 := ⟨_, rfl⟩
  have HIN0 := Lib.hid (show Rd W2 1 c'.cA cu.length (nums cu) ∧ c'.cn = cu.length ∧ (0 ≤ c'.eng ∧ c'.eng < 256) from ⟨by rw [hcu]; exact hrd2, by rw [hcu, hc', List.length_take, ← HCN.out]; exact Nat.min_comm _ _, by rw [hc']; exact HEN.out⟩)
  clear hW2 hch hn2 hrd hrd2 hn1 hbx1 hc' hap hcu hox2 krs
  have HAW := Lib.hid (fun W (hq : Nw W2 W) => awake_any W)
  rcases chk_two c' cu with hck | hck
  · have hth := cf_thr hck
    obtain ⟨nt, hnt⟩ : ∃ nt : Nat, c'.thr = nt := ⟨c'.thr.toNat, by omega⟩
    have hn64 : 1 ≤ nt ∧ nt ≤ 64 := by omega
    have HNEW := Lib.hid (fun W (hq : Nw W2 W) => new_yes c' cu nt W (HIN0.out.1.nw hq) HIN0.out.2.1 HIN0.out.2.2 hck hnt hn64)
    unfold confV at HNEW
    have HNT := Lib.hid hnt
    have H64 := Lib.hid hn64
    have HCK := Lib.hid hck
    clear hck hth hnt hn64
    go_wp2_with fail
    refine (HNEW.out _ ((by repeat (first | exact Xt.Nw.refl _ | refine Xt.Nw.drew ?_ | refine Xt.Nw.drewN ?_ _ | refine Xt.Nw.alloc ?_ _ | refine Xt.Nw.joined ?_ | refine Xt.Nw.drewd ?_ | refine Xt.Nw.drewdN ?_ | refine Xt.Nw.ext ?_ | refine Xt.Nw.ext_some ?_ (by assumption) | refine Xt.Nw.setCell ?_ (by simp [go_sem] <;> omega) _)))).mono ?_
    rintro e W3 ⟨P0, rfl, hm3, hf3, hn3⟩
    have hn23 : Nw W2 W3 := Nw.trans ((by repeat (first | exact Xt.Nw.refl _ | refine Xt.Nw.drew ?_ | refine Xt.Nw.drewN ?_ _ | refine Xt.Nw.alloc ?_ _ | refine Xt.Nw.joined ?_ | refine Xt.Nw.drewd ?_ | refine Xt.Nw.drewdN ?_ | refine Xt.Nw.ext ?_ | refine Xt.Nw.ext_some ?_ (by assumption) | refine Xt.Nw.setCell ?_ (by simp [go_sem] <;> omega) _))) hn3
    have hle3 : W2.heap.size ≤ W3.heap.size := hn23.grown.size
    obtain ⟨gm, hgm⟩ : ∃ g, g = P0.gm := ⟨_, rfl⟩
    rw [← hgm]
    haveI hca3 : ConfAt W3 b0 c' := hcf.nw hn23
    haveI : In b0 W3 := ⟨hca3.lt⟩
    obtain ⟨W4, hmk, hcnt, hn34⟩ := make_ints W3 nt (by have := H64.out; omega)
    obtain ⟨gc, hgc⟩ : ∃ g, g = W3.heap.size := ⟨_, rfl⟩
    have hs1 : s1M c' = ⟨c'.sl, [], List.replicate nt Th0⟩ := by unfold s1M; rw [HNT.out, Int.toNat_natCast]
    have has : AlP W2 c' gm gc nt 0 (.slice none 0 0) [] W4 := by
      refine ⟨P0, ⟨hgm.symm, ?_, ?_, fun g hg => ?_, hn23.trans hn34, World.ownsRow_nil _ _ _ _, by rw [hgc]; exact own_le hcnt hle3, fun hg => ?_, fun g hg => by cases hg⟩, rfl, AlS.nil, fun i x hx => by simp at hx, fun y hy => by cases hy⟩
      · show MAt W4 P0 (s1M c'); rw [hs1]; exact hm3.nw hn34
      · show (s1M c').Ok 0; rw [hs1]; exact ⟨Nat.le_refl _, List.Pairwise.nil, fun _ h => (by cases h), (by simp; have := H64.out; omega), fun x hx => (by rw [List.eq_of_mem_replicate hx]; exact ⟨fun h => (by cases h), fun h => (by cases h), fun h => (by cases h)⟩)⟩
      · have := hf3 g hg; have : W2.heap.size ≤ g := Nat.le_trans (show W2.heap.size ≤ _ from (show Nw W2 _ from (by repeat (first | exact Xt.Nw.refl _ | refine Xt.Nw.drew ?_ | refine Xt.Nw.drewN ?_ _ | refine Xt.Nw.alloc ?_ _ | refine Xt.Nw.joined ?_ | refine Xt.Nw.drewd ?_ | refine Xt.Nw.drewdN ?_ | refine Xt.Nw.ext ?_ | refine Xt.Nw.ext_some ?_ (by assumption) | refine Xt.Nw.setCell ?_ (by simp [go_sem] <;> omega) _))).grown.size) (hf3 g hg); exact this
      · have := hm3.lt hg; omega
    rw [← hgc] at hmk
    have hd1 : ¬ (nt : Int) < 1 := by have := H64.out; omega
    have hd2 : ¬ (64 : Int) < (nt : Int) := by have := H64.out; omega
    have hd3 : decide ((nt : Int) < 1) = false := decide_eq_false hd1
    have hd4 : decide ((64 : Int) < (nt : Int)) = false := decide_eq_false hd2
    have hd5 : ¬ nt = 0 := by have := H64.out; omega
    have hd6 : ¬ 64 < nt := by have := H64.out; omega
    haveI hca4 : ConfAt W4 b0 c' := hca3.nw hn34
    haveI : In b0 W4 := ⟨hca4.lt⟩
    have HAS := Lib.hid has
    have HN24 := Lib.hid (hn23.trans hn34)
    have hnt := HNT.out
    have c03 : W3.cell? ⟨b0, 0, none⟩ = some (.int .i64 c'.thr) := hca3.at_ 0 _ rfl
    rw [hnt] at c03
    clear hnt
    clear hm3 hf3 hn3 hn23 hle3 hgm hcnt hn34 hgc hs1 has
    go_upto_region 5 with (fail)
    clear hd1 hd2 hd3 hd4 hd5 hd6
    go_upto_block 0 with (fail)
    clear hmk c03
    go_cut [9] (fun v wx => ∃ (Ab : Option Addr) (k cb : Nat), v = .slice Ab k cb ∧ Hid (∃ hs, k ≤ 20 ∧ AlP W2 c' gm gc nt k (.slice Ab k cb) hs wx))
    case first =>
      go_wp2_with fail
      go_loopw [9, 11] (fun v a wr => ∃ (k : Nat) (Ab : Option Addr) (cb : Nat), k ≤ 20 ∧ k ≤ n ∧ a = .int .i64 k ∧ v = .slice Ab k cb ∧ Hid (∃ hs, AlP W2 c' gm gc nt k (.slice Ab k cb) hs wr)) (fun _ a _ => 20 - (intOf a).toNat)
      case atStart => exact ⟨0, none, 0, by omega, by omega, rfl, rfl, Lib.hid ⟨[], HAS.out⟩⟩
      case round =>
        obtain ⟨k, Ab, cb, hk20, hkn, rfl, rfl, hst⟩ := hrel
        by_cases hlt : k < n
        · have i1 : (k : Int) < (n : Int) := by omega
          by_cases h20 : k < 20
          · have i2 : (k : Int) < 20 := by omega
            obtain ⟨hs, p, has, hlen, hals, halr, hwf⟩ := hst.out
            obtain ⟨b, z, o, rfl, hb, ho, hoc⟩ := HL.out.get hlt
            have how := HW.out o (List.mem_of_getElem? ho)
            have hnwr := has.nw
            have hoc2 : W2.rangeAt b (z + k * 7) (ocells o) := range_nw hoc HN2.out
            have HOC := Lib.hid hoc2
            have HAS2 := Lib.hid has
            have HLEN := Lib.hid hlen
            have HALS := Lib.hid hals
            have HALR := Lib.hid halr
            have HWF := Lib.hid hwf
            have HOW := Lib.hid how
            have k0r := cell_nw k0 hnwr
            haveI hcar : ConfAt wr b0 c' := hcf.nw hnwr
            haveI : In b0 wr := ⟨hcar.lt⟩
            haveI : In (b0 + 1) wr := ⟨World.block_lt_of_cell? wr _ k0r⟩
            have gct := has.gct
            haveI : In gc wr := ⟨gct⟩
            have i3 : k < 20 := h20
            clear hst has hlen hals halr hwf how hb ho hoc hoc2
            go_upto_if 56 with (fail)
            go_cut [12] (fun v wx => ∃ t : Nat, t < nt ∧ v = .int .i64 (t : Int) ∧ Nw wr wx)
            case first =>
              by_cases hw : k < nw
              · obtain ⟨bw, ow, x, rfl, hbw, hx, hxc⟩ := HWHO.out.get hw
                have hxr := cell_nw hxc (HN2.out.trans hnwr)
                haveI : In bw wr := ⟨World.block_lt_of_cell? wr _ hxr⟩
                obtain ⟨t, ht, m1, m2, m3, m4⟩ := tmod_nat x H64.out
                have M4 := Lib.hid m4
                have hnt := HNT.out
                have hnz : ¬ (nt : Int) = 0 := by have := H64.out; omega
                have hnz2 : ((nt : Int) == 0) = false := by simpa using hnz
                have i4 : (k : Int) < (nw : Int) := by omega
                have i5 : (0 : Int) ≤ (k : Int) := by omega
                have c0r : wr.cell? ⟨b0, 0, none⟩ = some (.int .i64 c'.thr) := hcar.at_ 0 _ rfl
                rw [hnt] at c0r
                clear hxc hbw hx hnt m4
                go_upto_region 12 with (fail)
                (refine wp_region_nw (by kernel_rfl) (by kernel_rfl) ?_; (repeat (go_big_quiet_step (fail))); refine wpQuiet_nil ?_; intro _ hreg; obtain ⟨dW, rfl⟩ : Nw _ _ := hreg)
                go_wp2_with fail
                go_meet
                exact ⟨t, ht, by rw [M4.out], (by repeat (first | exact Xt.Nw.refl _ | refine Xt.Nw.drew ?_ | refine Xt.Nw.drewN ?_ _ | refine Xt.Nw.alloc ?_ _ | refine Xt.Nw.joined ?_ | refine Xt.Nw.drewd ?_ | refine Xt.Nw.drewdN ?_ | refine Xt.Nw.ext ?_ | refine Xt.Nw.ext_some ?_ (by assumption) | refine Xt.Nw.setCell ?_ (by simp [go_sem] <;> omega) _))⟩
              · have i4 : ¬ (k : Int) < (nw : Int) := by omega
                go_wp2_with fail
                go_meet
                exact ⟨0, by have := H64.out; omega, rfl, Nw.refl _⟩
            case rest =>
              obtain ⟨t, ht, rfl, hnc⟩ := hcut
              obtain ⟨q, hq⟩ : ∃ q : Int, q = (((ofT (t : Int) hs).length : Nat) : Int) := ⟨_, rfl⟩
              have hqb : 0 ≤ q ∧ q ≤ 20 := by have : ((ofT (t : Int) hs).length : Nat) ≤ hs.length := List.length_filter_le _ _; have := HLEN.out; omega
              obtain ⟨R, hR⟩ : ∃ R, R = doM (stD (s1M c') hs) t o := ⟨_, rfl⟩
              obtain ⟨r2, s2⟩ := R
              have hdo : ∀ W, Nw wr W → Calls Tryz.prog 10 #[.pointer (some ⟨gm, 0, none⟩), .int .i64 (t : Int), .agg #[.int .u8 o.k, .int .u64 o.key, .int .u64 o.hi, .int .u64 o.val, .int .u64 o.old, .int .u64 o.by_, .int .u64 o.draw]] W (DoP W2 gm gc nt r2 s2 (k + 1) (.slice Ab k cb) hs hs) := fun W hq => by
                have := do_AS (HAS2.out.grow hq) (by omega) (t : Int) o HOW.out
                rw [← hR] at this
                exact this
              have HDO := Lib.hid hdo
              have HKS := Lib.hid (fun W (hn : Nw wr W) => (HAS2.out.grow hn).reads ht hq HOC.out)
              have HR := Lib.hid hR
              have HQ := Lib.hid hq
              have HQB := Lib.hid hqb
              have w1 : IntKind.i64.wrap (3 * (k : Int)) = 3 * (k : Int) := by rw [IntKind.wrap_i64]; omega
              have w2 : IntKind.i64.wrap (3 * (k : Int) + 2) = 3 * (k : Int) + 2 := by rw [IntKind.wrap_i64]; omega
              have j1 : (t : Int) < (nt : Int) := by omega
              have j2 : (0 : Int) ≤ (t : Int) := by omega
              clear hdo hR hq hqb
              go_upto_region 13 with (fail)
              go_region_held3 (fun wq => wq.cell? ⟨gc, t, none⟩ = some (.int .i64 q) ∧ (loadOp (.pointer (some ⟨b, z + k * 7, none⟩))).run Tryz.prog wq = .ok (.agg #[.int .u8 o.k, .int .u64 o.key, .int .u64 o.hi, .int .u64 o.val, .int .u64 o.old, .int .u64 o.by_, .int .u64 o.draw]) wq) (first | exact HKS3.out _ (by (repeat (first | exact Xt.Nw.refl _ | assumption | refine Xt.Nw.drew ?_ | refine Xt.Nw.drewN ?_ _ | refine Xt.Nw.alloc ?_ _ | refine Xt.Nw.ext ?_))) | exact HKS2.out _ (by (repeat (first | exact Xt.Nw.refl _ | assumption | refine Xt.Nw.drew ?_ | refine Xt.Nw.drewN ?_ _ | refine Xt.Nw.alloc ?_ _ | refine Xt.Nw.ext ?_))) | exact HKS.out _ (by (repeat (first | exact Xt.Nw.refl _ | assumption | refine Xt.Nw.drew ?_ | refine Xt.Nw.drewN ?_ _ | refine Xt.Nw.alloc ?_ _ | refine Xt.Nw.ext ?_))))
                (first
                  | (refine step_appC rfl (.tmp 71) (.tmp 97) 41 rfl 46 (cv zc) 18 144 Tryz.underlying41 callInfo rfl (by decide) W2.heap.size W5 HAS5.out.nw.grown.size (.slice Ab k cb) k (cells hs) (by simp [Act.eval, Act.put]; try rfl) (by have := HAS5.out.row; unfold OwnC at this; rw [HLEN.out] at this; exact this) _ 1 1 _ (cl (nxC k t q o r2)) (by simp [Act.eval, Act.put]; try rfl) rfl rfl (cl_one _) (by unfold maxLen; omega) (by omega) ?_; intro v6 W6 hown hch6 hm6; have hown' : OwnC W6 W2.heap.size v6 (hs ++ [nxC k t q o r2]) := OwnC.cast hown (by rw [List.length_append, HLEN.out]; rfl) (by rw [cells_app]; rfl); have has6 := HAS5.out.push hown' hch6 hm6; obtain ⟨A6, c6, rfl⟩ := own_slice hown; have HAS6 := Lib.hid has6; have HKS3 := Lib.hid (fun W (hn : Nw W6 W) => (HAS6.out.grow hn).reads ht HQ.out HOC.out); clear hown hown' hch6 hm6 has6)
                  | (go_at_call 10; refine (HDO.out _ (by (repeat (first | exact Xt.Nw.refl _ | assumption | refine Xt.Nw.drew ?_ | refine Xt.Nw.drewN ?_ _ | refine Xt.Nw.alloc ?_ _ | refine Xt.Nw.ext ?_)))).mono ?_; intro e W5 hP; unfold DoP at hP; obtain ⟨rfl, p5, has5⟩ := hP; have HAS5 := Lib.hid has5; have HKS2 := Lib.hid (fun W (hn : Nw W5 W) => (HAS5.out.grow hn).reads ht HQ.out HOC.out); clear has5))
              have n1 := (HKS3.out W6 (Nw.refl _)).1
              have n2 := HAS6.out.frozen t
              haveI : In gc W6 := ⟨World.block_lt_of_cell? W6 _ n1⟩
              have w3 : IntKind.i64.wrap (q + 1) = q + 1 := by rw [IntKind.wrap_i64]; have := HQB.out; omega
              have w4 : wrap64 (q + 1) = q + 1 := by unfold wrap64; have := HQB.out; omega
              go_wp2_with fail
              refine ⟨⟨k + 1, A6, c6, by omega, by omega, by go_num, rfl, Lib.hid ⟨hs ++ [nxC k t q o r2], ?_⟩⟩, by simp [intOf]; omega⟩
              have hf := HAS6.out.count ht (x := nxC k t q o r2) rfl
              have hQ := HQ.out
              subst hQ
              exact AlP.next HLEN.out HALS.out HALR.out HWF.out HR.out HAS2.out.ok (by have := H64.out; omega) i3 HOW.out hf
          · have i2 : ¬ (k : Int) < 20 := by omega
            go_wp2_with fail
            go_meet
            exact ⟨Ab, k, cb, rfl, Lib.hid (by obtain ⟨hs, h⟩ := hst.out; exact ⟨hs, hk20, h⟩)⟩
        · have i1 : ¬ (k : Int) < (n : Int) := by omega
          go_wp2_with fail
          go_meet
          exact ⟨Ab, k, cb, rfl, Lib.hid (by obtain ⟨hs, h⟩ := hst.out; exact ⟨hs, hk20, h⟩)⟩
    case rest =>
      obtain ⟨Ab, k, cb, rfl, hst⟩ := hcut
      obtain ⟨hs, hk20, p, has, hlen, hals, halr, hwf⟩ := hst.out
      obtain ⟨hchk, o2, hX, hfl⟩ := alone_plain HCK.out hals halr
      have hfin : wFin c' cu hs = (0, (stD (s1M c') hs).l) := by rw [wFin_ok hX, hfl]
      have hnwc := has.nw
      obtain ⟨A', cp', e, hcs, hle, hcm, hba⟩ := has.row.form
      obtain ⟨rfl, e2, rfl⟩ : Ab = A' ∧ k = hs.length ∧ cb = cp' := by injection e with e1 e2 e3; exact ⟨e1, e2, e3⟩
      rw [← e2] at hcs hle
      have hin : In3 wc c' cu Ab k cb hs := ⟨HIN0.out.1.nw hnwc, HIN0.out.2.1, HIN0.out.2.2, by omega, hle, hcm, hcs, hwf⟩
      have HCK1 := Lib.hid (fun W (hq : Nw wc W) => wcheck_any (hin.nw hq))
      have HFI := Lib.hid (fun W (hq : Nw wc W) => wfinal_any (hin.nw hq))
      rw [hchk] at HCK1
      rw [hfin] at HFI
      unfold confV at HCK1 HFI
      obtain ⟨Q, hQ⟩ : ∃ Q, Q = (stD (s1M c') hs).l := ⟨_, rfl⟩
      have hQl : Q.length ≤ 500000 := by rw [hQ]; exact Nat.le_trans has.ok.len (by omega)
      have HPA := Lib.hid (fun W (hq : Nw wc W) => pairs_M W p _ (has.at_.nw hq) (by rw [← hQ]; omega))
      rw [has.gm] at HPA
      rw [← hQ] at HPA HFI
      obtain ⟨m, hm⟩ : ∃ m, m = Q.length := ⟨_, rfl⟩
      rw [← hm] at HPA hQl
      have HM := Lib.hid hm
      have HQL := Lib.hid hQl
      have HIN := Lib.hid hin
      have HALS := Lib.hid hals
      have HALR := Lib.hid halr
      have HLEN := Lib.hid (show hs.length = k from e2.symm)
      have HK20 := Lib.hid hk20
      have HBA := Lib.hid (show ∀ b o, Ab = some ⟨b, o, none⟩ → W2.heap.size ≤ b ∧ o = 0 from hba)
      have HROW := Lib.hid has.row
      have HNC := Lib.hid hnwc
      have k0c := cell_nw k0 hnwc
      have k1c := cell_nw k1 hnwc
      haveI hcac : ConfAt wc b0 c' := hcf.nw hnwc
      haveI : In b0 wc := ⟨hcac.lt⟩
      haveI : In (b0 + 1) wc := ⟨World.block_lt_of_cell? wc _ k0c⟩
      clear hst has hlen hals halr hwf hchk hX hfl hfin hnwc e hcs hle hcm hba e2 hin hQ hQl hm hk20
      go_wp2_with fail
      refine (HCK1.out _ ((by repeat (first | exact Xt.Nw.refl _ | refine Xt.Nw.drew ?_ | refine Xt.Nw.drewN ?_ _ | refine Xt.Nw.alloc ?_ _ | refine Xt.Nw.joined ?_ | refine Xt.Nw.drewd ?_ | refine Xt.Nw.drewdN ?_ | refine Xt.Nw.ext ?_ | refine Xt.Nw.ext_some ?_ (by assumption) | refine Xt.Nw.setCell ?_ (by simp [go_sem] <;> omega) _)))).mono ?_
      rintro e W4 ⟨rfl, hn4⟩
      haveI hca4' : ConfAt W4 b0 c' := hcac.nw (Nw.trans ((by repeat (first | exact Xt.Nw.refl _ | refine Xt.Nw.drew ?_ | refine Xt.Nw.drewN ?_ _ | refine Xt.Nw.alloc ?_ _ | refine Xt.Nw.joined ?_ | refine Xt.Nw.drewd ?_ | refine Xt.Nw.drewdN ?_ | refine Xt.Nw.ext ?_ | refine Xt.Nw.ext_some ?_ (by assumption) | refine Xt.Nw.setCell ?_ (by simp [go_sem] <;> omega) _))) hn4)
      haveI : In b0 W4 := ⟨hca4'.lt⟩
      have HN4 := Lib.hid (show Nw wc W4 from Nw.trans ((by repeat (first | exact Xt.Nw.refl _ | refine Xt.Nw.drew ?_ | refine Xt.Nw.drewN ?_ _ | refine Xt.Nw.alloc ?_ _ | refine Xt.Nw.joined ?_ | refine Xt.Nw.drewd ?_ | refine Xt.Nw.drewdN ?_ | refine Xt.Nw.ext ?_ | refine Xt.Nw.ext_some ?_ (by assumption) | refine Xt.Nw.setCell ?_ (by simp [go_sem] <;> omega) _))) hn4)
      clear hn4
      go_wp2_with fail
      refine (HFI.out _ (Nw.trans HN4.out ((by repeat (first | exact Xt.Nw.refl _ | refine Xt.Nw.drew ?_ | refine Xt.Nw.drewN ?_ _ | refine Xt.Nw.alloc ?_ _ | refine Xt.Nw.joined ?_ | refine Xt.Nw.drewd ?_ | refine Xt.Nw.drewdN ?_ | refine Xt.Nw.ext ?_ | refine Xt.Nw.ext_some ?_ (by assumption) | refine Xt.Nw.setCell ?_ (by simp [go_sem] <;> omega) _))))).mono ?_
      intro e W5 hP
      unfold PairsP at hP
      obtain ⟨v, rfl, hown, hn5, -⟩ := hP
      obtain ⟨A5, c5, rfl⟩ := own_slice hown
      have hrd5 := own_rd hown
      rw [show ((0 : Int), Q).2.length = m from HM.out.symm] at hrd5
      have HR5 := Lib.hid hrd5
      have HN5 := Lib.hid (show Nw wc W5 from Nw.trans HN4.out (Nw.trans ((by repeat (first | exact Xt.Nw.refl _ | refine Xt.Nw.drew ?_ | refine Xt.Nw.drewN ?_ _ | refine Xt.Nw.alloc ?_ _ | refine Xt.Nw.joined ?_ | refine Xt.Nw.drewd ?_ | refine Xt.Nw.drewdN ?_ | refine Xt.Nw.ext ?_ | refine Xt.Nw.ext_some ?_ (by assumption) | refine Xt.Nw.setCell ?_ (by simp [go_sem] <;> omega) _))) hn5))
      rw [show ((0 : Int), Q).2.length = m from HM.out.symm]
      clear hown hn5 hrd5
      go_wp2_with fail
      refine (HPA.out _ (Nw.trans HN5.out ((by repeat (first | exact Xt.Nw.refl _ | refine Xt.Nw.drew ?_ | refine Xt.Nw.drewN ?_ _ | refine Xt.Nw.alloc ?_ _ | refine Xt.Nw.joined ?_ | refine Xt.Nw.drewd ?_ | refine Xt.Nw.drewdN ?_ | refine Xt.Nw.ext ?_ | refine Xt.Nw.ext_some ?_ (by assumption) | refine Xt.Nw.setCell ?_ (by simp [go_sem] <;> omega) _))))).mono ?_
      rintro e W6 ⟨v, rfl, hown, hn6⟩
      obtain ⟨A6, c6, rfl⟩ := own_slice hown
      have HR6 := Lib.hid (own_rd hown)
      have HEQ := Lib.hid (fun W (hq : Nw W6 W) => eqPairs_any A5 A6 m m c5 c6 Q Q W (HR5.out.nw (Nw.trans (Nw.trans ((by repeat (first | exact Xt.Nw.refl _ | refine Xt.Nw.drew ?_ | refine Xt.Nw.drewN ?_ _ | refine Xt.Nw.alloc ?_ _ | refine Xt.Nw.joined ?_ | refine Xt.Nw.drewd ?_ | refine Xt.Nw.drewdN ?_ | refine Xt.Nw.ext ?_ | refine Xt.Nw.ext_some ?_ (by assumption) | refine Xt.Nw.setCell ?_ (by simp [go_sem] <;> omega) _))) hn6) hq)) (HR6.out.nw hq) (by have := HQL.out; omega) (by have := HQL.out; omega))
      simp only [decide_true] at HEQ
      have HN6 := Lib.hid (show Nw wc W6 from Nw.trans HN5.out (Nw.trans ((by repeat (first | exact Xt.Nw.refl _ | refine Xt.Nw.drew ?_ | refine Xt.Nw.drewN ?_ _ | refine Xt.Nw.alloc ?_ _ | refine Xt.Nw.joined ?_ | refine Xt.Nw.drewd ?_ | refine Xt.Nw.drewdN ?_ | refine Xt.Nw.ext ?_ | refine Xt.Nw.ext_some ?_ (by assumption) | refine Xt.Nw.setCell ?_ (by simp [go_sem] <;> omega) _))) hn6))
      clear hown hn6
      go_wp2_with fail
      refine (HEQ.out _ ((by repeat (first | exact Xt.Nw.refl _ | refine Xt.Nw.drew ?_ | refine Xt.Nw.drewN ?_ _ | refine Xt.Nw.alloc ?_ _ | refine Xt.Nw.joined ?_ | refine Xt.Nw.drewd ?_ | refine Xt.Nw.drewdN ?_ | refine Xt.Nw.ext ?_ | refine Xt.Nw.ext_some ?_ (by assumption) | refine Xt.Nw.setCell ?_ (by simp [go_sem] <;> omega) _)))).mono ?_
      rintro e W7 ⟨rfl, hn7⟩
      have HN7 := Lib.hid (show Nw wc W7 from Nw.trans HN6.out (Nw.trans ((by repeat (first | exact Xt.Nw.refl _ | refine Xt.Nw.drew ?_ | refine Xt.Nw.drewN ?_ _ | refine Xt.Nw.alloc ?_ _ | refine Xt.Nw.joined ?_ | refine Xt.Nw.drewd ?_ | refine Xt.Nw.drewdN ?_ | refine Xt.Nw.ext ?_ | refine Xt.Nw.ext_some ?_ (by assumption) | refine Xt.Nw.setCell ?_ (by simp [go_sem] <;> omega) _))) hn7))
      have k1d := cell_nw k1c HN7.out
      haveI hca7 : ConfAt W7 b0 c' := hcac.nw HN7.out
      haveI : In b0 W7 := ⟨hca7.lt⟩
      haveI : In (b0 + 1) W7 := ⟨World.block_lt_of_cell? W7 _ k1d⟩
      clear hn7
      by_cases hk0 : k = 0
      · subst hk0
        go_wp2_with fail
        refine (awake_any _).mono ?_
        rintro e W6 ⟨rfl, hn6⟩
        have HN6 := Lib.hid (Nw.trans (HN2.out.trans (HNC.out.trans (HN7.out.trans ((by repeat (first | exact Xt.Nw.refl _ | refine Xt.Nw.drew ?_ | refine Xt.Nw.drewN ?_ _ | refine Xt.Nw.alloc ?_ _ | refine Xt.Nw.joined ?_ | refine Xt.Nw.drewd ?_ | refine Xt.Nw.drewdN ?_ | refine Xt.Nw.ext ?_ | refine Xt.Nw.ext_some ?_ (by assumption) | refine Xt.Nw.setCell ?_ (by simp [go_sem] <;> omega) _)))))) hn6)
        clear hn6
        go_wp2
        go_ret
        exact ⟨rfl, HN6.out⟩
      · have hkz : ¬ (k : Int) = 0 := by omega
        have hkz2 : ((k : Int) == 0) = false := by simpa using hkz
        have hkz3 : (k == 0) = false := by simpa using hk0
        obtain ⟨q, hq, m1, m2, m3, m4⟩ := tmod_nat wh (show 1 ≤ k ∧ k ≤ 64 by have := HK20.out; omega)
        obtain ⟨gh, oh, x, hAb, hgh, hx, hxc⟩ := (HIN.out.nw HN7.out).hl.get hq
        obtain ⟨hgb, rfl⟩ := HBA.out gh oh hAb
        subst hAb
        have hthr : W7.there gh (q * 18 + 13) 5 := fun j hj => by
          have hr := hxc.range
          refine ⟨?_, ?_⟩
          · have := hr (13 + j) _ (List.getElem?_eq_getElem (show 13 + j < (cl x).length by show 13 + j < 18; omega))
            rw [show 0 + q * 18 + (13 + j) = q * 18 + 13 + j by omega] at this
            rw [this]; rfl
          · exact (frozen_nw (by have := HIN.out.lt rfl (by omega); exact this) HN7.out).trans (by have h9 := HROW.out; unfold OwnC at h9; rw [HLEN.out] at h9; exact World.ownsRow.frozenAt h9 _)
        have hst7 := run_storeRes r hthr
        obtain ⟨W8, hW8⟩ : ∃ W, W = W7.setCells gh (q * 18 + 13) (rcells r) := ⟨_, rfl⟩
        have hch8 : Chg [gh] W7 W8 := by rw [hW8]; exact chg_cells5 W7 gh _ r
        have hcs8 : Cs W8 (some ⟨gh, 0, none⟩) k (hs.set q (setR x r)) := by rw [hW8]; exact ((HIN.out.nw HN7.out).hl).setR hx r
        rw [← hW8] at hst7
        have hn28 : Nw W2 W8 := nw_chg2 (HNC.out.trans HN7.out) hch8 (fun g hg => by simp at hg; subst hg; exact hgb)
        have krs7 := run_loadRes (range_nw KRS.out (HNC.out.trans HN7.out))
        have hin8 : In3 W8 c' cu (some ⟨gh, 0, none⟩) k cb (hs.set q (setR x r)) := ⟨HIN0.out.1.nw hn28, HIN0.out.2.1, HIN0.out.2.2, HIN.out.n1, HIN.out.nc, HIN.out.cap_, hcs8, fun y hy => by
          rcases List.mem_or_eq_of_mem_set hy with h | rfl
          · exact HIN.out.wf y h
          · have h1 := HIN.out.wf x (List.mem_of_getElem? hx)
            exact ⟨⟨h1.wf.th, h1.wf.ix, h1.wf.inv, h1.wf.took, h1.wf.ans, h1.wf.st⟩, h1.op, HRK.out⟩⟩
        have hwx := HIN.out.wf x (List.mem_of_getElem? hx)
        have hOT := Lib.hid (fun (hno : (acceptM (stD (s1M c') (hs.take q)) x.th (opC x) r).1 = false) => alone_other (c := c') (cuts := cu) HCK.out HALS.out HALR.out hx hno)
        have HX := Lib.hid hx
        have KR8 := Lib.hid (show W8.rangeAt (b0 + 1) 2 (rcells r) from range_chg (range_nw KRS.out (HNC.out.trans HN7.out)) hch8 (fun e => by simp at e; have := HOX1.out; omega))
        have HWX := Lib.hid hwx
        have HIN8 := Lib.hid hin8
        have HN28 := Lib.hid hn28
        have HM4 := Lib.hid m4
        have HCK2 := Lib.hid (fun W (hq : Nw W8 W) => wcheck_any (hin8.nw hq))
        obtain ⟨e9, he9⟩ : ∃ z, z = (wChk c' cu (hs.set q (setR x r))).2 := ⟨_, rfl⟩
        obtain ⟨p9, hp9⟩ : ∃ z, z = (wChk c' cu (hs.set q (setR x r))).1 := ⟨_, rfl⟩
        rw [← he9] at HCK2 hOT
        rw [← hp9] at HCK2
        unfold confV at HCK2
        haveI hca8 : ConfAt W8 b0 c' := hcf.nw hn28
        haveI : In b0 W8 := ⟨hca8.lt⟩
        haveI : In gh W7 := ⟨hgh⟩
        have iq1 : (q : Int) < (k : Int) := by omega
        have iq2 : (0 : Int) ≤ (q : Int) := by omega
        clear hx hxc hthr hW8 hch8 hcs8 hn28 hin8 hwx he9 hp9 hgb m4
        go_upto_region 22 with (fail)
        rw [HM4.out]
        clear hkz hkz2 hkz3 m1 m2 m3
        go_upto_region 23 with (fail)
        clear hst7 krs7
        go_wp2_with fail
        refine (HNEW.out _ (HN28.out.trans ((by repeat (first | exact Xt.Nw.refl _ | refine Xt.Nw.drew ?_ | refine Xt.Nw.drewN ?_ _ | refine Xt.Nw.alloc ?_ _ | refine Xt.Nw.joined ?_ | refine Xt.Nw.drewd ?_ | refine Xt.Nw.drewdN ?_ | refine Xt.Nw.ext ?_ | refine Xt.Nw.ext_some ?_ (by assumption) | refine Xt.Nw.setCell ?_ (by simp [go_sem] <;> omega) _))))).mono ?_
        rintro e W9 ⟨P1, rfl, hm9, hf9, hn9⟩
        obtain ⟨g2, hg2⟩ : ∃ g, g = P1.gm := ⟨_, rfl⟩
        rw [← hg2]
        have hs1 : s1M c' = ⟨c'.sl, [], List.replicate nt Th0⟩ := by unfold s1M; rw [HNT.out, Int.toNat_natCast]
        have hn89 : Nw W8 W9 := Nw.trans ((by repeat (first | exact Xt.Nw.refl _ | refine Xt.Nw.drew ?_ | refine Xt.Nw.drewN ?_ _ | refine Xt.Nw.alloc ?_ _ | refine Xt.Nw.joined ?_ | refine Xt.Nw.drewd ?_ | refine Xt.Nw.drewdN ?_ | refine Xt.Nw.ext ?_ | refine Xt.Nw.ext_some ?_ (by assumption) | refine Xt.Nw.setCell ?_ (by simp [go_sem] <;> omega) _))) hn9
        have hls : LS W8 g2 (stD (s1M c') (hs.take 0)) 0 W9 := by
          refine ⟨P1, hg2.symm, ?_, ?_, fun g hg => Nat.le_trans (show W8.heap.size ≤ _ from (show Nw W8 _ from (by repeat (first | exact Xt.Nw.refl _ | refine Xt.Nw.drew ?_ | refine Xt.Nw.drewN ?_ _ | refine Xt.Nw.alloc ?_ _ | refine Xt.Nw.joined ?_ | refine Xt.Nw.drewd ?_ | refine Xt.Nw.drewdN ?_ | refine Xt.Nw.ext ?_ | refine Xt.Nw.ext_some ?_ (by assumption) | refine Xt.Nw.setCell ?_ (by simp [go_sem] <;> omega) _))).grown.size) (hf9 g hg), hn89⟩
          · show MAt W9 P1 (s1M c'); rw [hs1]; exact hm9
          · show (s1M c').Ok 0; rw [hs1]; exact ⟨Nat.le_refl _, List.Pairwise.nil, fun _ h => (by cases h), (by simp; have := H64.out; omega), fun x hx => (by rw [List.eq_of_mem_replicate hx]; exact ⟨fun h => (by cases h), fun h => (by cases h), fun h => (by cases h)⟩)⟩
        have HLS := Lib.hid hls
        clear hm9 hf9 hn9 hg2 hs1 hn89 hls
        go_wp2_with fail
        go_loopw [17] (fun a wr => ∃ j : Nat, j ≤ q ∧ a = .int .i64 j ∧ Hid (LS W8 g2 (stD (s1M c') (hs.take j)) j wr)) (fun a _ => q - (intOf a).toNat)
        case atStart => exact ⟨0, Nat.zero_le _, rfl, HLS⟩
        case round =>
          obtain ⟨j, hj, rfl, hls⟩ := hrel
          haveI : In g2 wr := ⟨hls.out.im⟩
          by_cases hjq : j < q
          · obtain ⟨gh', oh', y, e1, -, hy, hyc⟩ := HIN8.out.hl.get (show j < k by omega)
            obtain ⟨rfl, rfl⟩ : gh = gh' ∧ 0 = oh' := by injection e1 with e1; injection e1 with e1 e2; exact ⟨e1, e2⟩
            have hy' : hs[j]? = some y := by rw [List.getElem?_set_ne (by omega)] at hy; exact hy
            have hwy := HIN.out.wf y (List.mem_of_getElem? hy')
            obtain ⟨ty, hty⟩ : ∃ z, z = y.th := ⟨_, rfl⟩
            obtain ⟨oy, hoy⟩ : ∃ z, z = opC y := ⟨_, rfl⟩
            have hc0 : W8.cell? ⟨gh, j * 18, none⟩ = some (.int .i64 ty) := by
              have := hyc.1; rw [Nat.zero_add] at this; rw [hty]; exact this
            have hro : W8.rangeAt gh (j * 18 + 2) (ocells oy) := by have := hyc.opr; rw [Nat.zero_add] at this; rw [hoy]; exact this
            have HDO := Lib.hid (fun W (hq : Nw wr W) => do_LS (hls.out.grow hq) (show j ≤ 500000 by have := HK20.out; omega) ty oy (by rw [hoy]; exact hwy.op))
            unfold opV resV op7 at HDO
            have hnwr := hls.out.nw
            have HKS := Lib.hid (fun W (hn : Nw W8 W) => And.intro (cell_nw hc0 hn) (run_loadOp (range_nw hro hn)))
            have HST := Lib.hid (show stD (s1M c') (hs.take (j + 1)) = (doM (stD (s1M c') (hs.take j)) ty oy).2 by rw [stD_take hy', hty, hoy])
            have ij1 : (j : Int) < (k : Int) := by omega
            have ij2 : (0 : Int) ≤ (j : Int) := by omega
            have ij3 : (j : Int) < (q : Int) := by omega
            have ij4 : j < 1000 := by have := HK20.out; omega
            clear e1 hy hyc hy' hwy hty hoy hc0 hro
            go_upto_region 27 with (fail)
            go_region_held3 (fun wq => wq.cell? ⟨gh, j * 18, none⟩ = some (.int .i64 ty) ∧ (loadOp (.pointer (some ⟨gh, j * 18 + 2, none⟩))).run Tryz.prog wq = .ok (.agg #[.int .u8 oy.k, .int .u64 oy.key, .int .u64 oy.hi, .int .u64 oy.val, .int .u64 oy.old, .int .u64 oy.by_, .int .u64 oy.draw]) wq) (exact HKS.out _ (by (repeat (first | exact Xt.Nw.refl _ | assumption | refine Xt.Nw.drew ?_ | refine Xt.Nw.drewN ?_ _ | refine Xt.Nw.alloc ?_ _ | refine Xt.Nw.ext ?_))))
              ((go_at_call 10; refine (HDO.out _ (by (repeat (first | exact Xt.Nw.refl _ | assumption | refine Xt.Nw.drew ?_ | refine Xt.Nw.drewN ?_ _ | refine Xt.Nw.alloc ?_ _ | refine Xt.Nw.ext ?_)))).mono ?_; rintro e W10 ⟨rfl, hls10⟩; have HLS10 := Lib.hid hls10; have hn10 : Nw W8 W10 := hls10.nw; clear hls10))
            go_wp2_with fail
            exact ⟨⟨j + 1, by omega, by go_num, Lib.hid (by rw [HST.out]; exact HLS10.out)⟩, by simp [intOf]; omega⟩
          · obtain rfl : j = q := by omega
            obtain ⟨gh', oh', y, e1, -, hy, hyc⟩ := HIN8.out.hl.get (show j < k by omega)
            obtain ⟨rfl, rfl⟩ : gh = gh' ∧ 0 = oh' := by injection e1 with e1; injection e1 with e1 e2; exact ⟨e1, e2⟩
            obtain rfl : y = setR x r := by rw [List.getElem?_set_self (List.getElem?_eq_some_iff.1 HX.out).1] at hy; injection hy with hy; exact hy.symm
            obtain ⟨tx, htx⟩ : ∃ z, z = x.th := ⟨_, rfl⟩
            obtain ⟨ox, hox⟩ : ∃ z, z = opC x := ⟨_, rfl⟩
            obtain ⟨ab, hab⟩ : ∃ z, z = (acceptM (stD (s1M c') (hs.take j)) x.th (opC x) r).1 := ⟨_, rfl⟩
            have hc0 : W8.cell? ⟨gh, j * 18, none⟩ = some (.int .i64 tx) := by
              have := hyc.1; rw [Nat.zero_add] at this; rw [htx]; exact this
            have hro : W8.rangeAt gh (j * 18 + 2) (ocells ox) := by have := hyc.opr; rw [Nat.zero_add] at this; rw [hox]; exact this
            have hrr : W8.rangeAt (b0 + 1) 2 (rcells r) := KR8.out
            have HAC := Lib.hid (fun W (hq : Nw wr W) => accept_LS (hls.out.grow hq) (show j ≤ 500000 by have := HK20.out; omega) tx ox (by rw [hox]; exact HWX.out.op) r HRK.out)
            rw [htx, hox, ← hab, ← htx, ← hox] at HAC
            unfold opV resV op7 at HAC
            have hnwr := hls.out.nw
            have HKS := Lib.hid (fun W (hn : Nw W8 W) => And.intro (cell_nw hc0 hn) (And.intro (run_loadOp (range_nw hro hn)) (run_loadRes (range_nw hrr hn))))
            have HOT2 := Lib.hid (fun (h : ab = false) => hOT.out (hab ▸ h))
            have ij3 : ¬ (j : Int) < (j : Int) := by omega
            clear e1 hy hyc htx hox hab hc0 hro hrr hOT
            go_upto_region 28 with (fail)
            go_region_held3 (fun wq => wq.cell? ⟨gh, j * 18, none⟩ = some (.int .i64 tx) ∧ (loadOp (.pointer (some ⟨gh, j * 18 + 2, none⟩))).run Tryz.prog wq = .ok (.agg #[.int .u8 ox.k, .int .u64 ox.key, .int .u64 ox.hi, .int .u64 ox.val, .int .u64 ox.old, .int .u64 ox.by_, .int .u64 ox.draw]) wq ∧ (loadRes (.pointer (some ⟨b0 + 1, 2, none⟩))).run Tryz.prog wq = .ok (.agg #[.int .i64 r.err, .bool r.fd, .int .u64 r.key, .int .u64 r.val, .int .i64 r.cnt]) wq) (exact HKS.out _ (by (repeat (first | exact Xt.Nw.refl _ | assumption | refine Xt.Nw.drew ?_ | refine Xt.Nw.drewN ?_ _ | refine Xt.Nw.alloc ?_ _ | refine Xt.Nw.ext ?_))))
              ((go_at_call 15; refine (HAC.out _ (by (repeat (first | exact Xt.Nw.refl _ | assumption | refine Xt.Nw.drew ?_ | refine Xt.Nw.drewN ?_ _ | refine Xt.Nw.alloc ?_ _ | refine Xt.Nw.ext ?_)))).mono ?_; rintro e W10 ⟨rfl, hls10⟩; have hn10 : Nw W8 W10 := hls10.nw; clear hls10))
            haveI hca10 : ConfAt W10 b0 c' := hca8.nw hn10
            haveI : In b0 W10 := ⟨hca10.lt⟩
            have HN10 := Lib.hid hn10
            clear hn10 hnwr
            go_wp2_with fail
            refine (HCK2.out _ (Nw.trans HN10.out ((by repeat (first | exact Xt.Nw.refl _ | refine Xt.Nw.drew ?_ | refine Xt.Nw.drewN ?_ _ | refine Xt.Nw.alloc ?_ _ | refine Xt.Nw.joined ?_ | refine Xt.Nw.drewd ?_ | refine Xt.Nw.drewdN ?_ | refine Xt.Nw.ext ?_ | refine Xt.Nw.ext_some ?_ (by assumption) | refine Xt.Nw.setCell ?_ (by simp [go_sem] <;> omega) _))))).mono ?_
            rintro e W11 ⟨rfl, hn11⟩
            have HN11 := Lib.hid (HN2.out.trans (HN28.out.trans (HN10.out.trans (Nw.trans ((by repeat (first | exact Xt.Nw.refl _ | refine Xt.Nw.drew ?_ | refine Xt.Nw.drewN ?_ _ | refine Xt.Nw.alloc ?_ _ | refine Xt.Nw.joined ?_ | refine Xt.Nw.drewd ?_ | refine Xt.Nw.drewdN ?_ | refine Xt.Nw.ext ?_ | refine Xt.Nw.ext_some ?_ (by assumption) | refine Xt.Nw.setCell ?_ (by simp [go_sem] <;> omega) _))) hn11))))
            clear hn11
            cases ab with
            | true =>
              go_wp2_with fail
              refine (awake_any _).mono ?_
              rintro e W6 ⟨rfl, hn6⟩
              have HN6 := Lib.hid (Nw.trans (Nw.trans HN11.out ((by repeat (first | exact Xt.Nw.refl _ | refine Xt.Nw.drew ?_ | refine Xt.Nw.drewN ?_ _ | refine Xt.Nw.alloc ?_ _ | refine Xt.Nw.joined ?_ | refine Xt.Nw.drewd ?_ | refine Xt.Nw.drewdN ?_ | refine Xt.Nw.ext ?_ | refine Xt.Nw.ext_some ?_ (by assumption) | refine Xt.Nw.setCell ?_ (by simp [go_sem] <;> omega) _)))) hn6)
              clear hn6
              go_wp2
              go_ret
              exact ⟨rfl, HN6.out⟩
            | false =>
              obtain rfl : e9 = 18 := HOT2.out rfl
              go_wp2_with fail
              refine (awake_any _).mono ?_
              rintro e W6 ⟨rfl, hn6⟩
              have HN6 := Lib.hid (Nw.trans (Nw.trans HN11.out ((by repeat (first | exact Xt.Nw.refl _ | refine Xt.Nw.drew ?_ | refine Xt.Nw.drewN ?_ _ | refine Xt.Nw.alloc ?_ _ | refine Xt.Nw.joined ?_ | refine Xt.Nw.drewd ?_ | refine Xt.Nw.drewdN ?_ | refine Xt.Nw.ext ?_ | refine Xt.Nw.ext_some ?_ (by assumption) | refine Xt.Nw.setCell ?_ (by simp [go_sem] <;> omega) _)))) hn6)
              clear hn6
              go_wp2
              go_ret
              exact ⟨rfl, HN6.out⟩
  · have HNO := Lib.hid (fun W (hq : Nw W2 W) => new_no c' cu W (HIN0.out.1.nw hq) HIN0.out.2.1 HIN0.out.2.2 hck)
    unfold confV at HNO
    go_wp2_with fail
    refine (HNO.out _ ((by repeat (first | exact Xt.Nw.refl _ | refine Xt.Nw.drew ?_ | refine Xt.Nw.drewN ?_ _ | refine Xt.Nw.alloc ?_ _ | refine Xt.Nw.joined ?_ | refine Xt.Nw.drewd ?_ | refine Xt.Nw.drewdN ?_ | refine Xt.Nw.ext ?_ | refine Xt.Nw.ext_some ?_ (by assumption) | refine Xt.Nw.setCell ?_ (by simp [go_sem] <;> omega) _)))).mono ?_
    rintro e W3 ⟨rfl, hn3⟩
    haveI hca3 : ConfAt W3 b0 c' := hcf.nw (Nw.trans ((by repeat (first | exact Xt.Nw.refl _ | refine Xt.Nw.drew ?_ | refine Xt.Nw.drewN ?_ _ | refine Xt.Nw.alloc ?_ _ | refine Xt.Nw.joined ?_ | refine Xt.Nw.drewd ?_ | refine Xt.Nw.drewdN ?_ | refine Xt.Nw.ext ?_ | refine Xt.Nw.ext_some ?_ (by assumption) | refine Xt.Nw.setCell ?_ (by simp [go_sem] <;> omega) _))) hn3)
    haveI : In b0 W3 := ⟨hca3.lt⟩
    have HN3 := Lib.hid (HN2.out.trans (Nw.trans ((by repeat (first | exact Xt.Nw.refl _ | refine Xt.Nw.drew ?_ | refine Xt.Nw.drewN ?_ _ | refine Xt.Nw.alloc ?_ _ | refine Xt.Nw.joined ?_ | refine Xt.Nw.drewd ?_ | refine Xt.Nw.drewdN ?_ | refine Xt.Nw.ext ?_ | refine Xt.Nw.ext_some ?_ (by assumption) | refine Xt.Nw.setCell ?_ (by simp [go_sem] <;> omega) _))) hn3))
    clear hn3 hck
    go_wp2_with fail
    refine (awake_any _).mono ?_
    rintro e W6 ⟨rfl, hn6⟩
    have HN6 := Lib.hid (Nw.trans (Nw.trans HN3.out ((by repeat (first | exact Xt.Nw.refl _ | refine Xt.Nw.drew ?_ | refine Xt.Nw.drewN ?_ _ | refine Xt.Nw.alloc ?_ _ | refine Xt.Nw.joined ?_ | refine Xt.Nw.drewd ?_ | refine Xt.Nw.drewdN ?_ | refine Xt.Nw.ext ?_ | refine Xt.Nw.ext_some ?_ (by assumption) | refine Xt.Nw.setCell ?_ (by simp [go_sem] <;> omega) _)))) hn6)
    clear hn6
    go_wp2
    go_ret
    exact ⟨rfl, HN6.out⟩
end Go.Proofs.YtfnapkfdocabcaaGreat
