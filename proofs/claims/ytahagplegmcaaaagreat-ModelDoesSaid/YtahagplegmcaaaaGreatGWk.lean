import Derived.Test.YtahagplegmcaaaaGreatGWj
import Derived.Test.YtahagplegmcaaaaGreatGQp
set_option linter.unusedVariables false
set_option linter.unusedSimpArgs false
namespace Go.Proofs.YtahagplegmcaaaaGreat
open Go.RowKit Go.Xt
/-! Copy of the reference's model. -/
noncomputable def rthCap (W : World) (n : Nat) : Nat := grownCap W (0 + n) 0 81
noncomputable def rthArr (W : World) (th : List Th) : Array Value := ([] ++ rtcells th).toArray ++ Builtin.zeroCells (Value.agg #[.bool false, .bool false, .bool false, .int .u64 0, .int .u64 0]).cells (rthCap W th.length - (0 + th.length))
theorem rtcells_one (th : List Th) : ∀ u ∈ rtcells th, u.oneCell' = true := by
  intro u hu
  obtain ⟨x, _, hx⟩ := List.mem_flatMap.1 hu
  simp [rthc] at hx
  rcases hx with rfl | rfl | rfl | rfl | rfl <;> rfl
theorem run_rthcopy (W : World) (g0 gt ct : Nat) (th : List Th) (h : RThR W gt th) (h0 : 0 < th.length) (hn : th.length ≤ 1000) (ty : TypeId) :
    (Builtin.append_ #[61, 61] ty #[.slice (some ⟨g0, 0, none⟩) 0 0, .slice (some ⟨gt, 0, none⟩) th.length ct]).run Tryz.prog W = .ok (.slice (some ⟨W.heap.size, 0, none⟩) (0 + th.length) (rthCap W th.length)) (W.drew.alloc (.cells (rthArr W th) 81)) := by
  obtain ⟨i, hi1, hz0, hz1, hz2⟩ := info_parts seatInfo
  obtain ⟨c, h⟩ := h
  have hsrc : Src Tryz.prog i.size 61 (.slice (some ⟨gt, 0, none⟩) th.length ct) th.length (rtcells th) W :=
    Src.ofSlice W Tryz.underlying61 ⟨gt, 0, none⟩ th.length ct (rtcells th) (by rw [hz1, rtcells_len]) (fun j u hu => by
      rw [add_at, Nat.zero_add]
      have := (List.getElem?_eq_some_iff.1 hu).1
      rw [rtcells_len] at this
      rw [h.cellAt j this]; exact hu) (rtcells_one th)
  exact run_append_grow_src W 61 61 ty 81 i _ Tryz.underlying61 hi1 hz0 (some ⟨g0, 0, none⟩) 0 0 [] (run_firstCells_some W.drew i.size 0 ⟨g0, 0, none⟩ 0 0 [] (by simp) (fun j v hv => by simp at hv)) _ th.length (rtcells th) hsrc (by omega) (by omega) (growslice_fits (by omega) (by rw [hz2]; omega))
theorem rthcopy_row (W : World) (th : List Th) (hn : th.length ≤ 1000) : RThR (W.drew.alloc (.cells (rthArr W th) 81)) W.heap.size th := by
  have hge : th.length ≤ rthCap W th.length := by have := grownCap_ge W (0 + th.length) 0 81; unfold rthCap; omega
  have hle : rthCap W th.length ≤ maxLen := grownCap_le_maxLen _ _ _ _ (by unfold maxLen; omega)
  have hz : (Value.agg #[.bool false, .bool false, .bool false, .int .u64 0, .int .u64 0]).cells.size = 5 := rfl
  have hsz : (rthArr W th).size = rthCap W th.length * 5 := by
    unfold rthArr
    rw [Array.size_append, size_zeroCells, hz, List.size_toArray, List.nil_append, rtcells_len]
    omega
  have hrow := World.ownsRow_lit (base := 0) (e := 81) (size := 5) W.drew (rthArr W th) (rthCap W th.length) (Nat.zero_le _) hle hsz
  have h2 := own_take hrow hge
  have h3 : (rthArr W th).toList.take (th.length * 5) = rtcells th := by
    unfold rthArr
    rw [Array.toList_append]
    exact List.take_left' (rtcells_len th)
  rw [h3] at h2
  exact ⟨_, h2⟩
/-- A model boxed last. -/
theorem rbox_at {Z : World} {c : Cf} {s : Md} {gp gt ct : Nat} {v : Value} (hom : OM Z gp v s.l) (hth : RThR Z gt s.th) (hs : c.sl = s.slots) (ne : gt ≠ gp) (nv : v.ownBlock ≠ some gt) :
    RAt (Z.alloc (.cells (ccells c ++ [Value.pointer (some ⟨gp, 0, none⟩), Value.slice (some ⟨gt, 0, none⟩) s.th.length ct]).toArray 63)) ⟨Z.heap.size, gt, gp, v⟩ c s := by
  have hA : Nw Z (Z.alloc (.cells (ccells c ++ [Value.pointer (some ⟨gp, 0, none⟩), Value.slice (some ⟨gt, 0, none⟩) s.th.length ct]).toArray 63)) := (Nw.refl _).alloc _
  have h1 := hom.lt
  have h2 := hth.inn
  refine ⟨fun i v hv => ?_, hs, ?_, ⟨ct, ?_⟩, fun o => ?_, hth.nw hA, hom.nw hA, ?_, ?_, ne, fun e => ?_, nv⟩
  · have hi := (List.getElem?_eq_some_iff.1 hv).1
    show (Z.alloc _).cell? ⟨Z.heap.size, i, none⟩ = some v
    rw [World.cell?_alloc_new, List.getElem?_toArray, List.getElem?_append_left hi]; exact hv
  · show (Z.alloc _).cell? ⟨Z.heap.size, 16, none⟩ = _
    rw [World.cell?_alloc_new, List.getElem?_toArray]; rfl
  · show (Z.alloc _).cell? ⟨Z.heap.size, 17, none⟩ = some (.slice _ s.th.length ct)
    rw [World.cell?_alloc_new, List.getElem?_toArray]; rfl
  · show (Z.alloc _).frozen? ⟨Z.heap.size, o, none⟩ = false
    simp [go_sem]
  · show Z.heap.size ≠ gt; omega
  · show Z.heap.size ≠ gp; omega
  · have h3 := hom.rlt e
    have h3 : Z.heap.size < Z.heap.size := h3
    omega
theorem RAt.conf {W : World} {p : Pl} {c : Cf} {s : Md} (h : RAt W p c s) : ConfAt W p.gm c := ⟨h.cf, h.im⟩
def RCopyP (w : World) (c : Cf) (s : Md) (e : Ending) (w' : World) : Prop := ∃ p' : Pl, e = .returned (.pointer (some ⟨p'.gm, 0, none⟩)) ∧ RAt w' p' c s ∧ (∀ g ∈ p'.foot, w.heap.size ≤ g) ∧ Nw w w'
theorem rcopy_fin {w WK WE : World} {gq n : Nat} {v' : Value} {c : Cf} {s : Md} (hK : Nw w WK) (hE : Nw WK WE) (hom : OM WK gq v' s.l) (hgq : w.heap.size ≤ gq) (hv : ∀ b, v'.ownBlock = some b → w.heap.size ≤ b) (hth : RThR (WE.alloc (.cells (rthArr WE s.th) 81)) WE.heap.size s.th) (hsl : c.sl = s.slots) (hn : n = s.th.length) (ct : Nat) :
    ∃ gt', gt' = WE.heap.size ∧ RAt ((WE.alloc (.cells (rthArr WE s.th) 81)).alloc (.cells (ccells c ++ [Value.pointer (some ⟨gq, 0, none⟩), Value.slice (some ⟨WE.heap.size, 0, none⟩) n ct]).toArray 63)) ⟨WE.heap.size + 1, gt', gq, v'⟩ c s ∧ (∀ g ∈ (⟨WE.heap.size + 1, gt', gq, v'⟩ : Pl).foot, w.heap.size ≤ g) ∧ Nw w ((WE.alloc (.cells (rthArr WE s.th) 81)).alloc (.cells (ccells c ++ [Value.pointer (some ⟨gq, 0, none⟩), Value.slice (some ⟨WE.heap.size, 0, none⟩) n ct]).toArray 63)) := by
  subst hn
  have hA : Nw WE (WE.alloc (.cells (rthArr WE s.th) 81)) := (Nw.refl _).alloc _
  have h1 := hom.lt
  have h2 := hE.grown.size
  have h3 := hK.grown.size
  have hz : (WE.alloc (.cells (rthArr WE s.th) 81)).heap.size = WE.heap.size + 1 := by simp
  have h := rbox_at (ct := ct) (hom.nw (hE.trans hA)) hth hsl (by omega) (fun e => by have := hom.rlt e; omega)
  rw [hz] at h
  refine ⟨_, rfl, h, fun g hg => ?_, ((hK.trans hE).alloc _).alloc _⟩
  rcases Pl.mem.1 hg with h9 | h9 | h9 | h9
  · have h9 : g = WE.heap.size + 1 := h9; omega
  · have h9 : g = WE.heap.size := h9; omega
  · have h9 : g = gq := h9; omega
  · exact hv g h9
set_option maxRecDepth 20000 in
set_option maxHeartbeats 8000000 in
theorem rcopy_M (w : World) (p : Pl) (c : Cf) (s : Md) (h : RAt w p c s) (hl : s.l.length ≤ 1000000) (ht0 : 0 < s.th.length) (htn : s.th.length ≤ 1000) :
    Calls Tryz.prog 18 #[.pointer (some ⟨p.gm, 0, none⟩)] w (RCopyP w c s) := by
  obtain ⟨gm, gt, gp, v⟩ := p
  haveI hca : ConfAt w gm c := h.conf
  have m1 : w.cell? ⟨gm, 16, none⟩ = some (.pointer (some ⟨gp, 0, none⟩)) := h.m1
  obtain ⟨ct, m2⟩ : ∃ ct, w.cell? ⟨gm, 17, none⟩ = some (.slice (some ⟨gt, 0, none⟩) s.th.length ct) := h.m2
  haveI : In gm w := ⟨h.im⟩
  have HC := Lib.hid (fun W (hw : Nw w W) => rcopy_om (h.om.nw hw : OM W gp v s.l) hl)
  have HAP := Lib.hid (fun W g0 (hw : Nw w W) ty => run_rthcopy W g0 gt ct s.th (RThR.nw h.th hw) ht0 htn ty)
  have HRW := Lib.hid (fun W => rthcopy_row W s.th htn)
  have HSL := Lib.hid (h.sl)
  obtain ⟨n, hn⟩ : ∃ n, n = s.th.length := ⟨_, rfl⟩
  have HN := Lib.hid hn
  rw [← hn] at m2 HAP
  simp only
  clear h hl ht0 htn hn
  go_enter Tryz.func18, Tryz.ntmps18
  go_upto_region 3 with (fail)
  have HKS := Lib.hid (fun W (hw : Nw w W) => (⟨@run_loadConf W gm c (ConfAt.nw hca hw), cell_nw m1 hw, cell_nw m2 hw⟩ : (loadConf (.pointer (some ⟨gm, 0, none⟩))).run Tryz.prog W = .ok (.agg #[.int .i64 c.thr, .int .i64 c.sl, .int .u8 c.eng, .int .i64 c.bk, .int .u8 c.dk, .int .i64 c.dn, .slice c.cA c.cn c.cc, .int .i64 c.t1, .int .i64 c.t2, .int .i64 c.t3, .int .i64 c.t4, .int .i64 c.t5, .int .i64 c.t6, .int .i64 c.lk, .int .i64 c.tr, .int .i64 c.ba]) W ∧ W.cell? ⟨gm, 16, none⟩ = some (.pointer (some ⟨gp, 0, none⟩)) ∧ W.cell? ⟨gm, 17, none⟩ = some (.slice (some ⟨gt, 0, none⟩) n ct)))
  go_region_held3 (fun W => (loadConf (.pointer (some ⟨gm, 0, none⟩))).run Tryz.prog W = .ok (.agg #[.int .i64 c.thr, .int .i64 c.sl, .int .u8 c.eng, .int .i64 c.bk, .int .u8 c.dk, .int .i64 c.dn, .slice c.cA c.cn c.cc, .int .i64 c.t1, .int .i64 c.t2, .int .i64 c.t3, .int .i64 c.t4, .int .i64 c.t5, .int .i64 c.t6, .int .i64 c.lk, .int .i64 c.tr, .int .i64 c.ba]) W ∧ W.cell? ⟨gm, 16, none⟩ = some (.pointer (some ⟨gp, 0, none⟩)) ∧ W.cell? ⟨gm, 17, none⟩ = some (.slice (some ⟨gt, 0, none⟩) n ct)) (exact HKS.out _ (by exact (by repeat (first | exact Xt.Nw.refl _ | refine Xt.Nw.drew ?_ | refine Xt.Nw.drewN ?_ _ | refine Xt.Nw.alloc ?_ _ | refine Xt.Nw.joined ?_ | refine Xt.Nw.drewd ?_ | refine Xt.Nw.drewdN ?_ | refine Xt.Nw.ext ?_ | refine Xt.Nw.ext_some ?_ (by assumption) | refine Xt.Nw.setCell ?_ (by simp [go_sem] <;> omega) _))))
    ((first | (go_at_call 50; refine (HC.out _ (by exact (by repeat (first | exact Xt.Nw.refl _ | refine Xt.Nw.drew ?_ | refine Xt.Nw.drewN ?_ _ | refine Xt.Nw.alloc ?_ _ | refine Xt.Nw.joined ?_ | refine Xt.Nw.drewd ?_ | refine Xt.Nw.drewdN ?_ | refine Xt.Nw.ext ?_ | refine Xt.Nw.ext_some ?_ (by assumption) | refine Xt.Nw.setCell ?_ (by simp [go_sem] <;> omega) _)))).mono ?_; rintro e w' ⟨gq, rfl, hgq, hom, dK, rfl⟩) | (refine step_app_eq rfl (.tmp 14) (.tmp 18) 61 61 rfl _ _ (by first | (simp [Act.eval, Act.put]; done) | (simp [Act.eval, Act.put]; rfl)) (by first | (simp [Act.eval, Act.put]; done) | (simp [Act.eval, Act.put]; rfl)) (HAP.out _ _ (by exact (by repeat (first | exact Xt.Nw.refl _ | refine Xt.Nw.drew ?_ | refine Xt.Nw.drewN ?_ _ | refine Xt.Nw.alloc ?_ _ | refine Xt.Nw.joined ?_ | refine Xt.Nw.drewd ?_ | refine Xt.Nw.drewdN ?_ | refine Xt.Nw.ext ?_ | refine Xt.Nw.ext_some ?_ (by assumption) | refine Xt.Nw.setCell ?_ (by simp [go_sem] <;> omega) _))) _) ?_)))
  · rename_i hHeld
    clear hHeld HKS HC HAP
    rw [ext_drew] at hom
    obtain ⟨WK, hWK⟩ : ∃ WK, WK = w.ext none (dpre w.drew none dK) := ⟨_, rfl⟩
    have hnk : Nw w WK := by rw [hWK]; exact ⟨_, rfl⟩
    rw [← hWK] at hom
    obtain ⟨v', hom, hv⟩ := hom
    have hgq' : w.heap.size ≤ gq := hgq
    have hE : Nw WK (WK.alloc (.cells #[] 81)) := (Nw.refl _).alloc _
    obtain ⟨gt', hgt, hat, hft, hnw⟩ := rcopy_fin (c := c) (n := n) hnk hE hom hgq' (fun b hb => hv b hb) (HRW.out _) HSL.out HN.out (rthCap (WK.alloc (.cells #[] 81)) n)
    have hsz : (WK.alloc (.cells #[] 81)).heap.size = WK.heap.size + 1 := by simp
    rw [hsz] at hat hft hnw
    have HF := Lib.hid (And.intro hat (And.intro hft hnw))
    clear hat hft hnw hom hv hnk hE hgq hgq' HRW hgt hsz
    rw [← hWK]
    clear hWK
    go_wp2
    refine bodyPost_ret (v := .pointer (some ⟨WK.heap.size + 1 + 1, 0, none⟩)) ?_ rfl ⟨⟨WK.heap.size + 1 + 1, gt', gq, v'⟩, rfl, HF.out.1.nw (Nw.drew (Nw.refl _)), HF.out.2.1, HF.out.2.2.drew⟩
    simp [results, Tryz.results18, Act.put, go_sem]
  · rename_i hHeld
    clear hHeld HKS HC HAP
    rw [ext_drew] at hom
    obtain ⟨WK, hWK⟩ : ∃ WK, WK = (w.alloc (.cells #[] 81)).ext none (dpre (w.alloc (.cells #[] 81)).drew none dK) := ⟨_, rfl⟩
    have hnk : Nw w WK := by rw [hWK]; exact (by repeat (first | exact Xt.Nw.refl _ | refine Xt.Nw.drew ?_ | refine Xt.Nw.drewN ?_ _ | refine Xt.Nw.alloc ?_ _ | refine Xt.Nw.joined ?_ | refine Xt.Nw.drewd ?_ | refine Xt.Nw.drewdN ?_ | refine Xt.Nw.ext ?_ | refine Xt.Nw.ext_some ?_ (by assumption) | refine Xt.Nw.setCell ?_ (by simp [go_sem] <;> omega) _))
    rw [← hWK] at hom
    obtain ⟨v', hom, hv⟩ := hom
    have hza : (w.alloc (.cells #[] 81)).drew.heap.size = w.heap.size + 1 := by simp
    rw [hza] at hgq hv
    obtain ⟨gt', hgt, hat, hft, hnw⟩ := rcopy_fin (c := c) (n := n) hnk (Nw.refl WK) hom (by omega) (fun b hb => by have := hv b hb; omega) (HRW.out _) HSL.out HN.out (rthCap WK n)
    have HF := Lib.hid (And.intro hat (And.intro hft hnw))
    clear hat hft hnw hom hv hnk hgq HRW hgt hza
    rw [← hWK]
    clear hWK
    go_wp2
    refine bodyPost_ret (v := .pointer (some ⟨WK.heap.size + 1, 0, none⟩)) ?_ rfl ⟨⟨WK.heap.size + 1, gt', gq, v'⟩, rfl, HF.out.1.nw (Nw.drew (Nw.refl _)), HF.out.2.1, HF.out.2.2.drew⟩
    simp [results, Tryz.results18, Act.put, go_sem]
end Go.Proofs.YtahagplegmcaaaaGreat
namespace Go.Proofs.YtahagplegmcaaaaGreat
open Go.RowKit Go.Xt
/-! gives. -/
set_option maxRecDepth 20000 in
set_option maxHeartbeats 8000000 in
theorem gives_11 (w : World) (p : Pl) (s : Md) (h : MAt w p s) (hl : s.l.length ≤ 500000) (k a b c d e f : Int) :
    Calls Tryz.prog 20 #[.pointer (some ⟨p.gm, 0, none⟩), op7 k a b c d e f, .int .i64 11] w fun q w' => q = .returned (.bool (givesM s ⟨k, a, b, c, d, e, f⟩ 11)) ∧ Nw w w' := by
  obtain ⟨gm, gt, gp, v⟩ := p
  have m1 : w.cell? ⟨gm, 1, none⟩ = some (.pointer (some ⟨gp, 0, none⟩)) := h.m1
  haveI : In gm w := ⟨h.im⟩
  have HG := Lib.hid (fun W (hw : Nw w W) => get_om (h.om.nw hw : OM W gp v s.l) (by omega) a)
  obtain ⟨bb, hbb⟩ : ∃ bb, bb = hasK a s.l := ⟨_, rfl⟩
  obtain ⟨yv, hyv⟩ : ∃ yv, yv = valL a s.l := ⟨_, rfl⟩
  simp only [← hbb, ← hyv] at HG
  have HR := Lib.hid (show givesM s ⟨k, a, b, c, d, e, f⟩ 11 = ((decide (3 ≤ k) && decide (k ≤ 10)) || (k == 12)) by simp [givesM]; rfl)
  rw [HR.out]
  obtain ⟨b1, h1⟩ : ∃ b1, decide (3 ≤ k) = b1 := ⟨_, rfl⟩
  obtain ⟨b2, h2⟩ : ∃ b2, decide (k ≤ 10) = b2 := ⟨_, rfl⟩
  obtain ⟨b3, h3⟩ : ∃ b3, (k == 12) = b3 := ⟨_, rfl⟩
  rw [h1, h2, h3]
  clear h hl hbb hyv
  cases b1 <;> cases b2 <;> cases b3
  all_goals
    go_enter Tryz.func20, Tryz.ntmps20
    go_upto_region 1 with (fail)
    (refine wp_region_nw (by kernel_rfl) (by kernel_rfl) ?_; (repeat (go_big_quiet_step ((go_at_call 52; exact quiet_of (HG.out _ ((by repeat (first | exact Xt.Nw.refl _ | refine Xt.Nw.drew ?_ | refine Xt.Nw.drewN ?_ _ | refine Xt.Nw.alloc ?_ _ | refine Xt.Nw.joined ?_ | refine Xt.Nw.drewd ?_ | refine Xt.Nw.drewdN ?_ | refine Xt.Nw.ext ?_ | refine Xt.Nw.ext_some ?_ (by assumption) | refine Xt.Nw.setCell ?_ (by simp [go_sem] <;> omega) _)))))))); refine wpQuiet_nil ?_; intro _ hreg; obtain ⟨dW, rfl⟩ : Nw _ _ := hreg)
    go_wp2
    go_ret
    exact ⟨rfl, (by repeat (first | exact Xt.Nw.refl _ | refine Xt.Nw.drew ?_ | refine Xt.Nw.drewN ?_ _ | refine Xt.Nw.alloc ?_ _ | refine Xt.Nw.joined ?_ | refine Xt.Nw.drewd ?_ | refine Xt.Nw.drewdN ?_ | refine Xt.Nw.ext ?_ | refine Xt.Nw.ext_some ?_ (by assumption) | refine Xt.Nw.setCell ?_ (by simp [go_sem] <;> omega) _))⟩
set_option maxRecDepth 20000 in
set_option maxHeartbeats 8000000 in
theorem gives_10 (w : World) (p : Pl) (s : Md) (h : MAt w p s) (hl : s.l.length ≤ 500000) (k a b c d e f : Int) :
    Calls Tryz.prog 20 #[.pointer (some ⟨p.gm, 0, none⟩), op7 k a b c d e f, .int .i64 10] w fun q w' => q = .returned (.bool (givesM s ⟨k, a, b, c, d, e, f⟩ 10)) ∧ Nw w w' := by
  obtain ⟨gm, gt, gp, v⟩ := p
  have m1 : w.cell? ⟨gm, 1, none⟩ = some (.pointer (some ⟨gp, 0, none⟩)) := h.m1
  haveI : In gm w := ⟨h.im⟩
  have HG := Lib.hid (fun W (hw : Nw w W) => get_om (h.om.nw hw : OM W gp v s.l) (by omega) a)
  obtain ⟨bb, hbb⟩ : ∃ bb, bb = hasK a s.l := ⟨_, rfl⟩
  obtain ⟨yv, hyv⟩ : ∃ yv, yv = valL a s.l := ⟨_, rfl⟩
  simp only [← hbb, ← hyv] at HG
  have HR := Lib.hid (show givesM s ⟨k, a, b, c, d, e, f⟩ 10 = (k == 1) by simp [givesM]; rfl)
  rw [HR.out]
  clear h hl hbb hyv
  go_enter Tryz.func20, Tryz.ntmps20
  go_upto_region 1 with (fail)
  (refine wp_region_nw (by kernel_rfl) (by kernel_rfl) ?_; (repeat (go_big_quiet_step ((go_at_call 52; exact quiet_of (HG.out _ ((by repeat (first | exact Xt.Nw.refl _ | refine Xt.Nw.drew ?_ | refine Xt.Nw.drewN ?_ _ | refine Xt.Nw.alloc ?_ _ | refine Xt.Nw.joined ?_ | refine Xt.Nw.drewd ?_ | refine Xt.Nw.drewdN ?_ | refine Xt.Nw.ext ?_ | refine Xt.Nw.ext_some ?_ (by assumption) | refine Xt.Nw.setCell ?_ (by simp [go_sem] <;> omega) _)))))))); refine wpQuiet_nil ?_; intro _ hreg; obtain ⟨dW, rfl⟩ : Nw _ _ := hreg)
  go_wp2
  go_ret
  exact ⟨rfl, (by repeat (first | exact Xt.Nw.refl _ | refine Xt.Nw.drew ?_ | refine Xt.Nw.drewN ?_ _ | refine Xt.Nw.alloc ?_ _ | refine Xt.Nw.joined ?_ | refine Xt.Nw.drewd ?_ | refine Xt.Nw.drewdN ?_ | refine Xt.Nw.ext ?_ | refine Xt.Nw.ext_some ?_ (by assumption) | refine Xt.Nw.setCell ?_ (by simp [go_sem] <;> omega) _))⟩
set_option maxRecDepth 20000 in
set_option maxHeartbeats 8000000 in
theorem gives_no (w : World) (p : Pl) (s : Md) (h : MAt w p s) (hl : s.l.length ≤ 500000) (k a b c d e f er : Int) (h11 : er ≠ 11) (h6 : er ≠ 6) (h10 : er ≠ 10) :
    Calls Tryz.prog 20 #[.pointer (some ⟨p.gm, 0, none⟩), op7 k a b c d e f, .int .i64 er] w fun q w' => q = .returned (.bool (givesM s ⟨k, a, b, c, d, e, f⟩ er)) ∧ Nw w w' := by
  obtain ⟨gm, gt, gp, v⟩ := p
  have m1 : w.cell? ⟨gm, 1, none⟩ = some (.pointer (some ⟨gp, 0, none⟩)) := h.m1
  haveI : In gm w := ⟨h.im⟩
  have HG := Lib.hid (fun W (hw : Nw w W) => get_om (h.om.nw hw : OM W gp v s.l) (by omega) a)
  obtain ⟨bb, hbb⟩ : ∃ bb, bb = hasK a s.l := ⟨_, rfl⟩
  obtain ⟨yv, hyv⟩ : ∃ yv, yv = valL a s.l := ⟨_, rfl⟩
  simp only [← hbb, ← hyv] at HG
  have HR := Lib.hid (show givesM s ⟨k, a, b, c, d, e, f⟩ er = false by simp [givesM, h11, h6, h10])
  rw [HR.out]
  have e1 : (er == 11) = false := by simpa using h11
  have e2 : (er == 6) = false := by simpa using h6
  have e3 : (er == 10) = false := by simpa using h10
  clear h hl hbb hyv
  go_enter Tryz.func20, Tryz.ntmps20
  go_upto_region 1 with (fail)
  (refine wp_region_nw (by kernel_rfl) (by kernel_rfl) ?_; (repeat (go_big_quiet_step ((go_at_call 52; exact quiet_of (HG.out _ ((by repeat (first | exact Xt.Nw.refl _ | refine Xt.Nw.drew ?_ | refine Xt.Nw.drewN ?_ _ | refine Xt.Nw.alloc ?_ _ | refine Xt.Nw.joined ?_ | refine Xt.Nw.drewd ?_ | refine Xt.Nw.drewdN ?_ | refine Xt.Nw.ext ?_ | refine Xt.Nw.ext_some ?_ (by assumption) | refine Xt.Nw.setCell ?_ (by simp [go_sem] <;> omega) _)))))))); refine wpQuiet_nil ?_; intro _ hreg; obtain ⟨dW, rfl⟩ : Nw _ _ := hreg)
  go_wp2
  go_ret
  exact ⟨rfl, (by repeat (first | exact Xt.Nw.refl _ | refine Xt.Nw.drew ?_ | refine Xt.Nw.drewN ?_ _ | refine Xt.Nw.alloc ?_ _ | refine Xt.Nw.joined ?_ | refine Xt.Nw.drewd ?_ | refine Xt.Nw.drewdN ?_ | refine Xt.Nw.ext ?_ | refine Xt.Nw.ext_some ?_ (by assumption) | refine Xt.Nw.setCell ?_ (by simp [go_sem] <;> omega) _))⟩
set_option maxRecDepth 20000 in
set_option maxHeartbeats 8000000 in
theorem gives_6_4 (w : World) (p : Pl) (s : Md) (h : MAt w p s) (hl : s.l.length ≤ 500000) (a b c d e f : Int) :
    Calls Tryz.prog 20 #[.pointer (some ⟨p.gm, 0, none⟩), op7 4 a b c d e f, .int .i64 6] w fun q w' => q = .returned (.bool (givesM s ⟨4, a, b, c, d, e, f⟩ 6)) ∧ Nw w w' := by
  obtain ⟨gm, gt, gp, v⟩ := p
  have m1 : w.cell? ⟨gm, 1, none⟩ = some (.pointer (some ⟨gp, 0, none⟩)) := h.m1
  haveI : In gm w := ⟨h.im⟩
  have HG := Lib.hid (fun W (hw : Nw w W) => get_om (h.om.nw hw : OM W gp v s.l) (by omega) a)
  obtain ⟨bb, hbb⟩ : ∃ bb, bb = hasK a s.l := ⟨_, rfl⟩
  obtain ⟨yv, hyv⟩ : ∃ yv, yv = valL a s.l := ⟨_, rfl⟩
  simp only [← hbb, ← hyv] at HG
  have HR := Lib.hid (show givesM s ⟨4, a, b, c, d, e, f⟩ 6 = !bb by rw [hbb]; simp [givesM])
  rw [HR.out]
  clear h hl hbb hyv
  cases bb
  all_goals
    go_enter Tryz.func20, Tryz.ntmps20
    go_upto_region 1 with (fail)
    (refine wp_region_nw (by kernel_rfl) (by kernel_rfl) ?_; (repeat (go_big_quiet_step ((go_at_call 52; exact quiet_of (HG.out _ ((by repeat (first | exact Xt.Nw.refl _ | refine Xt.Nw.drew ?_ | refine Xt.Nw.drewN ?_ _ | refine Xt.Nw.alloc ?_ _ | refine Xt.Nw.joined ?_ | refine Xt.Nw.drewd ?_ | refine Xt.Nw.drewdN ?_ | refine Xt.Nw.ext ?_ | refine Xt.Nw.ext_some ?_ (by assumption) | refine Xt.Nw.setCell ?_ (by simp [go_sem] <;> omega) _)))))))); refine wpQuiet_nil ?_; intro _ hreg; obtain ⟨dW, rfl⟩ : Nw _ _ := hreg)
    go_wp2
    go_ret
    exact ⟨rfl, (by repeat (first | exact Xt.Nw.refl _ | refine Xt.Nw.drew ?_ | refine Xt.Nw.drewN ?_ _ | refine Xt.Nw.alloc ?_ _ | refine Xt.Nw.joined ?_ | refine Xt.Nw.drewd ?_ | refine Xt.Nw.drewdN ?_ | refine Xt.Nw.ext ?_ | refine Xt.Nw.ext_some ?_ (by assumption) | refine Xt.Nw.setCell ?_ (by simp [go_sem] <;> omega) _))⟩
set_option maxRecDepth 20000 in
set_option maxHeartbeats 8000000 in
theorem gives_6_5 (w : World) (p : Pl) (s : Md) (h : MAt w p s) (hl : s.l.length ≤ 500000) (a b c d e f : Int) :
    Calls Tryz.prog 20 #[.pointer (some ⟨p.gm, 0, none⟩), op7 5 a b c d e f, .int .i64 6] w fun q w' => q = .returned (.bool (givesM s ⟨5, a, b, c, d, e, f⟩ 6)) ∧ Nw w w' := by
  obtain ⟨gm, gt, gp, v⟩ := p
  have m1 : w.cell? ⟨gm, 1, none⟩ = some (.pointer (some ⟨gp, 0, none⟩)) := h.m1
  haveI : In gm w := ⟨h.im⟩
  have HG := Lib.hid (fun W (hw : Nw w W) => get_om (h.om.nw hw : OM W gp v s.l) (by omega) a)
  obtain ⟨bb, hbb⟩ : ∃ bb, bb = hasK a s.l := ⟨_, rfl⟩
  obtain ⟨yv, hyv⟩ : ∃ yv, yv = valL a s.l := ⟨_, rfl⟩
  simp only [← hbb, ← hyv] at HG
  have HR := Lib.hid (show givesM s ⟨5, a, b, c, d, e, f⟩ 6 = !bb by rw [hbb]; simp [givesM])
  rw [HR.out]
  clear h hl hbb hyv
  cases bb
  all_goals
    go_enter Tryz.func20, Tryz.ntmps20
    go_upto_region 1 with (fail)
    (refine wp_region_nw (by kernel_rfl) (by kernel_rfl) ?_; (repeat (go_big_quiet_step ((go_at_call 52; exact quiet_of (HG.out _ ((by repeat (first | exact Xt.Nw.refl _ | refine Xt.Nw.drew ?_ | refine Xt.Nw.drewN ?_ _ | refine Xt.Nw.alloc ?_ _ | refine Xt.Nw.joined ?_ | refine Xt.Nw.drewd ?_ | refine Xt.Nw.drewdN ?_ | refine Xt.Nw.ext ?_ | refine Xt.Nw.ext_some ?_ (by assumption) | refine Xt.Nw.setCell ?_ (by simp [go_sem] <;> omega) _)))))))); refine wpQuiet_nil ?_; intro _ hreg; obtain ⟨dW, rfl⟩ : Nw _ _ := hreg)
    go_wp2
    go_ret
    exact ⟨rfl, (by repeat (first | exact Xt.Nw.refl _ | refine Xt.Nw.drew ?_ | refine Xt.Nw.drewN ?_ _ | refine Xt.Nw.alloc ?_ _ | refine Xt.Nw.joined ?_ | refine Xt.Nw.drewd ?_ | refine Xt.Nw.drewdN ?_ | refine Xt.Nw.ext ?_ | refine Xt.Nw.ext_some ?_ (by assumption) | refine Xt.Nw.setCell ?_ (by simp [go_sem] <;> omega) _))⟩
set_option maxRecDepth 20000 in
set_option maxHeartbeats 8000000 in
theorem gives_6_8 (w : World) (p : Pl) (s : Md) (h : MAt w p s) (hl : s.l.length ≤ 500000) (a b c d e f : Int) (hab : a ≤ b) (ha : 0 ≤ a) (he : 0 ≤ e) (hbe : b + e ≤ 18446744073709551615) :
    Calls Tryz.prog 20 #[.pointer (some ⟨p.gm, 0, none⟩), op7 8 a b c d e f, .int .i64 6] w fun q w' => q = .returned (.bool (givesM s ⟨8, a, b, c, d, e, f⟩ 6)) ∧ Nw w w' := by
  have HBI := Lib.hid (fun W (hw : Nw w W) => births_M W p s (h.nw hw) hl a b c d e f hab ha he hbe)
  obtain ⟨gm, gt, gp, v⟩ := p
  have m1 : w.cell? ⟨gm, 1, none⟩ = some (.pointer (some ⟨gp, 0, none⟩)) := h.m1
  haveI : In gm w := ⟨h.im⟩
  have HG := Lib.hid (fun W (hw : Nw w W) => get_om (h.om.nw hw : OM W gp v s.l) (by omega) a)
  obtain ⟨bb, hbb⟩ : ∃ bb, bb = hasK a s.l := ⟨_, rfl⟩
  obtain ⟨yv, hyv⟩ : ∃ yv, yv = valL a s.l := ⟨_, rfl⟩
  simp only [← hbb, ← hyv] at HG
  have HR := Lib.hid (show givesM s ⟨8, a, b, c, d, e, f⟩ 6 = birthsM s ⟨8, a, b, c, d, e, f⟩ by simp [givesM])
  rw [HR.out]
  obtain ⟨B, hB⟩ : ∃ B, B = birthsM s ⟨8, a, b, c, d, e, f⟩ := ⟨_, rfl⟩
  simp only [← hB] at HBI ⊢
  clear h hl hbb hyv hab ha he hbe hB
  go_enter Tryz.func20, Tryz.ntmps20
  go_upto_region 1 with (fail)
  (refine wp_region_nw (by kernel_rfl) (by kernel_rfl) ?_; (repeat (go_big_quiet_step ((go_at_call 52; exact quiet_of (HG.out _ ((by repeat (first | exact Xt.Nw.refl _ | refine Xt.Nw.drew ?_ | refine Xt.Nw.drewN ?_ _ | refine Xt.Nw.alloc ?_ _ | refine Xt.Nw.joined ?_ | refine Xt.Nw.drewd ?_ | refine Xt.Nw.drewdN ?_ | refine Xt.Nw.ext ?_ | refine Xt.Nw.ext_some ?_ (by assumption) | refine Xt.Nw.setCell ?_ (by simp [go_sem] <;> omega) _)))))))); refine wpQuiet_nil ?_; intro _ hreg; obtain ⟨dW, rfl⟩ : Nw _ _ := hreg)
  go_wp2_with (go_at_call 53; refine (HBI.out _ ((by repeat (first | exact Xt.Nw.refl _ | refine Xt.Nw.drew ?_ | refine Xt.Nw.drewN ?_ _ | refine Xt.Nw.alloc ?_ _ | refine Xt.Nw.joined ?_ | refine Xt.Nw.drewd ?_ | refine Xt.Nw.drewdN ?_ | refine Xt.Nw.ext ?_ | refine Xt.Nw.ext_some ?_ (by assumption) | refine Xt.Nw.setCell ?_ (by simp [go_sem] <;> omega) _)))).mono ?_; rintro e w' ⟨rfl, dW, rfl⟩)
  go_ret
  exact ⟨rfl, (by repeat (first | exact Xt.Nw.refl _ | refine Xt.Nw.drew ?_ | refine Xt.Nw.drewN ?_ _ | refine Xt.Nw.alloc ?_ _ | refine Xt.Nw.joined ?_ | refine Xt.Nw.drewd ?_ | refine Xt.Nw.drewdN ?_ | refine Xt.Nw.ext ?_ | refine Xt.Nw.ext_some ?_ (by assumption) | refine Xt.Nw.setCell ?_ (by simp [go_sem] <;> omega) _))⟩
set_option maxRecDepth 20000 in
set_option maxHeartbeats 8000000 in
theorem gives_6_no (w : World) (p : Pl) (s : Md) (h : MAt w p s) (hl : s.l.length ≤ 500000) (k a b c d e f : Int) (h4 : k ≠ 4) (h5 : k ≠ 5) (h8 : k ≠ 8) :
    Calls Tryz.prog 20 #[.pointer (some ⟨p.gm, 0, none⟩), op7 k a b c d e f, .int .i64 6] w fun q w' => q = .returned (.bool (givesM s ⟨k, a, b, c, d, e, f⟩ 6)) ∧ Nw w w' := by
  obtain ⟨gm, gt, gp, v⟩ := p
  have m1 : w.cell? ⟨gm, 1, none⟩ = some (.pointer (some ⟨gp, 0, none⟩)) := h.m1
  haveI : In gm w := ⟨h.im⟩
  have HG := Lib.hid (fun W (hw : Nw w W) => get_om (h.om.nw hw : OM W gp v s.l) (by omega) a)
  obtain ⟨bb, hbb⟩ : ∃ bb, bb = hasK a s.l := ⟨_, rfl⟩
  obtain ⟨yv, hyv⟩ : ∃ yv, yv = valL a s.l := ⟨_, rfl⟩
  simp only [← hbb, ← hyv] at HG
  have HR := Lib.hid (show givesM s ⟨k, a, b, c, d, e, f⟩ 6 = false by simp [givesM, h4, h5, h8])
  rw [HR.out]
  have e1 : (k == 4) = false := by simpa using h4
  have e2 : (k == 5) = false := by simpa using h5
  have e3 : (k == 8) = false := by simpa using h8
  clear h hl hbb hyv
  go_enter Tryz.func20, Tryz.ntmps20
  go_upto_region 1 with (fail)
  (refine wp_region_nw (by kernel_rfl) (by kernel_rfl) ?_; (repeat (go_big_quiet_step ((go_at_call 52; exact quiet_of (HG.out _ ((by repeat (first | exact Xt.Nw.refl _ | refine Xt.Nw.drew ?_ | refine Xt.Nw.drewN ?_ _ | refine Xt.Nw.alloc ?_ _ | refine Xt.Nw.joined ?_ | refine Xt.Nw.drewd ?_ | refine Xt.Nw.drewdN ?_ | refine Xt.Nw.ext ?_ | refine Xt.Nw.ext_some ?_ (by assumption) | refine Xt.Nw.setCell ?_ (by simp [go_sem] <;> omega) _)))))))); refine wpQuiet_nil ?_; intro _ hreg; obtain ⟨dW, rfl⟩ : Nw _ _ := hreg)
  go_wp2
  go_ret
  exact ⟨rfl, (by repeat (first | exact Xt.Nw.refl _ | refine Xt.Nw.drew ?_ | refine Xt.Nw.drewN ?_ _ | refine Xt.Nw.alloc ?_ _ | refine Xt.Nw.joined ?_ | refine Xt.Nw.drewd ?_ | refine Xt.Nw.drewdN ?_ | refine Xt.Nw.ext ?_ | refine Xt.Nw.ext_some ?_ (by assumption) | refine Xt.Nw.setCell ?_ (by simp [go_sem] <;> omega) _))⟩
/-- gives of any operation and error. -/
theorem gives_M (w : World) (p : Pl) (s : Md) (h : MAt w p s) (hl : s.l.length ≤ 500000) (o : Ox) (hw : o.Wf) (hc : chkO o = 0) (er : Int) :
    Calls Tryz.prog 20 #[.pointer (some ⟨p.gm, 0, none⟩), opV o, .int .i64 er] w fun q w' => q = .returned (.bool (givesM s o er)) ∧ Nw w w' := by
  obtain ⟨hk, hab, hby⟩ := chk_formed hc
  obtain ⟨k, a, b, c, d, e, f⟩ := o
  have w1 := hw.key
  have w5 := hw.by_
  simp only at hk hab hby w1 w5
  unfold opV
  simp only
  by_cases h11 : er = 11
  · subst h11; exact gives_11 w p s h hl k a b c d e f
  by_cases h10 : er = 10
  · subst h10; exact gives_10 w p s h hl k a b c d e f
  by_cases h6 : er = 6
  · subst h6
    by_cases h4 : k = 4
    · subst h4; exact gives_6_4 w p s h hl a b c d e f
    by_cases h5 : k = 5
    · subst h5; exact gives_6_5 w p s h hl a b c d e f
    by_cases h8 : k = 8
    · subst h8
      have h9 := hby rfl
      exact gives_6_8 w p s h hl a b c d e f (hab rfl) w1.1 w5.1 (by omega)
    exact gives_6_no w p s h hl k a b c d e f h4 h5 h8
  exact gives_no w p s h hl k a b c d e f er h11 h6 h10
end Go.Proofs.YtahagplegmcaaaaGreat
