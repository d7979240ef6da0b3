import Derived.Test.YtahagplegmcaaaaGreatDoorGWh
import Derived.Test.YtahagplegmcaaaaGreatDoorGWa
import Derived.Test.YtahagplegmcaaaaGreatDoorGVt
import Derived.Test.YtahagplegmcaaaaGreatDoorGQp
import Derived.Deep.AppendSrc
set_option linter.unusedVariables false
set_option linter.unusedSimpArgs false
set_option linter.unnecessarySimpa false
namespace Go.Proofs.YtahagplegmcaaaaGreatDoor
open Go.RowKit Go.Xt
/-! The reference's model: tries, full. -/
def triesB (k : Int) : Bool := (decide (3 ≤ k) && decide (k ≤ 10)) || decide (k = 12)
end Go.Proofs.YtahagplegmcaaaaGreatDoor
namespace Go.Proofs.YtahagplegmcaaaaGreatDoor
open Go.RowKit Go.Xt
/-! Copy of a model. -/
noncomputable def thCap (W : World) (n : Nat) : Nat := grownCap W (0 + n) 0 101
noncomputable def thArr (W : World) (th : List Th) : Array Value := ([] ++ tcells th).toArray ++ Builtin.zeroCells (Value.agg #[.bool false, .bool false, .int .u64 0, .int .u64 0, .bool false]).cells (thCap W th.length - (0 + th.length))
theorem tcells_one (th : List Th) : ∀ u ∈ tcells th, u.oneCell' = true := by
  intro u hu
  obtain ⟨x, _, hx⟩ := List.mem_flatMap.1 hu
  simp [thc] at hx
  rcases hx with rfl | rfl | rfl | rfl | rfl <;> rfl
theorem run_thcopy (W : World) (gt ct : Nat) (th : List Th) (h : ThR W gt th) (h0 : 0 < th.length) (hn : th.length ≤ 1000) (ty : TypeId) :
    (Builtin.append_ #[58, 58] ty #[.slice none 0 0, .slice (some ⟨gt, 0, none⟩) th.length ct]).run Tryz.prog W = .ok (.slice (some ⟨W.heap.size, 0, none⟩) (0 + th.length) (thCap W th.length)) (W.drew.alloc (.cells (thArr W th) 101)) := by
  obtain ⟨i, hi1, hz0, hz1, hz2⟩ := info_parts thInfo
  obtain ⟨c, h⟩ := h
  have hsrc : Src Tryz.prog i.size 58 (.slice (some ⟨gt, 0, none⟩) th.length ct) th.length (tcells th) W :=
    Src.ofSlice W Tryz.underlying58 ⟨gt, 0, none⟩ th.length ct (tcells th) (by rw [hz1, tcells_len]) (fun j u hu => by
      rw [add_at, Nat.zero_add]
      have := (List.getElem?_eq_some_iff.1 hu).1
      rw [tcells_len] at this
      rw [h.cellAt j this]; exact hu) (tcells_one th)
  exact run_append_grow_src W 58 58 ty 101 i _ Tryz.underlying58 hi1 hz0 none 0 0 [] (run_firstCells_none W.drew i.size 0 0 0) _ th.length (tcells th) hsrc (by omega) (by omega) (growslice_fits (by omega) (by rw [hz2]; omega))
theorem thcopy_row (W : World) (th : List Th) (hn : th.length ≤ 1000) : ThR (W.drew.alloc (.cells (thArr W th) 101)) W.heap.size th := by
  have hge : th.length ≤ thCap W th.length := by have := grownCap_ge W (0 + th.length) 0 101; unfold thCap; omega
  have hle : thCap W th.length ≤ maxLen := grownCap_le_maxLen _ _ _ _ (by unfold maxLen; omega)
  have hz : (Value.agg #[.bool false, .bool false, .int .u64 0, .int .u64 0, .bool false]).cells.size = 5 := rfl
  have hsz : (thArr W th).size = thCap W th.length * 5 := by
    unfold thArr
    rw [Array.size_append, size_zeroCells, hz, List.size_toArray, List.nil_append, tcells_len]
    omega
  have hrow := World.ownsRow_lit (base := 0) (e := 101) (size := 5) W.drew (thArr W th) (thCap W th.length) (Nat.zero_le _) hle hsz
  have h2 := own_take hrow hge
  have h3 : (thArr W th).toList.take (th.length * 5) = tcells th := by
    unfold thArr
    rw [Array.toList_append]
    exact List.take_left' (tcells_len th)
  rw [h3] at h2
  exact ⟨_, h2⟩
/-- A copy's model. -/
theorem copy_fin {w W : World} {gt gq ct : Nat} {v : Value} {s : Md} (hn : Nw w W) (ht : ThR W gt s.th) (hgt : w.heap.size ≤ gt) (ho : OM W gq v s.l) (hgq : w.heap.size ≤ gq) (hv : ∀ b, v.ownBlock = some b → w.heap.size ≤ b) (d1 : gt ≠ gq) (d2 : v.ownBlock ≠ some gt) :
    MAt (W.alloc (.cells #[.int .i64 s.slots, .pointer (some ⟨gq, 0, none⟩), .slice (some ⟨gt, 0, none⟩) s.th.length ct] 60)) ⟨W.heap.size, gt, gq, v⟩ s ∧ (∀ g ∈ (⟨W.heap.size, gt, gq, v⟩ : Pl).foot, w.heap.size ≤ g) ∧ Nw w (W.alloc (.cells #[.int .i64 s.slots, .pointer (some ⟨gq, 0, none⟩), .slice (some ⟨gt, 0, none⟩) s.th.length ct] 60)) := by
  have hA := (Nw.refl W).alloc (.cells #[.int .i64 s.slots, .pointer (some ⟨gq, 0, none⟩), .slice (some ⟨gt, 0, none⟩) s.th.length ct] 60)
  have h1 := ht.inn
  have h2 := ho.lt
  refine ⟨⟨by simp [go_sem], by simp [go_sem], ⟨ct, by simp [go_sem]⟩, fun o => by simp [go_sem], ht.nw hA, ho.nw hA, by show W.heap.size ≠ gt; omega, by show W.heap.size ≠ gq; omega, d1, fun e => ?_, d2⟩, fun g hg => ?_, hn.trans hA⟩
  · have h3 := ho.rlt e
    have h3 : W.heap.size < W.heap.size := h3
    omega
  · rcases Pl.mem.1 hg with h9 | h9 | h9 | h9
    · have h9 : g = W.heap.size := h9
      rw [h9]; exact hn.grown.size
    · have h9 : g = gt := h9; omega
    · have h9 : g = gq := h9; omega
    · exact hv g h9
set_option maxRecDepth 20000 in
set_option maxHeartbeats 4000000 in
theorem copy_M (w : World) (p : Pl) (s : Md) (h : MAt w p s) (hl : s.l.length ≤ 1000000) (ht0 : 0 < s.th.length) (htn : s.th.length ≤ 1000) :
    Calls Tryz.prog 10 #[.pointer (some ⟨p.gm, 0, none⟩)] w fun e w' => ∃ gq, e = .returned (.pointer (some ⟨gq, 0, none⟩)) ∧ ∃ p', p'.gm = gq ∧ MAt w' p' s ∧ (∀ g ∈ p'.foot, w.heap.size ≤ g) ∧ Nw w w' := by
  obtain ⟨gm, gt, gp, v⟩ := p
  have m0 : w.cell? ⟨gm, 0, none⟩ = some (.int .i64 s.slots) := h.m0
  have m1 : w.cell? ⟨gm, 1, none⟩ = some (.pointer (some ⟨gp, 0, none⟩)) := h.m1
  obtain ⟨ct, m2⟩ : ∃ ct, w.cell? ⟨gm, 2, none⟩ = some (.slice (some ⟨gt, 0, none⟩) s.th.length ct) := h.m2
  haveI : In gm w := ⟨h.im⟩
  have HC := Lib.hid (fun W (hw : Nw w W) => ocopy_M (h.om.nw hw : OM W gp v s.l) hl)
  have HAP := Lib.hid (fun W (hw : Nw w W) ty => run_thcopy W gt ct s.th (ThR.nw h.th hw) ht0 htn ty)
  have HRW := Lib.hid (fun W => thcopy_row W s.th htn)
  obtain ⟨n, hn⟩ : ∃ n, n = s.th.length := ⟨_, rfl⟩
  have HN := Lib.hid hn
  rw [← hn] at m2 HAP
  obtain ⟨sl, hsl⟩ : ∃ z, z = s.slots := ⟨_, rfl⟩
  have HSL := Lib.hid hsl
  rw [← hsl] at m0
  simp only
  clear h hl ht0 htn hn hsl
  go_enter Tryz.func10, Tryz.ntmps10
  go_upto_region 3 with (fail)
  go_region_law (first | (refine step_app_eq rfl (.const (.slice none 0 0)) (.tmp 17) 58 58 rfl _ _ (by first | (simp [Act.eval, Act.put]; done) | (simp [Act.eval, Act.put]; rfl)) (by first | (simp [Act.eval, Act.put]; done) | (simp [Act.eval, Act.put]; rfl)) (HAP.out _ (by exact (by repeat (first | exact Xt.Nw.refl _ | refine Xt.Nw.drew ?_ | refine Xt.Nw.drewN ?_ _ | refine Xt.Nw.alloc ?_ _ | refine Xt.Nw.joined ?_ | refine Xt.Nw.drewd ?_ | refine Xt.Nw.drewdN ?_ | refine Xt.Nw.ext ?_ | refine Xt.Nw.ext_some ?_ (by assumption) | refine Xt.Nw.setCell ?_ (by simp [go_sem] <;> omega) _))) _) ?_) | (go_simp; go_at_call 31; refine (HC.out _ (by exact (by repeat (first | exact Xt.Nw.refl _ | refine Xt.Nw.drew ?_ | refine Xt.Nw.drewN ?_ _ | refine Xt.Nw.alloc ?_ _ | refine Xt.Nw.joined ?_ | refine Xt.Nw.drewd ?_ | refine Xt.Nw.drewdN ?_ | refine Xt.Nw.ext ?_ | refine Xt.Nw.ext_some ?_ (by assumption) | refine Xt.Nw.setCell ?_ (by simp [go_sem] <;> omega) _)))).mono ?_; rintro e w' ⟨gq, rfl, hgq, hom, dK, rfl⟩))
  all_goals
    rw [ext_drew] at hom
    obtain ⟨WK, hWK⟩ : ∃ WK, WK = w.ext none (dpre w.drew none dK) := ⟨_, rfl⟩
    have hnk : Nw w WK := by rw [hWK]; exact ⟨_, rfl⟩
    rw [← hWK] at hom
    obtain ⟨v', hom, hv⟩ := hom
    have hgq' : w.heap.size ≤ gq := hgq
    have hth : ThR (WK.alloc (.cells (thArr WK s.th) 101)) WK.heap.size s.th := HRW.out WK
    have hA : Nw WK (WK.alloc (.cells (thArr WK s.th) 101)) := (Nw.refl _).alloc _
    have hfin := copy_fin (ct := thCap WK n) (s := s) (hnk.trans hA) hth hnk.grown.size (hom.nw hA) hgq' (fun b hb => hv b hb) (by have := hom.lt; omega) (fun e => by have := hom.rlt e; omega)
    rw [← HSL.out, ← HN.out] at hfin
    have HF := Lib.hid hfin
    clear hom hv hth hA hfin hnk hgq hgq' HC HAP HRW
    rw [← hWK]
    clear hWK
    go_wp2
    refine bodyPost_ret (v := .pointer (some ⟨WK.heap.size + 1, 0, none⟩)) ?_ rfl ⟨WK.heap.size + 1, rfl, _, ?_, HF.out.1.nw (Nw.drew (Nw.refl _)), HF.out.2.1, HF.out.2.2.drew⟩
    · simp [results, Tryz.results10, Act.put, go_sem]
    · simp
end Go.Proofs.YtahagplegmcaaaaGreatDoor
