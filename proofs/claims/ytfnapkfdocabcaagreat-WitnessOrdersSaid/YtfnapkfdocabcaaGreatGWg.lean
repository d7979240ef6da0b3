import Derived.Test.YtfnapkfdocabcaaGreatGWf
import Derived.Test.YtfnapkfdocabcaaGreatGQj
set_option linter.unusedVariables false
set_option linter.unusedSimpArgs false
set_option linter.unnecessarySimpa false
namespace Go.Proofs.YtfnapkfdocabcaaGreat
open Go.RowKit Go.Xt
theorem wthB_iff {n a b : Int} : wthB n a b = true ↔ a ≤ n ∧ n ≤ b := by unfold wthB; simp
theorem cfgB_iff {c : Cf} {cuts : List Nat} : cfgB c cuts = true ↔ twB 1024 [c.t1, c.t2, c.t3, c.t4, c.t5, c.t6] = true ∧ (1 ≤ c.thr ∧ c.thr ≤ 64) ∧ (1 ≤ c.sl ∧ c.sl ≤ 64) ∧ 1 ≤ c.eng ∧ c.eng ≤ 3 ∧ bkB c.eng c.bk = true ∧ domB c.dk c.dn cuts = true ∧ (1 ≤ c.lk ∧ c.lk ≤ 16) ∧ (1 ≤ c.tr ∧ c.tr ≤ 255) ∧ 0 ≤ c.ba ∧ c.ba ≤ 64 := by
  unfold cfgB
  simp only [Bool.and_eq_true, wthB_iff, decide_eq_true_eq]
end Go.Proofs.YtfnapkfdocabcaaGreat
namespace Go.Proofs.YtfnapkfdocabcaaGreat
open Go.RowKit Go.Xt
theorem flat_mod {cs : List Value} {k : Nat} (hk : cs.length = k) : ∀ (n i : Nat), i < n * k → ((List.replicate n cs).flatten)[i]? = cs[i % k]?
  | 0, i, h => by omega
  | n + 1, i, h => by
    rw [List.replicate_succ, List.flatten_cons]
    by_cases hi : i < k
    · rw [List.getElem?_append_left (by omega), Nat.mod_eq_of_lt hi]
    · rw [List.getElem?_append_right (by omega), hk, flat_mod hk n (i - k) (by rw [Nat.add_mul] at h; omega), ← Nat.mod_eq_sub_mod (by omega)]
theorem flat_rep_len (cs : List Value) (n : Nat) : ((List.replicate n cs).flatten).length = n * cs.length := by
  induction n with
  | zero => simp
  | succ n ih => rw [List.replicate_succ, List.flatten_cons, List.length_append, ih, Nat.add_mul]; omega
theorem made_flat {cs : List Value} {k : Nat} (hk : cs.length = k) (h0 : 0 < k) (n : Nat) : (madeCells cs.toArray (n * k)).toList = (List.replicate n cs).flatten := by
  apply List.ext_getElem?
  intro i
  by_cases hi : i < n * k
  · rw [flat_mod hk n i hi]
    have hm : i % k < k := Nat.mod_lt _ h0
    simp [madeCells, hi, hk, hm]
  · rw [List.getElem?_eq_none (by simp [size_madeCells]; omega), List.getElem?_eq_none (by rw [flat_rep_len, hk]; omega)]
theorem tcells_rep (n : Nat) : (List.replicate n [Value.bool false, .bool false, .int .u64 0, .int .u64 0, .bool false]).flatten = tcells (List.replicate n Th0) := by
  induction n with
  | zero => rfl
  | succ n ih => rw [List.replicate_succ, List.flatten_cons, ih, List.replicate_succ]; rfl
theorem tmade (n : Nat) : (madeCells (Value.agg #[.bool false, .bool false, .int .u64 0, .int .u64 0, .bool false]).cells (n * 5)).toList = tcells (List.replicate n Th0) := by
  rw [← tcells_rep, ← made_flat (k := 5) rfl (by decide)]; rfl
def cellsOf (c : Cf) (t : TypeId) : Obj := .cells #[.int .i64 c.thr, .int .i64 c.sl, .int .u8 c.eng, .int .i64 c.bk, .int .u8 c.dk, .int .i64 c.dn, .slice c.cA c.cn c.cc, .int .i64 c.t1, .int .i64 c.t2, .int .i64 c.t3, .int .i64 c.t4, .int .i64 c.t5, .int .i64 c.t6, .int .i64 c.lk, .int .i64 c.tr, .int .i64 c.ba] t
set_option maxRecDepth 20000 in
set_option maxHeartbeats 8000000 in
theorem new_no (c : Cf) (cuts : List Nat) (w : World) (h : Rd w 1 c.cA cuts.length (nums cuts)) (hcn : c.cn = cuts.length) (hcr : 0 ≤ c.eng ∧ c.eng < 256) (hno : chkC c cuts = 2) :
    Calls Tryz.prog 8 #[confV c] w fun e w' => e = .returned (.tuple #[.pointer none, .int .i64 2]) ∧ Nw w w' := by
  have HL := Lib.hid (fun W (hw : Nw w W) => layout_all c cuts W (h.nw hw) hcn hcr)
  rw [hno] at HL
  clear h hcn hcr hno
  unfold confV at HL ⊢
  go_enter Tryz.func8, Tryz.ntmps8
  go_wp2_with fail
  refine (HL.out _ ((by repeat (first | exact Xt.Nw.refl _ | refine Xt.Nw.drew ?_ | refine Xt.Nw.drewN ?_ _ | refine Xt.Nw.alloc ?_ _ | refine Xt.Nw.joined ?_ | refine Xt.Nw.drewd ?_ | refine Xt.Nw.drewdN ?_ | refine Xt.Nw.ext ?_ | refine Xt.Nw.ext_some ?_ (by assumption) | refine Xt.Nw.setCell ?_ (by simp [go_sem] <;> omega) _)))).mono ?_
  rintro e w' ⟨rfl, dW, rfl⟩
  go_wp2
  go_ret2
  exact ⟨rfl, (by repeat (first | exact Xt.Nw.refl _ | refine Xt.Nw.drew ?_ | refine Xt.Nw.drewN ?_ _ | refine Xt.Nw.alloc ?_ _ | refine Xt.Nw.joined ?_ | refine Xt.Nw.drewd ?_ | refine Xt.Nw.drewdN ?_ | refine Xt.Nw.ext ?_ | refine Xt.Nw.ext_some ?_ (by assumption) | refine Xt.Nw.setCell ?_ (by simp [go_sem] <;> omega) _))⟩
/-- What New leaves. -/
def NewP (w : World) (sl : Int) (n : Nat) (e : Ending) (w' : World) : Prop := ∃ p : Pl, e = .returned (.tuple #[.pointer (some ⟨p.gm, 0, none⟩), .int .i64 0]) ∧ MAt w' p ⟨sl, [], List.replicate n Th0⟩ ∧ (∀ g ∈ p.foot, w.heap.size ≤ g) ∧ Nw w w'
set_option maxRecDepth 20000 in
set_option maxHeartbeats 8000000 in
theorem new_yes (c : Cf) (cuts : List Nat) (n : Nat) (w : World) (h : Rd w 1 c.cA cuts.length (nums cuts)) (hcn : c.cn = cuts.length) (hcr : 0 ≤ c.eng ∧ c.eng < 256) (hyes : chkC c cuts = 0) (hthr : c.thr = n) (hn : 1 ≤ n ∧ n ≤ 64) :
    Calls Tryz.prog 8 #[confV c] w (NewP w c.sl n) := by
  have HL := Lib.hid (fun W (hw : Nw w W) => layout_all c cuts W (h.nw hw) hcn hcr)
  rw [hyes] at HL
  have HNn := Lib.hid hn
  obtain ⟨thr, s, eng, bk, dk, dn, A, cn, cc, t1, t2, t3, t4, t5, t6, lk, tr, ba⟩ := c
  simp only at hthr
  subst hthr
  unfold confV at HL ⊢
  simp only at HL ⊢
  clear h hcn hcr hyes
  obtain ⟨cs, hcs⟩ : ∃ cs : Array Value, cs = #[.int .i64 (n : Int), .int .i64 s, .int .u8 eng, .int .i64 bk, .int .u8 dk, .int .i64 dn, .slice A cn cc, .int .i64 t1, .int .i64 t2, .int .i64 t3, .int .i64 t4, .int .i64 t5, .int .i64 t6, .int .i64 lk, .int .i64 tr, .int .i64 ba] := ⟨_, rfl⟩
  go_enter Tryz.func8, Tryz.ntmps8
  go_wp2_with fail
  refine (HL.out _ ((by repeat (first | exact Xt.Nw.refl _ | refine Xt.Nw.drew ?_ | refine Xt.Nw.drewN ?_ _ | refine Xt.Nw.alloc ?_ _ | refine Xt.Nw.joined ?_ | refine Xt.Nw.drewd ?_ | refine Xt.Nw.drewdN ?_ | refine Xt.Nw.ext ?_ | refine Xt.Nw.ext_some ?_ (by assumption) | refine Xt.Nw.setCell ?_ (by simp [go_sem] <;> omega) _)))).mono ?_
  rintro e w' ⟨rfl, dW, rfl⟩
  go_wp2_with fail
  refine (omapnew_any _).mono ?_
  rintro e w' ⟨rfl, rfl⟩
  go_upto_region 7 with (fail)
  simp only [← hcs]
  obtain ⟨gp, hgp⟩ : ∃ g, g = ((w.alloc (.cells cs 27)).ext none dW).heap.size := ⟨_, rfl⟩
  obtain ⟨W2, hW2⟩ : ∃ W2, W2 = ((w.alloc (.cells cs 27)).ext none dW).alloc (.cells #[.slice none 0 0] 112) := ⟨_, rfl⟩
  rw [← hgp, ← hW2]
  have hn2 : Nw w W2 := by rw [hW2]; exact (by repeat (first | exact Xt.Nw.refl _ | refine Xt.Nw.drew ?_ | refine Xt.Nw.drewN ?_ _ | refine Xt.Nw.alloc ?_ _ | refine Xt.Nw.joined ?_ | refine Xt.Nw.drewd ?_ | refine Xt.Nw.drewdN ?_ | refine Xt.Nw.ext ?_ | refine Xt.Nw.ext_some ?_ (by assumption) | refine Xt.Nw.setCell ?_ (by simp [go_sem] <;> omega) _))
  have c0 : W2.cell? ⟨w.heap.size, 0, none⟩ = some (.int .i64 n) := by rw [hW2, hcs]; simp [go_sem]
  have c1 : W2.cell? ⟨w.heap.size, 1, none⟩ = some (.int .i64 s) := by rw [hW2, hcs]; simp [go_sem]
  have cp : W2.cell? ⟨gp, 0, none⟩ = some (.slice none 0 0) := by rw [hW2, hgp]; simp [go_sem]
  have cz : W2.frozen? ⟨gp, 0, none⟩ = false := by rw [hW2, hgp]; simp [go_sem]
  have hb1 : w.heap.size < gp := by
    have h := le_size (w.alloc (.cells cs 27)) none dW
    rw [← hgp] at h
    simp at h; omega
  have hb2 : W2.heap.size = gp + 1 := by rw [hW2, hgp]; simp
  have HN2 := Lib.hid hn2
  have HCP := Lib.hid cp
  have HCZ := Lib.hid cz
  have HB1 := Lib.hid hb1
  have HB2 := Lib.hid hb2
  obtain ⟨i, hi1, hz0, hz1, hz2⟩ := info_parts thInfo
  obtain ⟨W3, hmk, hown, hgr⟩ := run_make_full W2.drew W2.heap.size 74 98 i (.agg #[.bool false, .bool false, .int .u64 0, .int .u64 0, .bool false]) 5 Tryz.underlying74 hi1 hz0 hz1 .i64 .i64 n (by rw [hz2]; omega) (by unfold maxLen; omega) (Nat.le_refl _)
  rw [tmade n] at hown
  have hd0 : W2.drew.heap.size = W2.heap.size := rfl
  rw [hd0] at hmk hown
  have hn3 : Nw W2 W3 := Nw.trans (Nw.drew (Nw.refl _)) (.of hgr)
  have e0 : W3.cell? ⟨w.heap.size, 0, none⟩ = some (.int .i64 n) := cell_nw c0 hn3
  have e1 : W3.cell? ⟨w.heap.size, 1, none⟩ = some (.int .i64 s) := cell_nw c1 hn3
  obtain ⟨gt, hgt⟩ : ∃ g, g = W2.heap.size := ⟨_, rfl⟩
  rw [← hgt] at hmk hown
  have HOW := Lib.hid hown
  have HN3 := Lib.hid hn3
  have HGT := Lib.hid hgt
  clear hW2 hgp hn2 cp cz hb1 hb2 hi1 hz0 hz1 hz2 hgr hown hn3 hgt hd0 hn hcs
  go_region
  go_wp2
  have hs2 := HN2.out.grown.size
  have hs3 := HN3.out.grown.size
  have hgt2 : gt < W3.heap.size := by
    rcases own_forms HOW.out with ⟨_, h0⟩ | ⟨g, cap, hv, _, hin, _, _⟩
    · have := HNn.out; omega
    · injection hv with hv; injection hv with hv; injection hv with hv; rw [hv]; exact hin.lt
  have hA : Nw W3 (W3.alloc (.cells #[.int .i64 s, .pointer (some ⟨gp, 0, none⟩), .slice (some ⟨gt, 0, none⟩) n n] 76)) := (Nw.refl _).alloc _
  have hz : (W3.alloc (.cells #[.int .i64 s, .pointer (some ⟨gp, 0, none⟩), .slice (some ⟨gt, 0, none⟩) n n] 76)).heap.size = W3.heap.size + 1 := by simp
  have hgp2 : gp < W2.heap.size := by have := HB2.out; omega
  have h1 := HB1.out
  have h2 := HB2.out
  have h3 := HGT.out
  refine bodyPost_ret (results_tmp2 rfl _ _ _) rfl ⟨⟨W3.heap.size, gt, gp, .slice none 0 0⟩, rfl, ⟨by simp [go_sem], by simp [go_sem], ⟨n, by simp [go_sem]⟩, fun o => by simp [go_sem], ?_, ⟨cell_nw HCP.out (HN3.out.trans hA), World.ownsRow_nil _ _ _ _, by simp [Value.ownBlock], (frozen_nw hgp2 (HN3.out.trans hA)).trans HCZ.out, List.Pairwise.nil⟩, by show W3.heap.size ≠ gt; omega, by show W3.heap.size ≠ gp; omega, by show gt ≠ gp; omega, by simp [Value.ownBlock], by simp [Value.ownBlock]⟩, ?_, (HN2.out.trans HN3.out).trans hA⟩
  · refine ⟨n, ?_⟩
    rw [List.length_replicate]
    exact own_le (own_nw HOW.out hA) (Nat.zero_le _)
  · intro g hg
    rcases Pl.mem.1 hg with h9 | h9 | h9 | h9
    · have h9 : g = W3.heap.size := h9; omega
    · have h9 : g = gt := h9; omega
    · have h9 : g = gp := h9; omega
    · cases h9
end Go.Proofs.YtfnapkfdocabcaaGreat
