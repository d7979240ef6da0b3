import Derived.Test.YtjpgechcfkhoaaaK
import Derived.Maps.OwnSet
import Derived.Maps.Views
import Derived.Maps.Keyed
import Derived.StillTailTactics
namespace Go.Proofs.Ytjpgechcfkhoaaa
open Go.RowKit Go.Xt
/-- Block mb is a map of at most n entries from ints to ints that is the function f. -/
def MapAt (W : World) (mb n : Nat) (f : Int → Option Int) : Prop :=
  ∃ D : DataW Unit, W.ownsMap Try.prog 3 (plainElem Try.prog 3) mb n D ∧ ∀ s, Maps.has D (.int .i64 s) = (f s).isSome ∧ ∀ t, f s = some t → D.atKey (.int .i64 s) (.lit (.int .i64 0)) = .lit (.int .i64 t)
theorem MapAt.kept {W W' : World} {mb n : Nat} {f : Int → Option Int} {row : Option Nat} (h : MapAt W mb n f) (hg : W.grownBy W' row) (hne : some mb ≠ row) : MapAt W' mb n f := by
  obtain ⟨D, h1, h2⟩ := h; exact ⟨D, h1.kept hg hne, h2⟩
theorem MapAt.mono {W : World} {mb n n' : Nat} {f : Int → Option Int} (h : MapAt W mb n f) (hn : n ≤ n') : MapAt W mb n' f := by
  obtain ⟨D, h1, h2⟩ := h; exact ⟨D, h1.mono hn, h2⟩
theorem MapAt.lt {W : World} {mb n : Nat} {f : Int → Option Int} (h : MapAt W mb n f) : mb < W.heap.size := by
  obtain ⟨D, h1, _⟩ := h; exact h1.lt
theorem mapAt_new (w : World) : MapAt (w.alloc (.map #[] 0)) w.heap.size 0 (fun _ => none) := ⟨_, World.ownsMap_made w _ _ _, fun s => ⟨rfl, fun t h => by cases h⟩⟩
theorem _root_.Go.World.grownBy.widen {W W' : World} (h : W.grownBy W' none) {row : Option Nat} : W.grownBy W' row := ⟨h.os, h.tape, h.output, h.size, fun k hk _ => h.block k hk (by simp)⟩
def upd (f : Int → Option Int) (s t : Int) : Int → Option Int := fun z => if z = s then some t else f z
theorem mapAt_put {W : World} {mb n : Nat} {f : Int → Option Int} {D : DataW Unit} (s t : Int) (h1 : Maps.IsMap D) (h2 : ∀ s, Maps.has D (.int .i64 s) = (f s).isSome ∧ ∀ t, f s = some t → D.atKey (.int .i64 s) (.lit (.int .i64 0)) = .lit (.int .i64 t))
    (h3 : W.ownsMap Try.prog 3 (plainElem Try.prog 3) mb n (D.put (.int .i64 s) (.lit (.int .i64 t)))) : MapAt W mb n (upd f s t) := by
  refine ⟨_, h3, fun z => ?_⟩
  by_cases hz : z = s
  · subst hz
    rw [Maps.has_put_same h1 (show WideAt.IsKeyLit (.int .i64 z) from trivial), Maps.atKey_put_same h1 (show WideAt.IsKeyLit (.int .i64 z) from trivial)]
    simp [upd]
  · have hne : (Lit.int .i64 z) ≠ .int .i64 s := by intro e; injection e with _ e; exact hz e
    rw [Maps.has_put_other hne, Maps.atKey_put_other hne]
    simp only [upd, if_neg hz]
    exact h2 z
def apStep (t : Int) (f : Int → Option Int) (s : Int) : Option (Int → Option Int) :=
  if s < 0 then some f else match f s with
    | some u => if u = t then some (upd f s t) else none
    | none => some (upd f s t)
def apRun (t : Int) : List Int → (Int → Option Int) → Option (Int → Option Int)
  | [], f => some f
  | s :: l, f => match apStep t f s with
    | some f' => apRun t l f'
    | none => none
theorem apRun_snoc (t s : Int) : ∀ (l : List Int) (f f' : Int → Option Int), apRun t l f = some f' → apRun t (l ++ [s]) f = apStep t f' s
  | [], f, f', h => by
    injection h with h; subst h
    show (match apStep t f s with | some f' => some f' | none => none) = _
    cases apStep t f s <;> rfl
  | a :: l, f, f', h => by
    rw [apRun] at h
    rw [List.cons_append, apRun]
    cases ha : apStep t f a with
    | none => rw [ha] at h; cases h
    | some f1 => rw [ha] at h; simp only; exact apRun_snoc t s l f1 f' h
theorem apRun_none (t : Int) : ∀ (l l' : List Int) (f : Int → Option Int), apRun t l f = none → apRun t (l ++ l') f = none
  | [], l', f, h => by cases h
  | a :: l, l', f, h => by
    rw [apRun] at h
    rw [List.cons_append, apRun]
    cases ha : apStep t f a with
    | none => rfl
    | some f1 => rw [ha] at h; exact apRun_none t l l' f1 h
theorem stepAt_wf {x : Cl} (hw : WfC x) {k : Nat} {s : Int} (h : [x.inv, x.took, x.ans][k]? = some s) : (Lit.int .i64 s).wf = true := by
  have hm : s ∈ [x.inv, x.took, x.ans] := List.mem_of_getElem? h
  have : -9223372036854775808 ≤ s ∧ s ≤ 9223372036854775807 := by
    simp only [List.mem_cons, List.not_mem_nil, or_false] at hm
    rcases hm with rfl | rfl | rfl
    · exact hw.inv
    · exact hw.took
    · exact hw.ans
  simp [Lit.wf, IntKind.min, IntKind.max, IntKind.bits, IntKind.signed]; omega
set_option maxRecDepth 100000 in
set_option maxHeartbeats 8000000 in
theorem apart_any (kb mb n : Nat) (f : Int → Option Int) (x : Cl) (w : World) (hk : w.cell? ⟨kb, 1, none⟩ = some (.map (some mb))) (hM : MapAt w mb n f) (hn : n ≤ 1000000) (hkm : kb ≠ mb) (hw : WfC x) :
    Calls Try.prog 37 #[.pointer (some ⟨kb, 0, none⟩), cv x] w fun e w' => e = .returned (.bool (apRun x.th [x.inv, x.took, x.ans] f).isSome) ∧ (∀ f', apRun x.th [x.inv, x.took, x.ans] f = some f' → MapAt w' mb (n + 3) f') ∧ w.grownBy w' (some mb) := by
  have hkb := World.block_lt_of_cell? w _ hk
  have hmb := hM.lt
  obtain ⟨W1, hW1⟩ : ∃ W1, W1 = ((w.alloc (.cells #[.int .i64 x.th, .int .i64 x.ix, .int .u8 x.kd, .int .u64 x.ka, .int .u64 x.kb, .int .u64 x.kc, .int .u64 x.kx, .int .u64 x.ky, .int .u64 x.kz, .int .i64 x.inv, .int .i64 x.took, .int .i64 x.ans, .int .i64 x.st, .int .i64 x.re, .bool x.rf, .int .u64 x.rk, .int .u64 x.rv, .int .i64 x.rc] 47)).alloc (.cells #[.int .i64 x.inv, .int .i64 x.took, .int .i64 x.ans] 3)) := ⟨_, rfl⟩
  have hsz : W1.heap.size = w.heap.size + 2 := by rw [hW1]; simp
  have hg : w.grownBy W1 none := by rw [hW1]; exact Nw.grown ((by repeat (first | exact Xt.Nw.refl _ | refine Xt.Nw.drew ?_ | refine Xt.Nw.drewN ?_ _ | refine Xt.Nw.alloc ?_ _ | refine Xt.Nw.joined ?_ | refine Xt.Nw.drewd ?_ | refine Xt.Nw.drewdN ?_ | refine Xt.Nw.ext ?_ | refine Xt.Nw.ext_some ?_ (by assumption) | refine Xt.Nw.setCell ?_ (by simp [go_sem] <;> omega) _)))
  have his : Is W1 (some ⟨w.heap.size + 1, 0, none⟩) 3 [x.inv, x.took, x.ans] := by
    have h := Is_three (w.alloc (.cells #[.int .i64 x.th, .int .i64 x.ix, .int .u8 x.kd, .int .u64 x.ka, .int .u64 x.kb, .int .u64 x.kc, .int .u64 x.kx, .int .u64 x.ky, .int .u64 x.kz, .int .i64 x.inv, .int .i64 x.took, .int .i64 x.ans, .int .i64 x.st, .int .i64 x.re, .bool x.rf, .int .u64 x.rk, .int .u64 x.rv, .int .i64 x.rc] 47)) x.inv x.took x.ans 3
    rw [World.size_alloc] at h
    rw [hW1]; exact h
  have hth : W1.cell? ⟨w.heap.size, 0, none⟩ = some (.int .i64 x.th) := by rw [hW1]; simp [go_sem]
  have hk1 : W1.cell? ⟨kb, 1, none⟩ = some (.map (some mb)) := (World.cell?_of_block (hg.block kb hkb (by simp))).trans hk
  have hM1 : MapAt W1 mb n f := hM.kept hg (by simp)
  haveI : In w.heap.size W1 := ⟨by omega⟩
  haveI : In (w.heap.size + 1) W1 := ⟨by omega⟩
  have hkb' : kb < w.heap.size := hkb
  haveI : In kb W1 := ⟨by omega⟩
  haveI : Off w.heap.size (some mb) := ⟨by intro e; injection e with e; omega⟩
  haveI : Off (w.heap.size + 1) (some mb) := ⟨by intro e; injection e with e; omega⟩
  haveI : Off kb (some mb) := ⟨by intro e; injection e with e; omega⟩
  have HI := Lib.hid his
  have HW := Lib.hid hW1
  have HG := Lib.hid hg
  have HWf := Lib.hid hw
  clear his hW1 hg hw hk hM
  go_enter Try.func37, Try.ntmps37
  go_wp2
  rw [← HW.out]
  go_loopw [6, 7, 8, 17] (fun _ _ _ i wr => ∃ (k : Nat) (f' : Int → Option Int), k ≤ 3 ∧ i = .int .i64 k ∧ Hid (apRun x.th ([x.inv, x.took, x.ans].take k) f = some f') ∧ MapAt wr mb (n + k) f' ∧ ∃ d, wr = W1.ext (some mb) d) (fun _ _ _ i _ => 3 - (intOf i).toNat)
  case atStart => exact ⟨0, f, by omega, rfl, rfl, hM1, W1, (ext_of (gref _ _)).symm⟩
  case round =>
    obtain ⟨k, f', hk, rfl, hrun, hMk, d, rfl⟩ := hrel
    by_cases hlt : k < 3
    · obtain ⟨b, o, s, e1, hb, hx, hc⟩ := HI.out.get hlt
      obtain ⟨rfl, rfl⟩ : w.heap.size + 1 = b ∧ 0 = o := by simpa using e1
      simp only [Nat.zero_add] at hc
      have hsw := stepAt_wf HWf.out hx
      have hsnoc : Hid (apRun x.th ([x.inv, x.took, x.ans].take (k + 1)) f = apStep x.th f' s) := by
        show _ = _
        obtain ⟨p1, q1⟩ := List.getElem?_eq_some_iff.1 hx
        rw [List.take_succ_eq_append_getElem p1, q1]
        exact apRun_snoc _ _ _ _ _ hrun.out
      have hkey : keyOf Try.prog 3 (.int .i64 s) = some (.int .i64 s) := Maps.keyOf_int_mk Try.underlying3 hsw
      clear hx e1
      by_cases h0 : s < 0
      · have hd : decide (s < 0) = true := by simpa using h0
        have HM := Lib.hid hMk
        clear hMk
        go_wp2
        refine ⟨⟨k + 1, f', by omega, by go_num, ?_, HM.out.mono (by omega), _, rfl⟩, by simp [intOf]; omega⟩
        show _ = _
        rw [hsnoc.out, apStep, if_pos h0]
      · have hd : decide (s < 0) = false := by simp; omega
        obtain ⟨D, hown, hD⟩ := hMk
        have HD := Lib.hid hD
        have HOwn := Lib.hid hown
        cases hfs : f' s with
        | none =>
          have hhas : Maps.has D (.int .i64 s) = false := by rw [(hD s).1, hfs]; rfl
          clear hD hown
          go_wp2_with (at_lookup; refine wpList_lookup_own_ok_int _ rfl _ _ 62 rfl 3 3 .i64 (Maps.int_keyed Try.underlying3) Try.underlying62 Try.underlying3 (Try.zeroValue3 _) mb (n + k) D rfl HOwn.out _ _ rfl hkey ?_; intro c hat hwc)
          have g1 : (W1.ext (some mb) d).cell? ⟨kb, 1, none⟩ = some (.map (some mb)) := by rw [cell_ext]; exact hk1
          have g2 : (W1.ext (some mb) d).cell? ⟨w.heap.size, 0, none⟩ = some (.int .i64 x.th) := by rw [cell_ext]; exact hth
          have g3 : W1.grownBy (W1.ext (some mb) d) (some mb) := gext _ _ _
          have hthw : (Lit.int .i64 x.th).wf = true := by have := HWf.out.th; simp [Lit.wf, IntKind.min, IntKind.max, IntKind.bits, IntKind.signed]; omega
          have hval : plainElem (H := Unit) Try.prog 3 (.int .i64 x.th) = some (.lit (.int .i64 x.th), []) := plainElem_int Try.underlying3 hthw
          generalize W1.ext (some mb) d = Wk at g1 g2 g3 HOwn ⊢
          haveI : In kb Wk := ⟨Nat.lt_of_lt_of_le hkb (Nat.le_trans (by omega) g3.size)⟩
          go_still_tail 7, (by kernel_rfl)
          change wpList _ _ _ _ _ Wk.drew
          refine wpList_mapUpdate_own _ rfl _ _ _ 62 rfl 3 3 (Maps.int_keyed Try.underlying3) Try.underlying62 _ mb (n + k) D rfl HOwn.out.drew (by unfold maxLen; omega) _ _ (.int .i64 s) rfl rfl hkey (.lit (.int .i64 x.th)) [] hval ?_
          intro w1 hown1 hgrow1
          have hM' := Lib.hid (mapAt_put s x.th HOwn.out.isMap HD.out hown1)
          have hG' : W1.grownBy w1 (some mb) := grownBy_trans (⟨g3.os, g3.tape, g3.output, g3.size, g3.block⟩ : W1.grownBy Wk.drew (some mb)) hgrow1
          have HG' := Lib.hid hG'
          clear hgrow1 hown1 hG' g1 g2 g3
          go_wp2
          refine ⟨⟨k + 1, upd f' s x.th, by omega, by go_num, ?_, hM'.out, _, (ext_of HG'.out).symm⟩, by simp [intOf]; omega⟩
          show _ = _
          rw [hsnoc.out, apStep, if_neg (show ¬ s < 0 by omega), hfs]
        | some u =>
          have hhas : Maps.has D (.int .i64 s) = true := by rw [(hD s).1, hfs]; rfl
          have hval0 := (hD s).2 u hfs
          have HV := Lib.hid hval0
          clear hD hown hval0
          by_cases hu : u = x.th
          · have hun : (u != x.th) = false := by simpa using hu
            have HU := Lib.hid hu
            clear hu
            go_wp2_with (at_lookup; refine wpList_lookup_own_ok_int _ rfl _ _ 62 rfl 3 3 .i64 (Maps.int_keyed Try.underlying3) Try.underlying62 Try.underlying3 (Try.zeroValue3 _) mb (n + k) D rfl HOwn.out _ _ rfl hkey ?_; intro c hat hwc; obtain rfl : u = c := by (have h1 := HV.out; rw [hat] at h1; injection h1 with h1; injection h1 with _ h1; exact h1.symm))
            have g1 : (W1.ext (some mb) d).cell? ⟨kb, 1, none⟩ = some (.map (some mb)) := by rw [cell_ext]; exact hk1
            have g2 : (W1.ext (some mb) d).cell? ⟨w.heap.size, 0, none⟩ = some (.int .i64 x.th) := by rw [cell_ext]; exact hth
            have g3 : W1.grownBy (W1.ext (some mb) d) (some mb) := gext _ _ _
            have hthw : (Lit.int .i64 x.th).wf = true := by have := HWf.out.th; simp [Lit.wf, IntKind.min, IntKind.max, IntKind.bits, IntKind.signed]; omega
            have hval : plainElem (H := Unit) Try.prog 3 (.int .i64 x.th) = some (.lit (.int .i64 x.th), []) := plainElem_int Try.underlying3 hthw
            generalize W1.ext (some mb) d = Wk at g1 g2 g3 HOwn ⊢
            haveI : In kb Wk := ⟨Nat.lt_of_lt_of_le hkb (Nat.le_trans (by omega) g3.size)⟩
            go_still_tail 7, (by kernel_rfl)
            change wpList _ _ _ _ _ Wk.drew
            refine wpList_mapUpdate_own _ rfl _ _ _ 62 rfl 3 3 (Maps.int_keyed Try.underlying3) Try.underlying62 _ mb (n + k) D rfl HOwn.out.drew (by unfold maxLen; omega) _ _ (.int .i64 s) rfl rfl hkey (.lit (.int .i64 x.th)) [] hval ?_
            intro w1 hown1 hgrow1
            have hM' := Lib.hid (mapAt_put s x.th HOwn.out.isMap HD.out hown1)
            have hG' : W1.grownBy w1 (some mb) := grownBy_trans (⟨g3.os, g3.tape, g3.output, g3.size, g3.block⟩ : W1.grownBy Wk.drew (some mb)) hgrow1
            have HG' := Lib.hid hG'
            clear hgrow1 hown1 hG' g1 g2 g3
            go_wp2
            refine ⟨⟨k + 1, upd f' s x.th, by omega, by go_num, ?_, hM'.out, _, (ext_of HG'.out).symm⟩, by simp [intOf]; omega⟩
            show _ = _
            rw [hsnoc.out, apStep, if_neg (show ¬ s < 0 by omega), hfs]
            simp [HU.out]
          · have hun : (u != x.th) = true := by simpa using hu
            have HU := Lib.hid hu
            clear hu
            go_wp2_with (at_lookup; refine wpList_lookup_own_ok_int _ rfl _ _ 62 rfl 3 3 .i64 (Maps.int_keyed Try.underlying3) Try.underlying62 Try.underlying3 (Try.zeroValue3 _) mb (n + k) D rfl HOwn.out _ _ rfl hkey ?_; intro c hat hwc; obtain rfl : u = c := by (have h1 := HV.out; rw [hat] at h1; injection h1 with h1; injection h1 with _ h1; exact h1.symm))
            have hnone : apRun x.th [x.inv, x.took, x.ans] f = none := by
              have h1 : apRun x.th ([x.inv, x.took, x.ans].take (k + 1)) f = none := by
                rw [hsnoc.out, apStep, if_neg (show ¬ s < 0 by omega), hfs]; simp [HU.out]
              rw [← List.take_append_drop (k + 1) [x.inv, x.took, x.ans]]
              exact apRun_none _ _ _ _ h1
            refine bodyPost_ret (results_tmp rfl _ _ _) rfl ⟨?_, ?_, ?_⟩
            · rw [hnone]; rfl
            · intro f1 h1; rw [hnone] at h1; cases h1
            · exact grownBy_trans (HG.out.widen) (gext _ _ _)
    · have hk3 : k = 3 := by omega
      subst hk3
      have HM := Lib.hid hMk
      clear hMk
      go_wp2
      have h3 : apRun x.th [x.inv, x.took, x.ans] f = some f' := hrun.out
      refine bodyPost_ret (results_tmp rfl _ _ _) rfl ⟨?_, ?_, ?_⟩
      · rw [h3]; rfl
      · intro f1 h1; rw [h3] at h1; injection h1 with h1; rw [← h1]; exact HM.out
      · exact grownBy_trans (HG.out.widen) (gext _ _ _)
end Go.Proofs.Ytjpgechcfkhoaaa
