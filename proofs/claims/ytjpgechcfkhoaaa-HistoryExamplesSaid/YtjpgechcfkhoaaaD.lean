import Derived.Test.YtjpgechcfkhoaaaC
import Derived.Test.YtjpgechcfkhoaaaA2
import Derived.Deep.RegionHeld3
namespace Go.Proofs.Ytjpgechcfkhoaaa
open Go.RowKit Go.Xt
theorem any_take {α : Type} (p : α → Bool) {l : List α} {k : Nat} {x : α} (hx : l[k]? = some x) : (l.take (k + 1)).any p = ((l.take k).any p || p x) := by
  obtain ⟨p1, q1⟩ := List.getElem?_eq_some_iff.1 hx
  rw [List.take_succ_eq_append_getElem p1, List.any_append, q1]; simp
theorem any_found {α : Type} (p : α → Bool) {l : List α} {k : Nat} {x : α} (hx : l[k]? = some x) (h : p x = true) : l.any p = true :=
  List.any_eq_true.2 ⟨x, List.mem_of_getElem? hx, h⟩
theorem yieldsIf_load {P : Program} {ops : Array Oper} {S : World → Prop} {op : Oper} {a : Act} (hw : Region.wanted op (yielded ops a.tmps) = true) (ty : TypeId) (x : Operand) (ho : op.op = .load ty x)
    (A : Addr) (hx : a.eval x = .pointer (some A)) (v : Value) (hS : ∀ w, S w → (Instr.loadAt ty (.pointer (some A))).run P w = .ok v w) : YieldsIf P ops S op v a :=
  .inl ⟨hw, fun w hw' => by
    unfold execOp
    simp only [ho, hx, Sem.run_bind, hS w hw', Result.andThen_ok, Sem.run_pure]⟩
set_option maxHeartbeats 4000000 in
theorem meet_any (a b : Cl) (w : World) :
    Calls Try.prog 47 #[cv a, cv b] w fun e w' => e = .returned (.bool (meetF a b)) ∧ Nw w w' := by
  obtain ⟨W2, hW2⟩ : ∃ W2, W2 = ((w.alloc (.cells #[.int .i64 a.th, .int .i64 a.ix, .int .u8 a.kd, .int .u64 a.ka, .int .u64 a.kb, .int .u64 a.kc, .int .u64 a.kx, .int .u64 a.ky, .int .u64 a.kz, .int .i64 a.inv, .int .i64 a.took, .int .i64 a.ans, .int .i64 a.st, .int .i64 a.re, .bool a.rf, .int .u64 a.rk, .int .u64 a.rv, .int .i64 a.rc] 47)).alloc (.cells #[.int .i64 b.th, .int .i64 b.ix, .int .u8 b.kd, .int .u64 b.ka, .int .u64 b.kb, .int .u64 b.kc, .int .u64 b.kx, .int .u64 b.ky, .int .u64 b.kz, .int .i64 b.inv, .int .i64 b.took, .int .i64 b.ans, .int .i64 b.st, .int .i64 b.re, .bool b.rf, .int .u64 b.rk, .int .u64 b.rv, .int .i64 b.rc] 47)) := ⟨_, rfl⟩
  have hnw : Nw w W2 := by rw [hW2]; exact (by repeat (first | exact Xt.Nw.refl _ | refine Xt.Nw.drew ?_ | refine Xt.Nw.drewN ?_ _ | refine Xt.Nw.alloc ?_ _ | refine Xt.Nw.joined ?_ | refine Xt.Nw.drewd ?_ | refine Xt.Nw.drewdN ?_ | refine Xt.Nw.ext ?_ | refine Xt.Nw.ext_some ?_ (by assumption) | refine Xt.Nw.setCell ?_ (by simp [go_sem] <;> omega) _))
  have hA : AtC W2 w.heap.size 0 a := by rw [hW2]; exact (boxed w a _).alloc (by simp) _
  have hB : AtC W2 (w.heap.size + 1) 0 b := by
    have h := boxed (w.alloc (.cells #[.int .i64 a.th, .int .i64 a.ix, .int .u8 a.kd, .int .u64 a.ka, .int .u64 a.kb, .int .u64 a.kc, .int .u64 a.kx, .int .u64 a.ky, .int .u64 a.kz, .int .i64 a.inv, .int .i64 a.took, .int .i64 a.ans, .int .i64 a.st, .int .i64 a.re, .bool a.rf, .int .u64 a.rk, .int .u64 a.rv, .int .i64 a.rc] 47)) b 47
    rw [World.size_alloc] at h
    rw [hW2]; exact h
  have hsz : W2.heap.size = w.heap.size + 2 := by rw [hW2]; simp
  have HW := Lib.hid hW2
  have HN := Lib.hid hnw
  clear hW2 hnw
  go_enter Try.func47, Try.ntmps47
  go_wp2
  rw [← HW.out]
  have hla : ∀ W, Nw W2 W → (Instr.loadAt 47 (.pointer (some ⟨w.heap.size, 0, none⟩))).run Try.prog W = .ok (cv a) W := by
    rintro W ⟨d, rfl⟩
    exact load_call (hA.ext (by omega) d)
  have hlb : ∀ W, Nw W2 W → (Instr.loadAt 47 (.pointer (some ⟨w.heap.size + 1, 0, none⟩))).run Try.prog W = .ok (cv b) W := by
    rintro W ⟨d, rfl⟩
    exact load_call (hB.ext (by omega) d)
  clear hA hB hsz
  have sa : ∀ W, Calls Try.prog 51 #[cv a] W fun e w' => ∃ v, e = .returned v ∧ OwnI w' W.heap.size v (stepsL a) ∧ Nw W w' := fun W => steps_any a W
  have sb : ∀ W, Calls Try.prog 51 #[cv b] W fun e w' => ∃ v, e = .returned v ∧ OwnI w' W.heap.size v (stepsL b) ∧ Nw W w' := fun W => steps_any b W
  obtain ⟨va, hva⟩ : ∃ va, va = cv a := ⟨_, rfl⟩
  obtain ⟨vb, hvb⟩ : ∃ vb, vb = cv b := ⟨_, rfl⟩
  rw [← hva] at hla sa
  rw [← hvb] at hlb sb
  rw [← hva, ← hvb]
  have HA := Lib.hid hva; have HB := Lib.hid hvb
  have HLA := Lib.hid hla; have HLB := Lib.hid hlb; have SA := Lib.hid sa; have SB := Lib.hid sb
  clear hva hvb hla hlb sa sb
  refine wp_region_held_drew (S := fun W => Nw W2 W) (by kernel_rfl) ((by repeat (first | exact Xt.Nw.refl _ | refine Xt.Nw.drew ?_ | refine Xt.Nw.drewN ?_ _ | refine Xt.Nw.alloc ?_ _ | refine Xt.Nw.joined ?_ | refine Xt.Nw.drewd ?_ | refine Xt.Nw.drewdN ?_ | refine Xt.Nw.ext ?_ | refine Xt.Nw.ext_some ?_ (by assumption) | refine Xt.Nw.setCell ?_ (by simp [go_sem] <;> omega) _))) (fun hHeld => ?_)
  refine wpAnyH_take (i := 0) (v := va) rfl (by kernel_rfl) (by kernel_rfl) (by kernel_rfl) (fun _ _ _ h => h) (yieldsIf_load (by rfl) 47 (.tmp 2) rfl _ rfl _ (fun W hW => HLA.out W hW)) (by assumption) ?_
  (try simp only [Act.put, List.setIfInBounds_toArray, List.set_cons_zero, List.set_cons_succ])
  refine wpAnyH_take (i := 2) (v := vb) rfl (by kernel_rfl) (by kernel_rfl) (by kernel_rfl) (fun _ _ _ h => h) (yieldsIf_load (by rfl) 47 (.tmp 3) rfl _ rfl _ (fun W hW => HLB.out W hW)) (by assumption) ?_
  (try simp only [Act.put, List.setIfInBounds_toArray, List.set_cons_zero, List.set_cons_succ])
  refine wpAnyH_ready (rs := [1]) (by kernel_rfl) (by simp) ?_
  refine AllReadyH.cons rfl (fun K hK => ?_) AllReadyH.nil
  rw [if_pos (by rfl)]
  go_wp2_with (go_at_call 51; refine (SA.out _).mono ?_; rintro e w' ⟨v1, rfl, hv1, d1, rfl⟩; have Hv1 := Lib.hid hv1; clear hv1)
  refine hK.out _ _ ((by repeat (first | exact Xt.Nw.refl _ | refine Xt.Nw.drew ?_ | refine Xt.Nw.drewN ?_ _ | refine Xt.Nw.alloc ?_ _ | refine Xt.Nw.joined ?_ | refine Xt.Nw.drewd ?_ | refine Xt.Nw.drewdN ?_ | refine Xt.Nw.ext ?_ | refine Xt.Nw.ext_some ?_ (by assumption) | refine Xt.Nw.setCell ?_ (by simp [go_sem] <;> omega) _))) (fun hHeld => ?_)
  (try simp only [Act.put, List.setIfInBounds_toArray, List.set_cons_zero, List.set_cons_succ])
  refine wpAnyH_ready (rs := [3]) (by kernel_rfl) (by simp) ?_
  refine AllReadyH.cons rfl (fun K hK => ?_) AllReadyH.nil
  rw [if_pos (by rfl)]
  go_wp2_with (go_at_call 51; refine (SB.out _).mono ?_; rintro e w' ⟨v2, rfl, hv2, d2, rfl⟩; have Hv2 := Lib.hid hv2; clear hv2)
  refine hK.out _ _ ((by repeat (first | exact Xt.Nw.refl _ | refine Xt.Nw.drew ?_ | refine Xt.Nw.drewN ?_ _ | refine Xt.Nw.alloc ?_ _ | refine Xt.Nw.joined ?_ | refine Xt.Nw.drewd ?_ | refine Xt.Nw.drewdN ?_ | refine Xt.Nw.ext ?_ | refine Xt.Nw.ext_some ?_ (by assumption) | refine Xt.Nw.setCell ?_ (by simp [go_sem] <;> omega) _))) (fun hHeld => ?_)
  refine wpAnyH_ready (rs := [4]) (by kernel_rfl) (by simp) ?_
  refine AllReadyH.cons rfl (fun K hK => ?_) AllReadyH.nil
  rw [if_pos (by rfl)]
  go_wp2_with fail
  refine hK.out _ _ ((by repeat (first | exact Xt.Nw.refl _ | refine Xt.Nw.drew ?_ | refine Xt.Nw.drewN ?_ _ | refine Xt.Nw.alloc ?_ _ | refine Xt.Nw.joined ?_ | refine Xt.Nw.drewd ?_ | refine Xt.Nw.drewdN ?_ | refine Xt.Nw.ext ?_ | refine Xt.Nw.ext_some ?_ (by assumption) | refine Xt.Nw.setCell ?_ (by simp [go_sem] <;> omega) _))) (fun hHeld => ?_)
  refine wpAnyH_ready (rs := [5]) (by kernel_rfl) (by simp) ?_
  refine AllReadyH.cons rfl (fun K hK => ?_) AllReadyH.nil
  rw [if_pos (by rfl)]
  go_wp2_with fail
  refine hK.out _ _ ((by repeat (first | exact Xt.Nw.refl _ | refine Xt.Nw.drew ?_ | refine Xt.Nw.drewN ?_ _ | refine Xt.Nw.alloc ?_ _ | refine Xt.Nw.joined ?_ | refine Xt.Nw.drewd ?_ | refine Xt.Nw.drewdN ?_ | refine Xt.Nw.ext ?_ | refine Xt.Nw.ext_some ?_ (by assumption) | refine Xt.Nw.setCell ?_ (by simp [go_sem] <;> omega) _))) (fun hHeld => ?_)
  refine wpAnyH_done (by kernel_rfl) ?_ _
  obtain ⟨A1, c1, rfl, x1⟩ := (show OwnI _ _ v1 (stepsL a) from Hv1.out).form
  obtain ⟨A2, c2, rfl, x2⟩ := (show OwnI _ _ v2 (stepsL b) from Hv2.out).form
  have x1' := x1.ext d2
  rw [ext_drew] at x1'
  have hN3 : Nw w ((W2.ext none (dpre W2.drew none d1)).ext none d2) := HN.out.ext.ext
  clear x1 Hv1 Hv2 hHeld
  generalize (W2.ext none (dpre W2.drew none d1)).ext none d2 = W3 at x1' x2 hN3 ⊢
  obtain ⟨X, hX⟩ : ∃ X, X = stepsL a := ⟨_, rfl⟩
  obtain ⟨Y, hY⟩ : ∃ Y, Y = stepsL b := ⟨_, rfl⟩
  have hmeet : meetF a b = X.any fun x => Y.any fun y => x == y := by rw [hX, hY]; rfl
  have hx3 : X.length ≤ 3 := by rw [hX]; exact Nat.le_trans (List.length_filter_le _ _) (by simp)
  have hy3 : Y.length ≤ 3 := by rw [hY]; exact Nat.le_trans (List.length_filter_le _ _) (by simp)
  have HM := Lib.hid hmeet
  rw [← hX] at x1' ⊢; rw [← hY] at x2 ⊢
  have HX := Lib.hid x1'; have HY := Lib.hid x2; have HN3 := Lib.hid hN3
  clear x1' x2 hN3 hX hY hmeet HN HW HA HB HLA HLB SA SB
  go_wp2
  go_loopw [7, 8] (fun i u wr => ∃ k : Nat, k ≤ X.length ∧ i = .int .i64 k ∧ Hid (((X.take k).any fun x => Y.any fun y => x == y) = false) ∧ Nw W3 wr) (fun i _ _ => X.length - (intOf i).toNat)
  case atStart => exact ⟨0, by omega, rfl, rfl, Nw.refl _⟩
  case round =>
    obtain ⟨k, hk, rfl, hf, d, rfl⟩ := hrel
    by_cases hlt : k < X.length
    · obtain ⟨g, o, x, rfl, hb, hx, hc⟩ := HX.out.get hlt
      haveI : In g W3 := ⟨hb⟩
      have hx' := Lib.hid hx
      clear hx
      go_wp2
      go_loopw [8] (fun i wr => ∃ j : Nat, j ≤ Y.length ∧ i = .int .i64 j ∧ Hid (((Y.take j).any fun y => x == y) = false) ∧ Nw W3 wr) (fun i _ => Y.length - (intOf i).toNat)
      case atStart => exact ⟨0, by omega, rfl, rfl, ⟨_, rfl⟩⟩
      case round =>
        obtain ⟨j, hj, rfl, hg, d', rfl⟩ := hrel
        by_cases hlt2 : j < Y.length
        · obtain ⟨g2, o2, y, rfl, hb2, hy, hc2⟩ := HY.out.get hlt2
          haveI : In g2 W3 := ⟨hb2⟩
          have hy' := Lib.hid hy
          clear hy
          go_wp2
          (refine wp_region_nw (by kernel_rfl) (by kernel_rfl) ?_; (repeat (go_big_quiet_step (fail))); refine wpQuiet_nil ?_; intro _ hreg; obtain ⟨dW, rfl⟩ : Nw _ _ := hreg)
          by_cases he : x = y
          · subst he
            go_wp2
            go_ret; refine ⟨ret_bool ?_, HN3.out.trans ((by repeat (first | exact Xt.Nw.refl _ | refine Xt.Nw.drew ?_ | refine Xt.Nw.drewN ?_ _ | refine Xt.Nw.alloc ?_ _ | refine Xt.Nw.joined ?_ | refine Xt.Nw.drewd ?_ | refine Xt.Nw.drewdN ?_ | refine Xt.Nw.ext ?_ | refine Xt.Nw.ext_some ?_ (by assumption) | refine Xt.Nw.setCell ?_ (by simp [go_sem] <;> omega) _)))⟩
            rw [HM.out, any_found (fun x => Y.any fun y => x == y) hx'.out (any_found (fun y => x == y) hy'.out (by simp))]
          · have he' : (x == y) = false := by simpa using he
            go_wp2
            refine ⟨⟨j + 1, by omega, by go_num, ?_, (by repeat (first | exact Xt.Nw.refl _ | refine Xt.Nw.drew ?_ | refine Xt.Nw.drewN ?_ _ | refine Xt.Nw.alloc ?_ _ | refine Xt.Nw.joined ?_ | refine Xt.Nw.drewd ?_ | refine Xt.Nw.drewdN ?_ | refine Xt.Nw.ext ?_ | refine Xt.Nw.ext_some ?_ (by assumption) | refine Xt.Nw.setCell ?_ (by simp [go_sem] <;> omega) _))⟩, by simp [intOf]; omega⟩
            show _ = _
            rw [any_take _ hy'.out, hg.out, he']; rfl
        · have hjy : j = Y.length := by omega
          go_wp2
          refine ⟨⟨k + 1, by omega, by go_num, ?_, (by repeat (first | exact Xt.Nw.refl _ | refine Xt.Nw.drew ?_ | refine Xt.Nw.drewN ?_ _ | refine Xt.Nw.alloc ?_ _ | refine Xt.Nw.joined ?_ | refine Xt.Nw.drewd ?_ | refine Xt.Nw.drewdN ?_ | refine Xt.Nw.ext ?_ | refine Xt.Nw.ext_some ?_ (by assumption) | refine Xt.Nw.setCell ?_ (by simp [go_sem] <;> omega) _))⟩, by simp [intOf]; omega⟩
          show _ = _
          have h2 := hg.out
          rw [hjy, List.take_length] at h2
          rw [any_take _ hx'.out, hf.out, h2]; rfl
    · have hkx : k = X.length := by omega
      go_wp2
      go_ret; refine ⟨ret_bool ?_, HN3.out.trans ((by repeat (first | exact Xt.Nw.refl _ | refine Xt.Nw.drew ?_ | refine Xt.Nw.drewN ?_ _ | refine Xt.Nw.alloc ?_ _ | refine Xt.Nw.joined ?_ | refine Xt.Nw.drewd ?_ | refine Xt.Nw.drewdN ?_ | refine Xt.Nw.ext ?_ | refine Xt.Nw.ext_some ?_ (by assumption) | refine Xt.Nw.setCell ?_ (by simp [go_sem] <;> omega) _)))⟩
      have h2 := hf.out
      rw [hkx, List.take_length] at h2
      rw [HM.out, h2]
end Go.Proofs.Ytjpgechcfkhoaaa
