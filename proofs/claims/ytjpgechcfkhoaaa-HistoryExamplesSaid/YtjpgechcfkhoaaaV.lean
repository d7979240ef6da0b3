import Derived.Test.YtjpgechcfkhoaaaU
namespace Go.Proofs.Ytjpgechcfkhoaaa
open Go.RowKit Go.Xt
attribute [local go_sem] Oper.semAt_some
/-- What the rounds of Of hold. -/
def OfI (w : World) (t : Int) (pre : List (Nat × Cl)) (W : World) : Prop :=
  (∃ v, Boxed W w.heap.size 22 v ∧ W.ownsRow w.heap.size 47 18 v pre.length (cells (pre.map (·.2))) ∧ True) ∧ (Boxed W (w.heap.size + 1) 3 (.int .i64 t) ∧ Below w.heap.size w W)
theorem boxed_own {β : Type} (B : Nat) (t : TypeId) (v : Value) : Own (fun (_ : β) W => Boxed W B t v) := by
  rintro s X Y row hv hg hrow
  refine Boxed.kept hv hg (fun e' => ?_)
  obtain ⟨o, ho, hc⟩ := hrow B e'.symm
  rw [show X.heap[B]? = _ from hv] at ho; cases ho; cases hc
theorem ofI_own (w : World) (t : Int) : OwnFrom w.heap.size (OfI w t) :=
  OwnFrom.and (Own.from (holdsRow_own w.heap.size w.heap.size 22 47 18 (fun pre : List (Nat × Cl) => pre.length) (fun pre => cells (pre.map (·.2))) (fun _ _ => True)) _)
    (OwnFrom.and (Own.from (boxed_own _ _ _) _) (ownFrom_below (Nat.le_refl _) (by omega)))
set_option maxRecDepth 100000 in
set_option maxHeartbeats 8000000 in
theorem of_all (t : Int) (A : Option Addr) (n c : Nat) (l : List Cl) (w : World) (hn : n ≤ 1000) (hl : Cs w A n l) :
    Calls Try.prog 13 #[.int .i64 t, .slice A n c] w fun e w' => ∃ v, e = .returned v ∧ OwnC w' w.heap.size v (ofT t l) ∧ Nw w w' := by
  obtain ⟨i0, hi, hz0, hz1, hz2⟩ := info_parts callInfo
  have bO := Boxed.new w 22 (.slice none 0 0)
  have bT := Boxed.new (w.alloc (.cells #[.slice none 0 0] 22)) 3 (.int .i64 t)
  rw [World.size_alloc] at bT
  have bL := Boxed.new ((w.alloc (.cells #[.slice none 0 0] 22)).alloc (.cells #[.int .i64 t] 3)) 22 (.slice A n c)
  rw [World.size_alloc, World.size_alloc] at bL
  have hB0 : Below w.heap.size w (((w.alloc (.cells #[.slice none 0 0] 22)).alloc (.cells #[.int .i64 t] 3)).alloc (.cells #[.slice A n c] 22)) := (((Below.refl _ w).alloc (Nat.le_refl _) _).alloc (by simp) _).alloc (by simp; omega) _
  have hCs := hl.nw (Nw.of_below hB0)
  have hA : ∀ b' o', A = some ⟨b', o', none⟩ → 0 < n → b' < w.heap.size := fun b' o' e hp => by
    obtain ⟨b, o, rfl, hb, _⟩ := hl.2 hp
    injection e with e; injection e with e1 e2; omega
  have hlen := hl.1
  clear hl
  refine (callsIn_wide (n := 9)).1 ?_
  refine callsIn_of_wp_marks Try.func13 rfl trivial ?_ rfl
  refine wpIn_wide.2 ?_
  simp only [Try.ntmps13, List.size_toArray, List.length_cons, List.length_nil, Nat.reduceAdd, Nat.reduceSub, Array.replicate_succ, Array.replicate_zero, List.push_toArray, List.append_toArray, List.nil_append, List.cons_append]
  go_wp2_with (go_at_call 39; refine (of_any _ _ _ _ _).mono ?_; rintro e w' ⟨rfl, rfl⟩)
  have hO : OwnFrom w.heap.size (OfI w t) := ofI_own w t
  have h0 : OfI w t [] (((w.alloc (.cells #[.slice none 0 0] 22)).alloc (.cells #[.int .i64 t] 3)).alloc (.cells #[.slice A n c] 22)) := ⟨⟨_, (bO.alloc _).alloc _, World.ownsRow_nil _ _ _ _, trivial⟩, bT.alloc _, hB0⟩
  have hW7 : (((w.alloc (.cells #[.slice none 0 0] 22)).alloc (.cells #[.int .i64 t] 3)).alloc (.cells #[.slice A n c] 22)).heap.size = w.heap.size + 3 := by simp
  generalize (((w.alloc (.cells #[.slice none 0 0] 22)).alloc (.cells #[.int .i64 t] 3)).alloc (.cells #[.slice A n c] 22)) = W7 at h0 hW7 hCs bL hB0 ⊢
  have bT' := h0.2.1
  have c1 := bL.cell
  have c2 := bT'.cell
  clear bO bT
  refine (wpIn_wide (n := 9)).1 ?_
  refine wpIn_rangeFunc_ownH (F := Fence.wide) (n := 9) rfl (by omega) (gf := 48) (lb := #[.pointer (some ⟨w.heap.size + 1 + 1, 0, none⟩), .pointer (some ⟨w.heap.size + 1, 0, none⟩)]) rfl trivial (enters_of Try.func48 (by kernel_rfl) rfl)
    (of_stops Fence.wide (9 - 1) trivial rfl (by omega) (w.heap.size + 1 + 1) (w.heap.size + 1) w.heap.size t A n c l hn W7 (by omega) (fun hp b' o' e => hA b' o' e hp) c1 c2 hCs) KT.trans (KT.put (by omega) (by omega)) (Below.refl _ _) (fun _ => rfl)
    (OfI w t) (fun _ _ _ => False)
    (fun s X Y row hs hg hr => hO s X Y row hs hg (fun r e => ⟨by have := (hr r e).1; omega, (hr r e).2⟩))
    (fun _ _ _ _ _ hs _ _ => hs) h0
    (fun z a' W => ∃ Bx, AtC W Bx 0 z.2 ∧ a' = { tmps := #[.int .i64 t, .slice A n c, undef, undef, .slice none 0 0, .pointer (some ⟨w.heap.size, 0, none⟩), undef, .pointer (some ⟨Bx, 0, none⟩), .int .i64 t, .slice A n c, .func (.func 48) #[] #[.pointer (some ⟨w.heap.size + 1 + 1, 0, none⟩), .pointer (some ⟨w.heap.size + 1, 0, none⟩)], .int .i64 (z.1 : Int), cv z.2, undef, undef, undef, undef, undef], defers := [] })
    (fun z a' _ X Y row hs hg hr => by obtain ⟨Bx, h2, h3⟩ := hs; exact ⟨Bx, h2.kept hg (fun r e => (hr r e).2), h3⟩)
    ?assign ?body ?done ?stop
  case assign =>
    rintro l' pre z W K hi' hK
    have hgt := hi'.2.2.size
    have hlt := hi'.2.1.lt
    gi_wp2
    exact hK _ _ ((KeepsOthers.alloc _ _).from _) ((KT.refl _ _ W).alloc (by omega) (by omega) _) (hO.alloc _ hi') ⟨W.heap.size, boxed W z.2 _, rfl⟩
  case body =>
    rintro l' pre z a' W hl' ⟨r, hr⟩ ⟨⟨v, hv, hrow, _⟩, hT, hB⟩ ⟨Bx, bX, rfl⟩ hlt
    obtain ⟨v17, hv17⟩ := bX.some 0 (by omega)
    haveI : CallAt W Bx 0 z.2 := ⟨bX, World.block_lt_of_cell? W _ hv17⟩
    have hc := hv.cell
    clear hv17
    gi_wp2_with (gi_at_builtin; refine wpListIn_append_own _ rfl _ _ 22 rfl w.heap.size 47 i0 (cv zc) 18 144 Try.underlying22 hi hz0 hz1 hz2 rfl (by decide) _ _ _ rfl (hrow.alloc _) ⟨W.heap.size, 0, none⟩ 1 1 (cl z.2) rfl rfl (new_cells rfl _) (cl_one z.2) (by unfold maxLen; omega) (by omega) (by have := hB.size; simp; omega) ?_; intro v' w1 hown' hgrow _; obtain ⟨g', cap', rfl⟩ := ownsRow_succ hown'; obtain ⟨hv1, hv2, hr2, hk2, hb2⟩ := hv.appended (by decide) hrow hB.size (Nat.le_refl _) hown' hgrow; have hc1 := hv1.cell; have hf1 := hv1.frozen)
    have hT1 : Boxed w1 (w.heap.size + 1) 3 (.int .i64 t) := (hT.alloc _).kept hgrow (hT.not_row (by decide) hrow)
    have hT2 := hT1.kept (grownBy_setCell' w1 w.heap.size (.slice (some ⟨g', 0, none⟩) (pre.length + 1) cap')) (by simp)
    refine ⟨hk2.from _, ⟨hb2, (show _ = _ from hT2).trans (show _ = _ from hT).symm⟩, ⟨⟨_, hv2, ?_, trivial⟩, hT2, hB.trans hb2⟩⟩
    rw [List.map_append, List.length_append, cells_app]
    exact hr2
  case done =>
    rintro D ys W hD rfl ⟨⟨v, hv, hrow, _⟩, hT, hB⟩ hK
    have hc := hv.cell
    go_wp2
    refine ⟨by simp, .inl ⟨_, _, rfl, run_takeDeferred hK, ?_⟩⟩
    have h2 := ofK_of t l n (by omega)
    rw [List.take_of_length_le (by omega)] at h2
    rw [h2, show (ofK t l n).length = (ofT t l).length by rw [← h2, List.length_map]] at hrow
    exact ⟨_, results_tmp rfl _ _ _, v, rfl, ownsRow_putObj hrow _ hK rfl, Nw.of_below (hB.trans (belowK_b (w := w) (Nat.le_refl _) W D _ _ (by omega) hK rfl rfl))⟩
  case stop =>
    rintro D c pre W _ _ h _
    exact h.elim
end Go.Proofs.Ytjpgechcfkhoaaa
