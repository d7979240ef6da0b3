import Derived.Test.YtmbjpjpdcmjjgaaGreatDoorGKh
import Derived.Test.YtmbjpjpdcmjjgaaGreatDoorGP
import Derived.Test.YtmbjpjpdcmjjgaaGreatDoorGKi
import Derived.Test.YtmbjpjpdcmjjgaaGreatDoorGKg
set_option linter.unusedVariables false
set_option linter.unusedSimpArgs false
set_option linter.unnecessarySimpa false
namespace Go.Proofs.YtmbjpjpdcmjjgaaGreatDoor
open Go.RowKit Go.Xt
/-! What Find and Count do with each linearization. -/
def JF (base vb c0 c1 bo : Nat) (ys : List (List Nat)) (v : Value) (W : World) : Prop :=
  base ≤ bo ∧ vb < base ∧ vb ≠ c0 ∧ vb ≠ c1 ∧ c0 < base ∧ c1 < base ∧ base ≤ W.heap.size ∧ (∀ g, v.ownBlock = some g → base ≤ g) ∧ ∃ u : Value, W.cell? ⟨c0, 0, none⟩ = some u ∧ W.frozen? ⟨c0, 0, none⟩ = false ∧ W.cell? ⟨c1, 0, none⟩ = some (.bool (!ys.isEmpty)) ∧ W.frozen? ⟨c1, 0, none⟩ = false ∧
    (ys = [] → u = .slice none 0 0) ∧ (∀ o, ys.getLast? = some o → OwnI W base u (natI o)) ∧ ∀ g, u.ownBlock = some g → base ≤ g ∧ g < W.heap.size ∧ g ≠ bo ∧ v.ownBlock ≠ some g
theorem JF.step {base vb c0 c1 bo : Nat} {ys : List (List Nat)} {v v' : Value} {W W' : World} {X : List Nat} (h : JF base vb c0 c1 bo ys v W) (hc : Chg X W W') (hX : ∀ k ∈ X, k = bo ∨ k = vb ∨ v.ownBlock = some k) (hv : ∀ k, v'.ownBlock = some k → v.ownBlock = some k ∨ W.heap.size ≤ k) : JF base vb c0 c1 bo ys v' W' := by
  obtain ⟨h1, h2, h3, h4, h5, h6, h7, h8, u, u1, u2, u3, u4, u5, u6, u7⟩ := h
  have n0 : ∀ c, c < base → vb ≠ c → c ∉ X := fun c hcb hvc hx => by
    rcases hX c hx with e | e | e
    · omega
    · exact hvc e.symm
    · have := h8 c e; omega
  have nu : ∀ g, u.ownBlock = some g → g ∉ X := fun g hg hx => by
    have a := u7 g hg
    rcases hX g hx with e | e | e
    · exact a.2.2.1 e
    · omega
    · exact a.2.2.2 e
  refine ⟨h1, h2, h3, h4, h5, h6, Nat.le_trans h7 hc.size, fun g hg => ?_, u, hc.cell u1 (n0 c0 h5 h3), (hc.frozen (World.block_lt_of_cell? W _ u1) (n0 c0 h5 h3)).trans u2, hc.cell u3 (n0 c1 h6 h4), (hc.frozen (World.block_lt_of_cell? W _ u3) (n0 c1 h6 h4)).trans u4, u5, fun o ho => OwnI.chg (u6 o ho) hc nu, fun g hg => ?_⟩
  · rcases hv g hg with e | e
    · exact h8 g e
    · omega
  · have a := u7 g hg
    refine ⟨a.1, Nat.lt_of_lt_of_le a.2.1 hc.size, a.2.2.1, fun e => ?_⟩
    rcases hv g e with e2 | e2
    · exact a.2.2.2 e2
    · omega
set_option maxRecDepth 20000 in
set_option maxHeartbeats 8000000 in
theorem yield_find (W0 : World) (l : List Cl) (base bo vb c0 c1 : Nat) (h01 : c0 ≠ c1) : YieldC (fun _ => false) (JF base vb c0 c1 bo) W0 l bo vb c0 c1 18 := by
  intro ys o W v cnt hj hst ho
  obtain ⟨h1, h2, h3, h4, h5, h6, h7, h8, u, u1, u2, u3, u4, u5, u6, u7⟩ := hj
  have hobW : bo < W.heap.size := World.block_lt_of_cell? W _ hst.ob
  have hown := hst.own
  obtain ⟨A, c, rfl, his⟩ := OwnI.form hst.own
  rw [natI_len] at his
  have HIS := Lib.hid his.rd
  have HOWN := Lib.hid hown
  have HO := Lib.hid ho
  obtain ⟨n, hn⟩ : ∃ n, n = (natI o).length := ⟨_, rfl⟩
  have hno : n = o.length := by rw [hn, natI_len]
  rw [← hn] at h8 u7 ⊢
  rw [← hno] at HIS
  have HN := Lib.hid hn
  have HNO := Lib.hid hno
  haveI : In c0 W := ⟨World.block_lt_of_cell? W _ u1⟩
  haveI : In c1 W := ⟨World.block_lt_of_cell? W _ u3⟩
  have h10 : c1 ≠ c0 := Ne.symm h01
  clear his hn hno hown ho
  have HH := Lib.hid (show base ≤ bo ∧ vb < base ∧ vb ≠ c0 ∧ vb ≠ c1 ∧ c0 < base ∧ c1 < base ∧ base ≤ W.heap.size ∧ bo < W.heap.size from ⟨h1, h2, h3, h4, h5, h6, h7, hobW⟩)
  have H8 := Lib.hid h8
  have HU := Lib.hid (show (∀ g, u.ownBlock = some g → g < W.heap.size) from fun g hg => (u7 g hg).2.1)
  clear h1 h2 h3 h4 h5 h6 h7 h8 u5 u6 u7 hobW hst
  go_enter Tryz.func18, Tryz.ntmps18
  go_wp2_with (at_builtin; refine wpList_appS rfl _ _ 31 rfl 3 (.int .i64 0) 1 8 Tryz.underlying31 intInfo rfl (by decide) W _ (Nw.refl W) _ 0 [] rfl (World.ownsRow_nil _ _ _ _) _ n c (ints (natI o)) rfl HIS.out (ints_one _) (by unfold maxLen; have := HO.out; have := HNO.out; omega) (by have := HO.out; have := HNO.out; omega) ?_; intro vA dA hownA hnil; have hA2 : OwnI (W.ext none dA) W.heap.size vA (natI o) := OwnI.cast hownA (by rw [Nat.zero_add, HN.out]) (by simp); obtain ⟨Av, cv, hvA, -⟩ := OwnI.form hA2; rw [← HN.out] at hvA; subst hvA; have hnA : Nw W (W.ext none dA) := ⟨dA, rfl⟩; generalize W.ext none dA = wA at hA2 hnA ⊢; have t1 := cell_nw u1 hnA; have t2 := (frozen_nw (World.block_lt_of_cell? W _ u1) hnA).trans u2; have t3 := cell_nw u3 hnA; have t4 := (frozen_nw (World.block_lt_of_cell? W _ u3) hnA).trans u4; haveI : In c0 wA := ⟨World.block_lt_of_cell? wA _ t1⟩; haveI : In c1 wA := ⟨World.block_lt_of_cell? wA _ t3⟩; have HA := Lib.hid hA2; have HNA := Lib.hid hnA; clear hownA hA2 hnil hnA)
  go_ret
  obtain ⟨h1, h2, h3, h4, h5, h6, h7, hob⟩ := HH.out
  have hsz := HNA.out.grown.size
  have hch : Chg [c0, c1] W ((wA.setCell ⟨c0, 0, none⟩ (.slice Av n cv)).setCell ⟨c1, 0, none⟩ (.bool true)) := ((Chg.of_nw HNA.out).trans ((Chg.set1 wA c0 0 _).le (by simp))).trans ((Chg.set1 _ c1 0 _).le (by simp))
  have hgA : ∀ g, (Value.slice Av n cv).ownBlock = some g → W.heap.size ≤ g ∧ g < wA.heap.size := fun g hg => HA.out.lt g hg
  refine ⟨rfl, ⟨h1, h2, h3, h4, h5, h6, Nat.le_trans h7 hch.size, fun g hg => H8.out g hg, .slice Av n cv, ?_, ?_, ?_, ?_, fun h => by simp at h, fun o' ho' => ?_, fun g hg => ?_⟩, hch⟩
  · rw [World.cell?_setCell_other _ _ _ _ (by simp [h10])]
    exact World.cell?_setCell_same' _ _ _ (by rw [t1]; rfl)
  · rw [World.frozen?_setCell, World.frozen?_setCell]; exact t2
  · rw [World.cell?_setCell_same' _ _ _ (by rw [World.cell?_setCell_other _ _ _ _ (by simp [h01]), t3]; rfl)]
    simp
  · rw [World.frozen?_setCell, World.frozen?_setCell]; exact t4
  · simp at ho'
    subst ho'
    refine OwnI.chg (OwnI.chg (own_le HA.out h7) (Chg.set1 wA c0 0 _) (fun g hg => ?_)) (Chg.set1 _ c1 0 _) (fun g hg => ?_)
    · have := (hgA g hg).1; simp; omega
    · have := (hgA g hg).1; simp; omega
  · have a := hgA g hg
    refine ⟨by omega, by simp; omega, by omega, fun e => ?_⟩
    have := (HOWN.out.lt g (by rw [← HN.out]; exact e)).2
    omega
theorem wrap_succ (k : Nat) : wrap64 (wrap64 (k : Int) + 1) = wrap64 ((k + 1 : Nat) : Int) := by
  have e : ((k + 1 : Nat) : Int) = (k : Int) + 1 := by omega
  rw [e]
  unfold wrap64
  omega
def JC (base vb c0 c1 bo : Nat) (most : Int) (ys : List (List Nat)) (v : Value) (W : World) : Prop :=
  base ≤ bo ∧ vb < base ∧ vb ≠ c0 ∧ vb ≠ c1 ∧ c0 < base ∧ c1 < base ∧ base ≤ W.heap.size ∧ (∀ g, v.ownBlock = some g → base ≤ g) ∧ W.cell? ⟨c0, 0, none⟩ = some (.int .i64 (wrap64 (ys.length : Nat))) ∧ W.frozen? ⟨c0, 0, none⟩ = false ∧ W.cell? ⟨c1, 0, none⟩ = some (.int .i64 most)
theorem JC.step {base vb c0 c1 bo : Nat} {most : Int} {ys : List (List Nat)} {v v' : Value} {W W' : World} {X : List Nat} (h : JC base vb c0 c1 bo most ys v W) (hc : Chg X W W') (hX : ∀ k ∈ X, k = bo ∨ k = vb ∨ v.ownBlock = some k) (hv : ∀ k, v'.ownBlock = some k → v.ownBlock = some k ∨ W.heap.size ≤ k) : JC base vb c0 c1 bo most ys v' W' := by
  obtain ⟨h1, h2, h3, h4, h5, h6, h7, h8, u1, u2, u3⟩ := h
  have n0 : ∀ c, c < base → vb ≠ c → c ∉ X := fun c hcb hvc hx => by
    rcases hX c hx with e | e | e
    · omega
    · exact hvc e.symm
    · have := h8 c e; omega
  refine ⟨h1, h2, h3, h4, h5, h6, Nat.le_trans h7 hc.size, fun g hg => ?_, hc.cell u1 (n0 c0 h5 h3), (hc.frozen (World.block_lt_of_cell? W _ u1) (n0 c0 h5 h3)).trans u2, hc.cell u3 (n0 c1 h6 h4)⟩
  rcases hv g hg with e | e
  · exact h8 g e
  · omega
set_option maxRecDepth 20000 in
set_option maxHeartbeats 8000000 in
theorem yield_count (W0 : World) (l : List Cl) (base bo vb c0 c1 : Nat) (most : Int) (h01 : c0 ≠ c1) : YieldC (fun ys => decide (wrap64 (ys.length : Nat) < most)) (JC base vb c0 c1 bo most) W0 l bo vb c0 c1 19 := by
  intro ys o W v cnt hj hst ho
  obtain ⟨h1, h2, h3, h4, h5, h6, h7, h8, u1, u2, u3⟩ := hj
  obtain ⟨m, hm⟩ : ∃ m : Int, m = wrap64 (ys.length : Nat) := ⟨_, rfl⟩
  rw [← hm] at u1
  have hw : wrap64 (m + 1) = wrap64 ((ys ++ [o]).length : Nat) := by rw [hm, wrap_succ, List.length_append]; rfl
  haveI : In c0 W := ⟨World.block_lt_of_cell? W _ u1⟩
  haveI : In c1 W := ⟨World.block_lt_of_cell? W _ u3⟩
  have h10 : c1 ≠ c0 := Ne.symm h01
  have HH := Lib.hid (And.intro h1 (And.intro h2 (And.intro h3 (And.intro h4 (And.intro h5 (And.intro h6 (And.intro h7 h8)))))))
  have HW := Lib.hid hw
  clear h1 h2 h3 h4 h5 h6 h7 h8 hm hw hst ho
  go_enter Tryz.func19, Tryz.ntmps19
  go_wp2
  go_ret
  obtain ⟨h1, h2, h3, h4, h5, h6, h7, h8⟩ := HH.out
  refine ⟨?_, ⟨h1, h2, h3, h4, h5, h6, by simpa using h7, h8, ?_, ?_, ?_⟩, (Chg.set1 W c0 0 _).le (by simp)⟩
  · show Ending.returned (.bool (decide (wrap64 (m + 1) < most))) = _
    rw [HW.out]
  · rw [← HW.out]; exact World.cell?_setCell_same' _ _ _ (by rw [u1]; rfl)
  · rw [World.frozen?_setCell]; exact u2
  · rw [World.cell?_setCell_other _ _ _ _ (by simp [h01])]; exact u3
end Go.Proofs.YtmbjpjpdcmjjgaaGreatDoor
namespace Go.Proofs.YtmbjpjpdcmjjgaaGreatDoor
open Go.RowKit Go.Xt
/-! each. -/
theorem from_all (go : List (List Nat) → Bool) (J : List (List Nat) → Value → World → Prop) (W0 : World) (l : List Cl) (A : Option Addr) (n cap sb vb : Nat) (B : Option Addr) (cb bs by_ bo bq c0 c1 yk : Nat) (hS : Sr W0 l A n cap sb vb B cb bs by_ bo bq c0 c1 yk) (hyk : ∀ args W, (callFunc yk args).run Tryz.prog W = .ok (.enter yk args) W)
    (hJ : ∀ ys W W' v v' X, J ys v W → Chg X W W' → (∀ k ∈ X, k = bo ∨ k = vb ∨ v.ownBlock = some k) → (∀ k, v'.ownBlock = some k → v.ownBlock = some k ∨ W.heap.size ≤ k) → J ys v' W') (hY : YieldC go J W0 l bo vb c0 c1 yk) : ∀ f, FromC go J W0 l bs by_ bo bq vb c0 c1 f
  | 0 => from_step go J W0 l A n cap sb vb B cb bs by_ bo bq c0 c1 yk hS hyk hJ hY 0 (fun f' h => by cases h)
  | f + 1 => from_step go J W0 l A n cap sb vb B cb bs by_ bo bq c0 c1 yk hS hyk hJ hY (f + 1) (fun f' h => by
      obtain rfl : f = f' := by omega
      exact from_all go J W0 l A n cap sb vb B cb bs by_ bo bq c0 c1 yk hS hyk hJ hY f)
def Sep (wf W : World) (sb vb : Nat) (B : Option Addr) (p : Pl) (c : Nat) : Prop := wf.heap.size ≤ c ∧ c < W.heap.size ∧ c ≠ sb ∧ c ≠ vb ∧ (∀ b o, B = some ⟨b, o, none⟩ → b ≠ c) ∧ ∀ g ∈ p.foot, g ≠ c
theorem BegS.to {w W W' : World} {l : List Cl} {A : Option Addr} {n cap : Nat} {st : Md} {sb vb : Nat} {B : Option Addr} {cb : Nat} {p : Pl} (h : BegS w W l A n cap st sb vb B cb p) (hn : Nw W W') : BegS w W' l A n cap st sb vb B cb p :=
  { h with nw := h.nw.trans hn, s0 := cell_nw h.s0 hn, s1 := cell_nw h.s1 hn, s2 := cell_nw h.s2 hn, s3 := cell_nw h.s3 hn, s4 := cell_nw h.s4 hn, row := h.row.nw hn, vain := h.vain.kept hn.grown (by simp), ms := h.ms.nw hn, bw := fun b o e => ⟨(h.bw b o e).1, (h.bw b o e).2.1, Nat.lt_of_lt_of_le (h.bw b o e).2.2 hn.grown.size⟩ }
theorem BegS.before {wf w W : World} {l : List Cl} {A : Option Addr} {n cap : Nat} {st : Md} {sb vb : Nat} {B : Option Addr} {cb : Nat} {p : Pl} (h : BegS w W l A n cap st sb vb B cb p) {c : Nat} (h1 : wf.heap.size ≤ c) (h2 : c < w.heap.size) : Sep wf W sb vb B p c :=
  ⟨h1, Nat.lt_of_lt_of_le h2 h.nw.grown.size, by have := h.sw; omega, by have := h.vw; omega, fun b o e => by have := (h.bw b o e).1; omega, fun g hg => by have := h.ft g hg; omega⟩
theorem BegS.after {wf w W W' : World} {l : List Cl} {A : Option Addr} {n cap : Nat} {st : Md} {sb vb : Nat} {B : Option Addr} {cb : Nat} {p : Pl} (h : BegS w W l A n cap st sb vb B cb p) {c : Nat} (h0 : wf.heap.size ≤ W.heap.size) (h1 : W.heap.size ≤ c) (h2 : c < W'.heap.size) : Sep wf W' sb vb B p c :=
  ⟨by omega, h2, by have : sb < W.heap.size := World.block_lt_of_cell? W _ h.s0; omega, by have := h.vain.lt; omega, fun b o e => by have := (h.bw b o e).2.2; omega, fun g hg => by have := h.ms.at_.lt hg; omega⟩
def EachP (go : List (List Nat) → Bool) (J : Nat → List (List Nat) → Value → World → Prop) (W : World) (l : List Cl) (s0 : Md) (vb c0 c1 : Nat) (e : Ending) (W' : World) : Prop :=
  e = .returned (.tuple #[]) ∧ ∃ bo zs g v, Came go [] zs (exts l (l.length + 1) [] s0) g ∧ J bo zs v W' ∧ Chg [vb, c0, c1] W W'
theorem tn_le (n : Nat) (h : n ≤ 10) : tn n n ≤ 1000000000000000 := by
  have : ∀ m : Fin 11, tn m.1 m.1 ≤ 1000000000000000 := by decide
  exact this ⟨n, by omega⟩
set_option maxRecDepth 20000 in
set_option maxHeartbeats 8000000 in
theorem each_any (go : List (List Nat) → Bool) (J : Nat → List (List Nat) → Value → World → Prop) (wf w W : World) (l : List Cl) (A : Option Addr) (n cap : Nat) (s0 : Md) (sb vb : Nat) (B : Option Addr) (cb : Nat) (p : Pl) (c0 c1 yk : Nat) (hB : BegS w W l A n cap s0 sb vb B cb p) (hcs : Cs W A n l) (hn : n ≤ 10) (hwx : ∀ y ∈ l, WfX y) (hc0 : Sep wf W sb vb B p c0) (hc1 : Sep wf W sb vb B p c1) (hwf : Nw wf w) (hF : FmtAt wf)
    (hA : ∀ b o, A = some ⟨b, o, none⟩ → b < wf.heap.size) (hyk : ∀ args W, (callFunc yk args).run Tryz.prog W = .ok (.enter yk args) W)
    (hJ : ∀ bo, W.heap.size ≤ bo → ∀ ys W1 W' v v' X, J bo ys v W1 → Chg X W1 W' → (∀ k ∈ X, k = bo ∨ k = vb ∨ v.ownBlock = some k) → (∀ k, v'.ownBlock = some k → v.ownBlock = some k ∨ W1.heap.size ≤ k) → J bo ys v' W')
    (hY : ∀ W0 bo, W.heap.size ≤ bo → YieldC go (J bo) W0 l bo vb c0 c1 yk) (hj : ∀ bo W', W.heap.size ≤ bo → Nw W W' → J bo [] (.slice none 0 0) W') :
    Calls Tryz.prog 17 #[.pointer (some ⟨sb, 0, none⟩), .func (.func yk) #[] #[.pointer (some ⟨c0, 0, none⟩), .pointer (some ⟨c1, 0, none⟩)]] W (EachP go J W l s0 vb c0 c1) := by
  obtain ⟨b0, hb0⟩ : ∃ z, z = W.heap.size := ⟨_, rfl⟩
  obtain ⟨W0, hW0⟩ : ∃ w, w = (((W.alloc (.cells #[.pointer (some ⟨sb, 0, none⟩)] 53)).alloc (.cells #[.func (.func yk) #[] #[.pointer (some ⟨c0, 0, none⟩), .pointer (some ⟨c1, 0, none⟩)]] 57)).alloc (.cells #[.slice none 0 0] 31)).alloc
      (.cells #[.func (.func 35) #[] #[.pointer (some ⟨W.heap.size, 0, none⟩), .pointer (some ⟨W.heap.size + 1, 0, none⟩), .pointer (some ⟨W.heap.size + 1 + 1, 0, none⟩), .pointer (some ⟨W.heap.size + 1 + 1 + 1, 0, none⟩)]] 80) := ⟨_, rfl⟩
  have hn0 : Nw W W0 := by rw [hW0]; exact ((((Nw.refl W).alloc _).alloc _).alloc _).alloc _
  have hsz : W0.heap.size = b0 + 1 + 1 + 1 + 1 := by rw [hW0, hb0]; simp
  have e1 : W0.cell? ⟨b0, 0, none⟩ = some (.pointer (some ⟨sb, 0, none⟩)) := by rw [hW0, hb0]; simp [go_sem]
  have e2 : W0.cell? ⟨b0 + 1, 0, none⟩ = some (.func (.func yk) #[] #[.pointer (some ⟨c0, 0, none⟩), .pointer (some ⟨c1, 0, none⟩)]) := by rw [hW0, hb0]; simp [go_sem]
  have e3 : W0.cell? ⟨b0 + 1 + 1, 0, none⟩ = some (.slice none 0 0) := by rw [hW0, hb0]; simp [go_sem]
  have e4 : W0.cell? ⟨b0 + 1 + 1 + 1, 0, none⟩ = some (.func (.func 35) #[] #[.pointer (some ⟨b0, 0, none⟩), .pointer (some ⟨b0 + 1, 0, none⟩), .pointer (some ⟨b0 + 1 + 1, 0, none⟩), .pointer (some ⟨b0 + 1 + 1 + 1, 0, none⟩)]) := by rw [hW0, hb0]; simp [go_sem]
  have ez : W0.frozen? ⟨b0 + 1 + 1, 0, none⟩ = false := by rw [hW0, hb0]; simp [go_sem]
  have hsbW : sb < W.heap.size := World.block_lt_of_cell? W _ hB.s0
  have hww := hB.nw.grown.size
  have hwfs := hwf.grown.size
  obtain ⟨p0, p1, p2, p3, p4, p5⟩ := hc0
  obtain ⟨q0, q1, q2, q3, q4, q5⟩ := hc1
  have hvl := hB.vain.lt
  have hsv : sb ≠ vb := hB.vain.ne hB.s0
  have hS : Sr W0 l A n cap sb vb B cb b0 (b0 + 1) (b0 + 1 + 1) (b0 + 1 + 1 + 1) c0 c1 yk :=
    { hl := hcs.nw hn0, hn := hn, wf := hwx, s0 := cell_nw hB.s0 hn0, s2 := cell_nw hB.s2 hn0, s3 := cell_nw hB.s3 hn0, s4 := cell_nw hB.s4 hn0, row := hB.row.nw hn0, b1 := e1, b2 := e2, b3 := e4,
      lo := by omega, lv := by omega, l0 := by omega, l1 := by omega,
      x1 := fun b hb => by
        have := hB.sw
        simp at hb ⊢
        rcases hb with rfl | rfl | rfl | rfl
        · exact ⟨by omega, hsv, by omega, by omega⟩
        · omega
        · omega
        · omega
      x2 := fun b o hbA => by
        have h1 := hA b o hbA
        have h2 := hB.vw
        simp; omega
      x3 := fun b o hbB => by
        have h2 := hB.bw b o hbB
        have h3 := p4 b o hbB
        have h4 := q4 b o hbB
        simp; omega
      x4 := by have := hB.vw; omega
      fmt := fun W' hc => by
        have hn' : Nw wf W' := nw_chg2 ((hwf.trans hB.nw).trans hn0) hc (fun k hk => by have := hB.vw; simp at hk; omega)
        exact hF.nw hn' }
  have hst : Ss W0 l (b0 + 1 + 1) vb c0 c1 [] (.slice none 0 0) 0 W0 := ⟨Chg.of_nw (Nw.refl _), e3, ez, World.ownsRow_nil _ _ _ _, hB.vain.kept hn0.grown (by simp)⟩
  have hms := hB.ms.nw hn0
  have hI := fun W' (hw : Nw W0 W') => from_all go (J (b0 + 1 + 1)) W0 l A n cap sb vb B cb b0 (b0 + 1) (b0 + 1 + 1) (b0 + 1 + 1 + 1) c0 c1 yk hS hyk (hJ (b0 + 1 + 1) (by omega)) (hY W0 (b0 + 1 + 1) (by omega)) l.length [] s0 0 W' (.slice none 0 0) p 0 [] (by simp) (ord_nil _) Msk.nil (hst.nw hw) (hj _ _ (by omega) (hn0.trans hw)) (hms.nw hw)
    (fun g hg => ⟨by
      have h1 := hB.ft g hg
      have h2 := hB.ms.at_.lt hg
      have h3 := hB.fv g hg
      have h4 := p5 g hg
      have h5 := q5 g hg
      simp; omega, by simp [Value.ownBlock]⟩) (by rw [Nat.zero_add]; exact tn_le _ (by rw [hcs.1]; exact hn))
  obtain ⟨gm, hgm⟩ : ∃ g, g = p.gm := ⟨_, rfl⟩
  simp only [← hgm, show ((0 : Nat) : Int) = 0 from rfl] at hI
  have i1 : W0.cell? ⟨sb, 1, none⟩ = some (.pointer (some ⟨gm, 0, none⟩)) := by rw [hgm]; exact cell_nw hB.s1 hn0
  have HI := Lib.hid hI
  have HN0 := Lib.hid hn0
  have HW0 := Lib.hid hW0
  have HB0 := Lib.hid hb0
  have HV := Lib.hid (And.intro hvl (And.intro hsz (And.intro p1 (And.intro q1 hww))))
  haveI : In sb W := ⟨hsbW⟩
  haveI : In sb W0 := ⟨World.block_lt_of_cell? W0 _ i1⟩
  haveI : In b0 W0 := ⟨by omega⟩
  haveI : In (b0 + 1 + 1 + 1) W0 := ⟨by omega⟩
  clear hI hn0 hW0 hb0 hst hms hS hsz hB hcs hn hwx p0 p1 p2 p3 p4 p5 q0 q1 q2 q3 q4 q5 hwf hF hA hyk hJ hY hj hgm e2 e3 ez hsbW hww hwfs hvl hsv
  have hmf : ∀ (fn : Fn) (first cap : Array Value) (w : World), (Instr.makeFunc fn first cap).run Tryz.prog w = .ok (.func fn first cap) w := fun _ _ _ _ => rfl
  go_enter Tryz.func17, Tryz.ntmps17
  go_upto_region 4 with (fail)
  rw [← HW0.out, ← HB0.out]
  go_still_tail 5, (by kernel_rfl)
  go_wp2_with fail
  refine (HI.out _ (Nw.drew (Nw.refl _))).mono ?_
  intro e W5 hP5
  unfold FromP at hP5
  obtain ⟨sm, gg, v3, cn3, zs, he5, hcame, -, -, -, hj3, hchg3, -⟩ := hP5
  subst he5
  go_wp2
  go_end0
  refine ⟨rfl, b0 + 1 + 1, zs, gg, v3, hcame, by simpa using hj3, ?_⟩
  have h0 : Chg [vb, c0, c1] W W0 := Chg.of_nw HN0.out
  have h1 := (h0.trans (Chg.of_nw (Nw.drew (Nw.refl W0)))).then hchg3 (fun k hk => by
    simp [Value.ownBlock] at hk ⊢
    have := HB0.out
    omega)
  exact h1
end Go.Proofs.YtmbjpjpdcmjjgaaGreatDoor
