import Derived.Test.YtkikdpdainmlcaaGreatGNe
import Derived.WalkMore
set_option linter.unusedVariables false
set_option linter.unusedSimpArgs false
set_option linter.unnecessarySimpa false
namespace Go.Proofs.YtkikdpdainmlcaaGreat
open Go.RowKit Go.Xt
attribute [local go_sem] Oper.semAt_some
/-! explains. -/
theorem during_any (A : Option Addr) (n c : Nat) (fr hi : Int) (w : World) :
    Calls Tryz.prog 64 #[.slice A n c, .int .i64 fr, .int .i64 hi] w fun e w' => e = .returned (.func (.func 77) #[] #[.pointer (some ⟨w.heap.size, 0, none⟩), .pointer (some ⟨w.heap.size + 1 + 1, 0, none⟩), .pointer (some ⟨w.heap.size + 1, 0, none⟩)]) ∧ w' = ((w.alloc (.cells #[.slice A n c] 88)).alloc (.cells #[.int .i64 fr] 3)).alloc (.cells #[.int .i64 hi] 3) := by
  have hmf : ∀ (fn : Fn) (first cap : Array Value) (w : World), (Instr.makeFunc fn first cap).run Tryz.prog w = .ok (.func fn first cap) w := fun _ _ _ _ => rfl
  go_enter Tryz.func64, Tryz.ntmps64
  go_wp2
  go_ret
  exact ⟨rfl, rfl⟩
theorem dur1_stops {β : Type} (vf : β → Value) (hvf : ∀ y, ∃ A n c, vf y = .slice A n c) (n : Nat) (hn : 1 ≤ n) (Bm Bt Bf : Nat) (fr hi : Int) (A : Option Addr) (len cap : Nat) (E : List (Int × β)) (hlen : len ≤ 2000) (hE : E.length = len) (w : World)
    (hBm : w.cell? ⟨Bm, 0, none⟩ = some (.slice A len cap)) (hBt : w.cell? ⟨Bt, 0, none⟩ = some (.int .i64 hi)) (hBf : w.cell? ⟨Bf, 0, none⟩ = some (.int .i64 fr)) (hr : Rd w 2 A len (ecells vf E)) :
    SeqStopsK Fence.wide n Tryz.prog 77 #[.pointer (some ⟨Bm, 0, none⟩), .pointer (some ⟨Bt, 0, none⟩), .pointer (some ⟨Bf, 0, none⟩)] (encS vf) KCe (fun ys => ys = durL fr hi E)
      (fun pre => ∃ suf, pre ++ suf = durL fr hi E) len w := fun l J Jx W hW hJ _ hY h0 => by
  have hnw : Nw w W := Nw.of_below hW
  exact dur1_in vf hvf n hn l Bm Bt Bf fr hi A len cap E hlen hE J Jx hY W hJ (cell_nw hBm hnw) (cell_nw hBt hnw) (cell_nw hBf hnw) (hr.nw hnw) h0
theorem zip_E (Q : Value × List (Int × Int) → Prop) : ∀ (zs : List (Int × Value)) (out : List Sta), zs.length = out.length → (∀ (i : Nat) (z : Int × Value) (s : Sta), zs[i]? = some z → out[i]? = some s → z.1 = s.1 ∧ Q (z.2, s.2)) →
    ∃ E : List (Int × {y // Q y}), zs = E.map (fun e => (e.1, e.2.1.1)) ∧ out = E.map (fun e => (e.1, e.2.1.2))
  | [], [], _, _ => ⟨[], rfl, rfl⟩
  | [], _ :: _, h, _ => by simp at h
  | _ :: _, [], h, _ => by simp at h
  | z :: zs, s :: out, h, hq => by
    obtain ⟨E, h1, h2⟩ := zip_E Q zs out (by simpa using h) (fun i z' s' hz hs => hq (i + 1) z' s' (by simpa using hz) (by simpa using hs))
    have h0 := hq 0 z s rfl rfl
    exact ⟨(z.1, ⟨(z.2, s.2), h0.2⟩) :: E, by rw [List.map_cons, ← h1], by rw [List.map_cons, ← h2]; show _ = (z.1, s.2) :: out; rw [h0.1]⟩
def PvOk (w : World) (base : Nat) (y : Value × List (Int × Int)) : Prop := w.ownsRow base 51 2 y.1 y.2.length (pcells y.2) ∧ OkP y.2
abbrev PvT (w : World) (base : Nat) : Type := {y : Value × List (Int × Int) // PvOk w base y}
def vfP {w : World} {base : Nat} (y : PvT w base) : Value := y.1.1
theorem vfP_slice {w : World} {base : Nat} (y : PvT w base) : ∃ A n c, vfP y = .slice A n c := by
  obtain ⟨A, c, e⟩ := own_slice y.2.1
  exact ⟨A, _, c, e⟩
theorem Sts.E {W : World} {base : Nat} {v : Value} {zs : List (Int × Value)} {out : List Sta} (h : Sts W base v zs out) : ∃ E : List (Int × PvT W base), zs = E.map (fun e => (e.1, vfP e.2)) ∧ out = E.map (fun e => (e.1, e.2.1.2)) :=
  zip_E (PvOk W base) zs out h.len (fun i z s hz hs => ⟨(h.el i z s hz hs).1, (h.el i z s hz hs).2, h.ok s (List.mem_of_getElem? hs)⟩)
theorem explM_find {w : World} {base : Nat} {out : List Sta} {E : List (Int × PvT w base)} {x : Cl} (h : out = E.map (fun e => (e.1, e.2.1.2))) (h0 : ¬ (x.rk ≠ 0 ∨ x.rc ≠ 0)) :
    explM out x = match (durL x.inv x.ans E).find? fun e => agrB1 x e.2.1.2 with | some e => e.1 | none => -1 := by
  unfold explM
  rw [if_neg h0, h, durL_map x.inv x.ans (fun y : PvT w base => y.1.2) E, List.find?_map]
  show (match Option.map (fun e : Int × PvT w base => (e.1, e.2.1.2)) ((durL x.inv x.ans E).find? fun e => agrB1 x e.2.1.2) with | some z => z.1 | none => -1) = _
  cases (durL x.inv x.ans E).find? (fun e => agrB1 x e.2.1.2) <;> rfl
def ExI (w : World) (base : Nat) (x : Cl) (pre : List (Int × PvT w base)) (W : World) : Prop := (Box W w.heap.size x ∧ Boxed W (w.heap.size + 1) 3 (.int .i64 (-1)) ∧ ∀ e ∈ pre, agrB1 x e.2.1.2 = false) ∧ Below w.heap.size w W
def ExX (w : World) (base : Nat) (x : Cl) (c : Code) (pre : List (Int × PvT w base)) (W : World) : Prop := c = .exit 0 ∧ ((∃ (pre' : List (Int × PvT w base)) (z : Int × PvT w base), pre = pre' ++ [z] ∧ (∀ e ∈ pre', agrB1 x e.2.1.2 = false) ∧ agrB1 x z.2.1.2 = true ∧ Boxed W (w.heap.size + 1) 3 (.int .i64 z.1)) ∧ Below w.heap.size w W)
theorem exI_own (w : World) (base : Nat) (x : Cl) : OwnFrom w.heap.size (ExI w base x) := fun s A B row hs hg hr =>
  ⟨⟨hs.1.1.kept hg (fun r e => (hr r e).2), boxed_own (β := Unit) _ _ _ () A B row hs.1.2.1 hg (fun r e => (hr r e).2), hs.1.2.2⟩, ownFrom_below (β := Unit) (Nat.le_refl _) (Nat.le_refl _) () A B row hs.2 hg hr⟩
theorem exX_own (w : World) (base : Nat) (x : Cl) (c : Code) : OwnFrom w.heap.size (ExX w base x c) := fun s A B row hs hg hr => by
  obtain ⟨h1, ⟨p, z, h2, h3, h4, h5⟩, h6⟩ := hs
  exact ⟨h1, ⟨p, z, h2, h3, h4, boxed_own (β := Unit) _ _ _ () A B row h5 hg (fun r e => (hr r e).2)⟩, ownFrom_below (β := Unit) (Nat.le_refl _) (Nat.le_refl _) () A B row h6 hg hr⟩
set_option maxRecDepth 100000 in
set_option maxHeartbeats 8000000 in
theorem explains_any {w : World} {base : Nat} {v : Value} {zs : List (Int × Value)} {out : List Sta} (hs : Sts w base v zs out) (hlen : out.length ≤ 2000) (x : Cl) :
    Calls Tryz.prog 46 #[v, cv x] w fun e w' => e = .returned (.int .i64 (explM out x)) ∧ Nw w w' := by
  obtain ⟨E, hz, ho⟩ := hs.E
  obtain ⟨A, c, rfl⟩ := own_slice hs.row
  obtain ⟨n, hn⟩ : ∃ n, n = zs.length := ⟨_, rfl⟩
  have hnE : E.length = n := by rw [hn, hz, List.length_map]
  have hnl : n ≤ 2000 := by rw [hn, hs.len]; exact hlen
  have hrd := own_rd hs.row
  rw [← hn] at hrd
  have hrd : Rd w 2 A n (ecells vfP E) := by unfold ecells; rw [← hz]; exact hrd
  rw [← hn]
  obtain ⟨wb, hwb⟩ : ∃ W, W = (w.alloc (.cells #[.int .i64 x.th, .int .i64 x.ix, .int .u8 x.kd, .int .u64 x.ka, .int .u64 x.kb, .int .u64 x.kc, .int .u64 x.kx, .int .u64 x.ky, .int .u64 x.kz, .int .i64 x.inv, .int .i64 x.took, .int .i64 x.ans, .int .i64 x.st, .int .i64 x.re, .bool x.rf, .int .u64 x.rk, .int .u64 x.rv, .int .i64 x.rc] 45)).alloc (.cells #[.int .i64 (-1)] 3) := ⟨_, rfl⟩
  have hnb : Nw w wb := by rw [hwb]; exact nwa
  have hsz : wb.heap.size = w.heap.size + 1 + 1 := by rw [hwb]; simp
  have hbx : Box wb w.heap.size x := (newBox w x).same (W' := wb) (by rw [hwb]; exact RowKit.Below.heap_alloc _ _ _ (by simp))
  obtain ⟨_, _, _, b3, _, _, _, _, _, b9, _, b11, _, _, b14, b15, b16, b17⟩ := id hbx.1
  simp only [Nat.zero_add] at b3 b9 b11 b14 b15 b16 b17
  have hst : Boxed wb (w.heap.size + 1) 3 (.int .i64 (-1)) := by
    rw [hwb]
    have h := Boxed.new (w.alloc (.cells #[.int .i64 x.th, .int .i64 x.ix, .int .u8 x.kd, .int .u64 x.ka, .int .u64 x.kb, .int .u64 x.kc, .int .u64 x.kx, .int .u64 x.ky, .int .u64 x.kz, .int .i64 x.inv, .int .i64 x.took, .int .i64 x.ans, .int .i64 x.st, .int .i64 x.re, .bool x.rf, .int .u64 x.rk, .int .u64 x.rv, .int .i64 x.rc] 45)) 3 (.int .i64 (-1))
    rw [World.size_alloc] at h
    exact h
  have hcl := hst.cell
  haveI : In w.heap.size wb := ⟨by omega⟩
  haveI : In (w.heap.size + 1) wb := ⟨by omega⟩
  have HWB := Lib.hid hwb
  have HNB := Lib.hid hnb
  have HSZ := Lib.hid hsz
  have HRD := Lib.hid hrd
  have HNE := Lib.hid hnE
  have HST := Lib.hid hst
  have HBX := Lib.hid hbx
  by_cases h1 : x.rk ≠ 0 ∨ x.rc ≠ 0
  · have hr : explM out x = -1 := by unfold explM; rw [if_pos h1]
    rw [hr]
    clear ho hz hs hnE hrd hnb hsz hst hn hwb hbx
    by_cases h2 : x.rk = 0
    · have d1 : (x.rk != 0) = false := by simpa using h2
      have d2 : (x.rc != 0) = true := by simp; omega
      clear h1 h2
      go_enter Tryz.func46, Tryz.ntmps46
      go_wp2_with fail
      go_step3
      go_wp2_with fail
      rw [Exit.noGoto_ret]
      exact bodyPost_ret (results_tmp rfl _ _ _) rfl ⟨rfl, nwa⟩
    · have d1 : (x.rk != 0) = true := by simpa using h2
      clear h1 h2
      go_enter Tryz.func46, Tryz.ntmps46
      go_wp2_with fail
      go_step3
      go_wp2_with fail
      rw [Exit.noGoto_ret]
      exact bodyPost_ret (results_tmp rfl _ _ _) rfl ⟨rfl, nwa⟩
  · have d1 : (x.rk != 0) = false := by simp; omega
    have d2 : (x.rc != 0) = false := by simp; omega
    rw [explM_find ho h1]
    clear h1 ho hz hs hnE hrd hnb hsz hst hn hwb hbx
    refine (callsIn_wide (n := 9)).1 ?_
    refine callsIn_of_wp_marks Tryz.func46 rfl trivial ?_ rfl
    refine wpIn_wide.2 ?_
    simp only [Tryz.ntmps46, List.size_toArray, List.length_cons, List.length_nil, Nat.reduceAdd, Nat.reduceSub, Array.replicate_succ, Array.replicate_zero, List.push_toArray, List.append_toArray, List.nil_append, List.cons_append]
    go_wp2_with fail
    go_step3
    go_wp2_with fail
    go_step3
    rw [← HWB.out]
    go_wp2_with fail
    refine (during_any _ _ _ _ _ _).mono ?_
    rw [HSZ.out]
    rintro e w' ⟨rfl, hw7⟩
    obtain ⟨W7, hW7⟩ : ∃ W, W = w' := ⟨_, rfl⟩
    subst hW7
    have hn7 : Nw wb W7 := by rw [hw7]; exact ((Nw.refl wb).alloc _).alloc _ |>.alloc _
    have hB7 : Below w.heap.size w W7 := (HNB.out.trans hn7).below
    have c1 : W7.cell? ⟨w.heap.size + 1 + 1, 0, none⟩ = some (.slice A n c) := by rw [hw7, ← HSZ.out]; simp [go_sem]
    have c3 : W7.cell? ⟨w.heap.size + 1 + 1 + 1, 0, none⟩ = some (.int .i64 x.inv) := by rw [hw7, ← HSZ.out]; simp [go_sem]
    have c2 : W7.cell? ⟨w.heap.size + 1 + 1 + 1 + 1, 0, none⟩ = some (.int .i64 x.ans) := by rw [hw7, ← HSZ.out]; simp [go_sem]
    have hs7 : W7.heap.size = w.heap.size + 5 := by rw [hw7]; simp [HSZ.out]
    have h0 : ExI w base x [] W7 := ⟨⟨HBX.out.same (hn7.grown.block _ (by have := HSZ.out; omega) (by simp)), HST.out.kept hn7.grown (by simp), fun e he => by cases he⟩, hB7⟩
    have hr7 := HRD.out.nw (HNB.out.trans hn7)
    have hval : ∀ (y : PvT w base) (k : Int) W, Nw w W → Calls Tryz.prog 65 #[vfP y, .int .u64 k] W fun r w' => r = .returned (.tuple #[.int .u64 (valL k y.1.2), .bool (hasK k y.1.2)]) ∧ Nw W w' := fun y k W hn => by
      obtain ⟨⟨pv, pl⟩, h1, h2⟩ := y
      obtain ⟨A', c', e'⟩ := own_slice h1
      simp only at e' h1
      subst e'
      exact value_any A' _ c' pl k W ((own_rd h1).nw hn) h2.asc_ (by have : pl.length ≤ 500000 := h2.len; omega)
    have HVAL := Lib.hid hval
    clear hw7 hn7 hB7 hval b3 b9 b11 b14 b15 b16 b17 hcl
    go_wp2_with fail
    refine (wpIn_wide (n := 9)).1 ?_
    refine wpIn_rangeFunc_ownH (F := Fence.wide) (n := 9) rfl (by omega) (gf := 77) (lb := #[.pointer (some ⟨w.heap.size + 1 + 1, 0, none⟩), .pointer (some ⟨w.heap.size + 1 + 1 + 1 + 1, 0, none⟩), .pointer (some ⟨w.heap.size + 1 + 1 + 1, 0, none⟩)]) rfl trivial (enters_of Tryz.func77 (by kernel_rfl) rfl)
      (dur1_stops vfP vfP_slice (9 - 1) (by omega) (w.heap.size + 1 + 1) (w.heap.size + 1 + 1 + 1 + 1) (w.heap.size + 1 + 1 + 1) x.inv x.ans A n c E hnl HNE.out W7 c1 c2 c3 hr7) KCe.trans (fun W l o o' _ h1 h2 _ => KCe.put W l o o' h1 h2) (Below.refl _ _) (fun _ => rfl)
      (ExI w base x) (ExX w base x)
      (fun s X Y row hs hg hr => exI_own w base x s X Y row hs hg (fun r e => ⟨by have := (hr r e).1; omega, (hr r e).2⟩))
      (fun cd s X Y row hs hg hr => exX_own w base x cd s X Y row hs hg (fun r e => ⟨by have := (hr r e).1; omega, (hr r e).2⟩)) h0
      (fun z a' W => a' = { tmps := #[.slice A n c, cv x, undef, .pointer (some ⟨w.heap.size, 0, none⟩), .int .i64 0, .pointer (some ⟨w.heap.size + 1, 0, none⟩), .int .i64 z.1, vfP z.2, undef, undef, .pointer (some ⟨w.heap.size, 13, none⟩), .pointer (some ⟨w.heap.size, 15, none⟩), .int .u64 x.rk, .bool false, .bool false, .pointer (some ⟨w.heap.size, 13, none⟩), .pointer (some ⟨w.heap.size, 17, none⟩), .int .i64 x.rc, .bool false, .bool false, undef, .slice A n c, .pointer (some ⟨w.heap.size, 9, none⟩), .int .i64 x.inv, .pointer (some ⟨w.heap.size, 11, none⟩), .int .i64 x.ans, .func (.func 77) #[] #[.pointer (some ⟨w.heap.size + 1 + 1, 0, none⟩), .pointer (some ⟨w.heap.size + 1 + 1 + 1 + 1, 0, none⟩), .pointer (some ⟨w.heap.size + 1 + 1 + 1, 0, none⟩)], .int .i64 z.1, vfP z.2, undef, undef, undef, undef, undef, undef, undef, undef, undef, undef, undef, undef, undef, undef, undef, undef, undef, undef, undef, undef, undef, undef], defers := [] })
      (fun z a' _ X Y row hs hg hr => hs)
      ?assign ?body ?done ?stop
    case assign =>
      rintro l pre z W K hi hK
      dsimp only [encS]
      gi_wp2
      exact hK _ _ (KeepsFrom.refl _ _) (KCe.refl _) hi rfl
    case body =>
      rintro l pre z a' W hl ⟨r, hr⟩ ⟨⟨q1, q2, q3⟩, qB⟩ rfl hlt
      obtain ⟨_, _, _, b3, _, _, _, _, _, _, _, _, _, _, b14, _, b16, _⟩ := id q1.1
      simp only [Nat.zero_add] at b3 b14 b16
      have cs := q2.cell
      have cz := q2.frozen
      haveI : In w.heap.size W := ⟨World.block_lt_of_cell? W _ b3⟩
      haveI : In (w.heap.size + 1) W := ⟨World.block_lt_of_cell? W _ cs⟩
      obtain ⟨Az, nz, cv', hv⟩ := vfP_slice z.2
      have hcall := fun W' (hq : Nw w W') => HVAL.out z.2 x.ka W' hq
      rw [hv] at hcall ⊢
      obtain ⟨hb, hhb⟩ : ∃ b, b = hasK x.ka z.2.1.2 := ⟨_, rfl⟩
      obtain ⟨vv, hvv⟩ : ∃ b, b = valL x.ka z.2.1.2 := ⟨_, rfl⟩
      have hag : agrB1 x z.2.1.2 = (decide (hb = x.rf) && decide (vv = x.rv)) := by unfold agrB1; rw [← hhb, ← hvv]
      rw [← hhb, ← hvv] at hcall
      have HCALL := Lib.hid hcall
      have HAG := Lib.hid hag
      have HQ := Lib.hid (And.intro q1 (And.intro q2 (And.intro q3 qB)))
      clear hcall hag hhb hvv q1 q2 q3 qB hv
      gi_wp2_with fail
      refine ⟨trivial, (((callsIn_wide (n := 6)).2 (HCALL.out W (Nw.of_below HQ.out.2.2.2))).inRound l).mono ?_⟩
      rintro e W8 ⟨rfl, hn⟩
      have hk : KeepsFrom W7.heap.size W W8 := KeepsFrom.of_grownBy hn.grown (fun j h => by cases h)
      have hq1 := HQ.out.1.kept hn.grown (fun r e => by cases e)
      have hq2 := HQ.out.2.1.kept hn.grown (by simp)
      obtain ⟨_, _, _, _, _, _, _, _, _, _, _, _, _, _, e14, _, e16, _⟩ := id hq1.1
      simp only [Nat.zero_add] at e14 e16
      have ds := hq2.cell
      have dz := hq2.frozen
      haveI : In w.heap.size W8 := ⟨World.block_lt_of_cell? W8 _ e14⟩
      haveI : In (w.heap.size + 1) W8 := ⟨World.block_lt_of_cell? W8 _ ds⟩
      have HK := Lib.hid (And.intro hk (And.intro hn (And.intro hq1 hq2)))
      have HB := Lib.hid (HQ.out.2.2.2.trans (hn.below.mono (by have := HQ.out.2.2.2.size; omega)))
      clear hk hn hq1 hq2 b3 b14 b16 cs cz
      by_cases h1 : hb = x.rf
      · subst h1
        by_cases h2 : vv = x.rv
        · subst h2
          gi_wp2
          refine ⟨HK.out.1.trans ((KeepsOthers.setCell _ _ _).from _), ⟨rfl, ⟨pre, z, rfl, HQ.out.2.2.1, by rw [HAG.out]; simp, HK.out.2.2.2.set _⟩, HB.out.setCell (p := ⟨w.heap.size + 1, 0, none⟩) (by show w.heap.size ≤ w.heap.size + 1; omega) _⟩⟩
        · have d4 : (vv == x.rv) = false := by simpa using h2
          have d5 : decide (vv = x.rv) = false := by simpa using h2
          have HD5 := Lib.hid d5
          clear h2
          gi_wp2
          refine ⟨HK.out.1, KCe.nw HK.out.2.1, ⟨HK.out.2.2.1, HK.out.2.2.2, fun e he => ?_⟩, HB.out⟩
          rcases List.mem_append.1 he with he | he
          · exact HQ.out.2.2.1 e he
          · simp at he; subst he; rw [HAG.out, HD5.out]; simp
      · have hbr : hb = !x.rf := by revert h1; cases hb <;> cases x.rf <;> simp
        subst hbr
        have HH1 := Lib.hid h1
        have d6 : ((!x.rf) == x.rf) = false := by cases x.rf <;> rfl
        clear h1
        gi_wp2
        refine ⟨HK.out.1, KCe.nw HK.out.2.1, ⟨HK.out.2.2.1, HK.out.2.2.2, fun e he => ?_⟩, HB.out⟩
        rcases List.mem_append.1 he with he | he
        · exact HQ.out.2.2.1 e he
        · simp at he; subst he; rw [HAG.out]; simp [HH1.out]
    case done =>
      rintro D ys W hD rfl ⟨⟨q1, q2, q3⟩, qB⟩ hK
      have cs := q2.cell
      haveI : In (w.heap.size + 1) W := ⟨World.block_lt_of_cell? W _ cs⟩
      have HQ := Lib.hid (And.intro q3 qB)
      clear q1 q2 q3 qB
      go_wp2
      rw [Exit.noGoto_ret]
      refine ⟨by simp, .inl ⟨_, _, rfl, run_takeDeferred hK, ?_⟩⟩
      refine ⟨_, results_tmp rfl _ _ _, ?_, Nw.of_below (HQ.out.2.trans (belowK_b (w := w) (Nat.le_refl _) W D _ _ (by omega) hK rfl rfl))⟩
      have : (durL x.inv x.ans E).find? (fun e => agrB1 x e.2.1.2) = none := by
        rw [List.find?_eq_none]
        intro e he
        rw [HQ.out.1 e he]; simp
      rw [this]
      rfl
    case stop =>
      rintro D cd pre W hD hpre ⟨rfl, ⟨pre', z, rfl, p1, p2, p3⟩, qB⟩ hK
      have cs := p3.cell
      haveI : In (w.heap.size + 1) W := ⟨World.block_lt_of_cell? W _ cs⟩
      have HQ := Lib.hid (And.intro p1 (And.intro p2 qB))
      have HP := Lib.hid hpre
      clear p1 p2 p3 qB hpre
      gi_wp2
      go_wp2
      rw [Exit.noGoto_ret]
      refine ⟨by simp, .inl ⟨_, _, rfl, run_takeDeferred hK, ?_⟩⟩
      refine ⟨_, results_tmp rfl _ _ _, ?_, Nw.of_below (HQ.out.2.2.trans (belowK_b (w := w) (Nat.le_refl _) W D _ _ (by omega) hK rfl rfl))⟩
      obtain ⟨suf, hsuf⟩ := HP.out
      have : (durL x.inv x.ans E).find? (fun e => agrB1 x e.2.1.2) = some z := by
        rw [← hsuf, List.append_assoc, List.find?_append, List.find?_eq_none.2 (fun e he => by rw [HQ.out.1 e he]; simp)]
        simp [HQ.out.2.1]
      rw [this]
      rfl
end Go.Proofs.YtkikdpdainmlcaaGreat
namespace Go.Proofs.YtkikdpdainmlcaaGreat
open Go.RowKit Go.Xt
/-! Check. -/
def badR (maps : List Sta) : List Cl → Nat → Option Nat
  | [], _ => none
  | x :: r, k => if (readB x && decide (explM maps x < 0)) = true then some k else badR maps r (k + 1)
theorem badR_drop {maps : List Sta} {l : List Cl} {k : Nat} {x : Cl} (hx : l[k]? = some x) : badR maps (l.drop k) k = if (readB x && decide (explM maps x < 0)) = true then some k else badR maps (l.drop (k + 1)) (k + 1) := by
  obtain ⟨p, e⟩ := List.getElem?_eq_some_iff.1 hx
  rw [List.drop_eq_getElem_cons p, e, badR]
def wChk (c : Cf) (cuts : List Nat) (l : List Cl) : Int × Int := match wX c cuts l with
  | .error z => z
  | .ok out => match badR out l 0 with
    | some i => ((i : Int), 18)
    | none => (0, 0)
set_option maxRecDepth 20000 in
set_option maxHeartbeats 8000000 in
theorem wcheck_any {w : World} {c : Cf} {cuts : List Nat} {A : Option Addr} {n cap : Nat} {l : List Cl} (hi : In3 w c cuts A n cap l) :
    Calls Tryz.prog 22 #[confV c, .slice A n cap] w fun e w' => e = .returned (.tuple #[.int .i64 (wChk c cuts l).1, .int .i64 (wChk c cuts l).2]) ∧ Nw w w' := by
  have HS := Lib.hid (fun W (hq : Nw w W) => states_any (hi.nw hq))
  have HE := Lib.hid (fun z (h : wX c cuts l = .error z) => wX_err h)
  have HL := Lib.hid (wX_len c cuts l)
  have HI := Lib.hid hi
  obtain ⟨r, hr⟩ : ∃ r, r = wChk c cuts l := ⟨_, rfl⟩
  rw [← hr]
  unfold wChk at hr
  obtain ⟨X, hX⟩ : ∃ X, X = wX c cuts l := ⟨_, rfl⟩
  rw [← hX] at HS HE HL hr
  unfold confV at HS ⊢
  haveI hca : ConfAt (w.alloc (cellsOf c 27)) w.heap.size c := ⟨fun i v hv => by unfold cellsOf; unfold ccells at hv; rw [World.cell?_alloc_new]; simpa using hv, by simp⟩
  obtain ⟨W1, hW1⟩ : ∃ W, W = w.alloc (cellsOf c 27) := ⟨_, rfl⟩
  rw [← hW1] at hca
  have hn1 : Nw w W1 := by rw [hW1]; exact nwa
  unfold cellsOf at hW1
  have HW1 := Lib.hid hW1
  have HN1 := Lib.hid hn1
  haveI : In w.heap.size W1 := ⟨hca.lt⟩
  clear hW1 hn1 hi hX
  cases X with
  | error z =>
    simp only at hr
    subst hr
    obtain ⟨z1, z2⟩ := r
    have hne : (z2 != 0) = true := by simpa using HE.out (z1, z2) rfl
    go_enter Tryz.func22, Tryz.ntmps22
    go_upto_region 1 with (fail)
    rw [← HW1.out]
    go_wp2_with fail
    refine (HS.out W1 HN1.out).mono ?_
    intro e W2 hP
    unfold StP at hP
    obtain ⟨rfl, hn2⟩ := hP
    have HN2 := Lib.hid hn2
    clear hn2
    go_wp2
    exact bodyPost_ret (results_tmp2 rfl _ _ _) rfl ⟨rfl, HN1.out.trans HN2.out⟩
  | ok out =>
    obtain ⟨R, hR⟩ : ∃ R, R = badR out l 0 := ⟨_, rfl⟩
    simp only [← hR] at hr
    have HR := Lib.hid hR
    have HRR := Lib.hid hr
    clear hR hr
    go_enter Tryz.func22, Tryz.ntmps22
    go_upto_region 1 with (fail)
    rw [← HW1.out]
    go_wp2_with fail
    refine (HS.out W1 HN1.out).mono ?_
    intro e W2 hP
    unfold StP at hP
    obtain ⟨v, zs, rfl, hsts, hn2⟩ := hP
    have hexp := fun W' (hq : Nw W2 W') (x : Cl) => explains_any (hsts.nw hq) (by have := HL.out out rfl; have := HI.out.n1; have := HI.out.hl.1; omega) x
    obtain ⟨Av, cv', rfl⟩ := own_slice hsts.row
    obtain ⟨nz, hnz⟩ : ∃ k, k = zs.length := ⟨_, rfl⟩
    rw [← hnz] at hexp ⊢
    have HX := Lib.hid hexp
    have HRD := Lib.hid (fun x W' => read_any x W')
    have HC2 := Lib.hid (HI.out.hl.nw (HN1.out.trans hn2))
    have HN2 := Lib.hid (HN1.out.trans hn2)
    have HI1 := Lib.hid HI.out.n1
    clear hsts hexp hn2 hnz
    go_wp2_with fail
    go_loopw [7, 8, 22] (fun _ _ a wr => ∃ k : Nat, k ≤ n ∧ a = .int .i64 k ∧ Nw W2 wr ∧ Hid (badR out (l.drop k) k = R)) (fun _ _ a _ => n - (intOf a).toNat)
    case atStart => exact ⟨0, Nat.zero_le _, rfl, nwa, by have := HR.out; exact Lib.hid (by rw [this]; rfl)⟩
    case round =>
      obtain ⟨k, hk, rfl, ⟨d, rfl⟩, hst⟩ := hrel
      by_cases hlt : k < n
      · obtain ⟨b, o, x, rfl, hb, hx, hcx⟩ := HC2.out.get hlt
        haveI : CallAt W2 b (o + k * 18) x := ⟨hcx, hb⟩
        haveI : In b W2 := ⟨hb⟩
        have HD := Lib.hid (badR_drop (maps := out) hx)
        have i1 : (k : Int) < (n : Int) := by omega
        have i3 : k < 1000000 := by have := HI1.out; omega
        obtain ⟨rb, hrb⟩ : ∃ rb, rb = readB x := ⟨_, rfl⟩
        have HRB := Lib.hid hrb
        clear hx hcx hb hrb
        go_wp2_with fail
        refine (HRD.out x _).mono ?_
        rintro e w' ⟨rfl, dR, rfl⟩
        rw [← HRB.out]
        cases rb with
        | false =>
          have HN := Lib.hid (show badR out (l.drop (k + 1)) (k + 1) = R by
            have h1 := hst.out
            rw [HD.out, ← HRB.out] at h1
            simpa using h1)
          clear hst
          go_wp2_with fail
          exact ⟨⟨k + 1, by omega, by go_num, nwa, HN⟩, by simp [intOf]; omega⟩
        | true =>
          obtain ⟨m, hm⟩ : ∃ m, m = explM out x := ⟨_, rfl⟩
          have HM := Lib.hid hm
          clear hm
          by_cases hneg : m < 0
          · have d1 : decide (m < 0) = true := by simpa using hneg
            have HN := Lib.hid (show R = some k by
              have h1 := hst.out
              rw [HD.out, ← HRB.out, ← HM.out, d1] at h1
              simpa using h1.symm)
            clear hst hneg
            go_wp2_with fail
            refine (HX.out _ nwa x).mono ?_
            rintro e w' ⟨rfl, dX, rfl⟩
            rw [← HM.out]
            go_wp2_with fail
            refine bodyPost_ret (results_tmp2 rfl _ _ _) rfl ?_
            have : r = ((k : Int), 18) := by have := HRR.out; rw [HN.out] at this; exact this
            rw [this]
            exact ⟨rfl, HN2.out.trans nwa⟩
          · have d1 : decide (m < 0) = false := by simpa using hneg
            have HN := Lib.hid (show badR out (l.drop (k + 1)) (k + 1) = R by
              have h1 := hst.out
              rw [HD.out, ← HRB.out, ← HM.out, d1] at h1
              simpa using h1)
            clear hst hneg
            go_wp2_with fail
            refine (HX.out _ nwa x).mono ?_
            rintro e w' ⟨rfl, dX, rfl⟩
            rw [← HM.out]
            go_wp2_with fail
            exact ⟨⟨k + 1, by omega, by go_num, nwa, HN⟩, by simp [intOf]; omega⟩
      · have hkn : k = n := by omega
        subst hkn
        have HN := Lib.hid (show R = none by
          have h1 := hst.out
          rw [List.drop_of_length_le (by rw [HC2.out.1]; exact Nat.le_refl _)] at h1
          exact h1.symm)
        clear hst
        go_wp2
        refine bodyPost_ret (results_tmp2 rfl _ _ _) rfl ?_
        have : r = (0, 0) := by have := HRR.out; rw [HN.out] at this; exact this
        rw [this]
        exact ⟨rfl, HN2.out.trans nwa⟩
end Go.Proofs.YtkikdpdainmlcaaGreat
