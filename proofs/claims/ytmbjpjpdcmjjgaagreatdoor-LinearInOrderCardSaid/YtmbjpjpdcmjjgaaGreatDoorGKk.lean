import Derived.Test.YtmbjpjpdcmjjgaaGreatDoorGKj0
set_option linter.unusedVariables false
set_option linter.unusedSimpArgs false
set_option linter.unnecessarySimpa false
namespace Go.Proofs.YtmbjpjpdcmjjgaaGreatDoor
open Go.RowKit Go.Xt
/-! Find, Check and Count. -/
def s0M (c : Cf) : Md := ⟨c.sl, [], List.replicate c.thr.toNat Th0⟩
def linsM (c : Cf) (l : List Cl) : List (List Nat) := exts l (l.length + 1) [] (s0M c)
def findO (c : Cf) (cuts : List Nat) (l : List Cl) : Option (List Nat) := if begE c cuts l = 0 then (linsM c l).head? else none
structure In2 (w : World) (c : Cf) (cuts : List Nat) (A : Option Addr) (n cap : Nat) (l : List Cl) : Prop where
  rd : Rd w 1 c.cA cuts.length (nums cuts)
  cn : c.cn = cuts.length
  eng : 0 ≤ c.eng ∧ c.eng < 256
  n1 : n ≤ 1000
  nc : n ≤ cap
  cap_ : cap ≤ 9223372036854775807
  hl : Cs w A n l
  wf : ∀ y ∈ l, WfX y
  lt : ∀ b o, A = some ⟨b, o, none⟩ → b < w.heap.size
theorem In2.nw {w w' : World} {c : Cf} {cuts : List Nat} {A : Option Addr} {n cap : Nat} {l : List Cl} (h : In2 w c cuts A n cap l) (hn : Nw w w') : In2 w' c cuts A n cap l :=
  { h with rd := h.rd.nw hn, hl := h.hl.nw hn, lt := fun b o e => Nat.lt_of_lt_of_le (h.lt b o e) hn.grown.size }
theorem begE_cases (c : Cf) (cuts : List Nat) (l : List Cl) : (chkC c cuts = 2 ∧ begE c cuts l = 2) ∨ (chkC c cuts = 0 ∧ bad l ≠ none ∧ begE c cuts l = 15) ∨ (chkC c cuts = 0 ∧ bad l = none ∧ 10 < l.length ∧ begE c cuts l = 5) ∨ (chkC c cuts = 0 ∧ bad l = none ∧ l.length ≤ 10 ∧ begE c cuts l = 0) := by
  unfold begE
  rcases chk_two c cuts with h | h
  · by_cases hb : bad l = none
    · by_cases h10 : 10 < l.length
      · exact .inr (.inr (.inl ⟨h, hb, h10, by rw [if_neg (by omega), if_neg (by simp [hb]), if_pos h10]⟩))
      · exact .inr (.inr (.inr ⟨h, hb, by omega, by rw [if_neg (by omega), if_neg (by simp [hb]), if_neg h10]⟩))
    · exact .inr (.inl ⟨h, hb, by rw [if_neg (by omega), if_pos hb]⟩)
  · exact .inl ⟨h, by rw [if_pos (by omega)]⟩
theorem begin_err {w : World} {c : Cf} {cuts : List Nat} {A : Option Addr} {n cap : Nat} {l : List Cl} (h : In2 w c cuts A n cap l) (he : begE c cuts l ≠ 0) :
    Calls Tryz.prog 16 #[confV c, .slice A n cap] w fun e w' => e = .returned (.tuple #[.pointer none, .int .i64 (begE c cuts l)]) ∧ Nw w w' := by
  have hw : ∀ y ∈ l, WfC y := fun y hy => (h.wf y hy).wf
  rcases begE_cases c cuts l with ⟨h1, e⟩ | ⟨h1, h2, e⟩ | ⟨h1, h2, h3, e⟩ | ⟨h1, h2, h3, e⟩
  · rw [e]; exact begin_bad c cuts A n cap l w h.rd h.cn h.eng h.n1 h.nc h.cap_ h.hl hw h1
  · rw [e]; exact begin_hist c cuts A n cap l w h.rd h.cn h.eng h.n1 h.nc h.cap_ h.hl hw h1 h2
  · rw [e]; exact begin_long c cuts A n cap l w h.rd h.cn h.eng h.n1 h.nc h.cap_ h.hl hw h1 h2 (by rw [← h.hl.1]; exact h3)
  · exact absurd e he
theorem begE_ok {c : Cf} {cuts : List Nat} {l : List Cl} (he : begE c cuts l = 0) : chkC c cuts = 0 ∧ bad l = none ∧ l.length ≤ 10 := by
  rcases begE_cases c cuts l with ⟨h1, e⟩ | ⟨h1, h2, e⟩ | ⟨h1, h2, h3, e⟩ | ⟨h1, h2, h3, e⟩
  · omega
  · omega
  · omega
  · exact ⟨h1, h2, h3⟩
theorem begin_ok {w : World} {c : Cf} {cuts : List Nat} {A : Option Addr} {n cap : Nat} {l : List Cl} (h : In2 w c cuts A n cap l) (he : begE c cuts l = 0) :
    Calls Tryz.prog 16 #[confV c, .slice A n cap] w (BegP w l A n cap (s0M c)) := by
  obtain ⟨h1, h2, h3⟩ := begE_ok he
  have ht := cf_thr h1
  exact begin_good c cuts A n cap l w h.rd h.cn h.eng h.n1 h.nc h.cap_ h.hl (fun y hy => (h.wf y hy).wf) h1 h2 (by rw [← h.hl.1]; exact h3) c.thr.toNat (by omega)
theorem came_find {zs E : List (List Nat)} {g : Bool} (h : Came (fun _ => false) [] zs E g) : zs = E.head?.toList := by
  cases g with
  | true =>
    have h1 := h.all rfl
    cases zs with
    | nil => rw [← h1]; rfl
    | cons a zs => have := h.on rfl 0 (by simp); cases this
  | false =>
    obtain ⟨k, h1, h2, h3⟩ := h.off rfl
    have hk : k = 0 := by
      cases k with
      | zero => rfl
      | succ k => have := h2 0 (by omega); cases this
    subst hk
    obtain ⟨a, rfl⟩ := List.length_eq_one_iff.1 h1
    obtain ⟨r, hr⟩ := h.pre
    rw [← hr]; rfl
theorem take_len {α : Type} (zs : List α) {j : Nat} (h : j < zs.length) : (zs.take (j + 1)).length = j + 1 := by rw [List.length_take]; omega
theorem came_count {zs E : List (List Nat)} {g : Bool} {most : Int} (hm : 1 ≤ most ∧ most ≤ 1000000) (h : Came (fun ys => decide (wrap64 (ys.length : Nat) < most)) [] zs E g) : zs.length = min E.length most.toNat := by
  have hle : zs.length ≤ E.length := h.pre.length_le
  have wr : ∀ k : Nat, k ≤ 1000001 → wrap64 (k : Int) = k := fun k hk => by unfold wrap64; omega
  cases g with
  | true =>
    have h1 := h.all rfl
    have h2 : (zs.length : Int) < most ∨ zs.length = 0 := by
      by_cases h0 : zs.length = 0
      · exact .inr h0
      left
      by_cases hbig : zs.length ≤ 1000001
      · have := h.on rfl (zs.length - 1) (by omega)
        rw [List.nil_append, show zs.length - 1 + 1 = zs.length by omega, List.take_length, wr _ hbig] at this
        simpa using this
      · exfalso
        have := h.on rfl 1000000 (by omega)
        rw [List.nil_append, take_len zs (by omega), wr _ (by omega)] at this
        simp at this
        omega
    rw [← h1]; omega
  | false =>
    obtain ⟨k, h1, h2, h3⟩ := h.off rfl
    have hk : k ≤ 1000000 := by
      by_cases hk : k ≤ 1000000
      · exact hk
      · exfalso
        have := h2 1000000 (by omega)
        rw [List.nil_append, take_len zs (by omega), wr _ (by omega)] at this
        simp at this
        omega
    rw [List.nil_append, wr _ (by omega)] at h3
    have h4 : (k : Int) < most := by
      by_cases h0 : k = 0
      · omega
      have := h2 (k - 1) (by omega)
      rw [List.nil_append, take_len zs (by omega), show k - 1 + 1 = k by omega, wr _ (by omega)] at this
      simpa using this
    simp at h3
    omega
theorem results_cct {P : Program} {fn : Func} {p q u : Tmp} {tp tq : TypeId} {tmps : Array Value} {w : World} {a b : Addr} {va vb vu : Value} (h : fn.results = #[.cell p tp, .cell q tq, .tmp u]) (ha : tmps.getD p undef = .pointer (some a)) (hb : tmps.getD q undef = .pointer (some b)) (h1 : w.cell? a = some va) (h2 : w.cell? b = some vb) (hu : tmps.getD u undef = vu) (dp : (loadVar tp a).run P w = .ok va w) (dq : (loadVar tq b).run P w = .ok vb w) :
    (results fn tmps).run P w = .ok (.tuple #[va, vb, vu]) w := by
  have ra : (asAddr (.pointer (some a))).run P w = .ok a w := rfl
  have rb : (asAddr (.pointer (some b))).run P w = .ok b w := rfl
  simp only [results, h]
  simp at ha hb hu
  simp [Sem.run_bind, Result.andThen, ha, hb, hu, ra, rb, dp, dq]
def FindP (w : World) (c : Cf) (cuts : List Nat) (l : List Cl) (e : Ending) (w' : World) : Prop := ∃ v, e = .returned (.tuple #[v, .bool (findO c cuts l).isSome, .int .i64 (begE c cuts l)]) ∧ OwnI w' w.heap.size v (natI ((findO c cuts l).getD [])) ∧ Nw w w'
set_option maxRecDepth 20000 in
set_option maxHeartbeats 8000000 in
theorem find_err {w : World} {c : Cf} {cuts : List Nat} {A : Option Addr} {n cap : Nat} {l : List Cl} (h : In2 w c cuts A n cap l) (he : begE c cuts l ≠ 0) :
    Calls Tryz.prog 7 #[confV c, .slice A n cap] w (FindP w c cuts l) := by
  have HB := Lib.hid (fun W (hq : Nw w W) => begin_err (h.nw hq) he)
  have hfo : findO c cuts l = none := by unfold findO; rw [if_neg he]
  have HFO := Lib.hid hfo
  obtain ⟨er, her⟩ : ∃ er, er = begE c cuts l := ⟨_, rfl⟩
  rw [← her] at HB he
  have HE := Lib.hid her
  unfold confV at HB ⊢
  obtain ⟨b0, hb0⟩ : ∃ b, b = w.heap.size := ⟨_, rfl⟩
  obtain ⟨Wb, hWb⟩ : ∃ W, W = ((w.alloc (cellsOf c 27)).alloc (.cells #[.slice none 0 0] 31)).alloc (.cells #[.bool false] 4) := ⟨_, rfl⟩
  have hnb : Nw w Wb := by rw [hWb]; exact nwa
  haveI hca : ConfAt Wb b0 c := by
    have h1 : ConfAt (w.alloc (cellsOf c 27)) b0 c := ⟨fun i v hv => by unfold cellsOf; unfold ccells at hv; rw [hb0, World.cell?_alloc_new]; simpa using hv, by rw [hb0]; simp⟩
    rw [hWb]; infer_instance
  have k0 : Wb.cell? ⟨b0 + 1, 0, none⟩ = some (.slice none 0 0) := by rw [hWb, hb0]; simp [go_sem]
  have k1 : Wb.cell? ⟨b0 + 1 + 1, 0, none⟩ = some (.bool false) := by rw [hWb, hb0]; simp [go_sem]
  have z0 : Wb.frozen? ⟨b0 + 1, 0, none⟩ = false := by rw [hWb, hb0]; simp [go_sem]
  have z1 : Wb.frozen? ⟨b0 + 1 + 1, 0, none⟩ = false := by rw [hWb, hb0]; simp [go_sem]
  unfold cellsOf at hWb
  have HWB := Lib.hid hWb
  have HNB := Lib.hid hnb
  have HB0 := Lib.hid hb0
  haveI : In b0 Wb := ⟨hca.lt⟩
  have hne : (er != 0) = true := by simpa using he
  clear hWb hnb hb0 h hfo her he
  go_enter Tryz.func7, Tryz.ntmps7
  go_upto_region 1 with (fail)
  rw [← HWB.out, ← HB0.out]
  go_wp2_with fail
  refine (HB.out Wb HNB.out).mono ?_
  rintro e W2 ⟨rfl, hn2⟩
  have hca2 := hca.nw hn2
  have t0 := cell_nw k0 hn2
  have t1 := cell_nw k1 hn2
  have y0 := (frozen_nw (World.block_lt_of_cell? Wb _ k0) hn2).trans z0
  have y1 := (frozen_nw (World.block_lt_of_cell? Wb _ k1) hn2).trans z1
  haveI : In (b0 + 1) W2 := ⟨World.block_lt_of_cell? W2 _ t0⟩
  haveI : In (b0 + 1 + 1) W2 := ⟨World.block_lt_of_cell? W2 _ t1⟩
  have HN2 := Lib.hid (HNB.out.trans hn2)
  clear hn2 k0 k1 z0 z1
  go_wp2
  refine bodyPost_ret (v := .tuple #[.slice none 0 0, .bool false, .int .i64 er]) ?_ rfl ⟨.slice none 0 0, ?_, ?_, ?_⟩
  · refine results_cct rfl rfl rfl (va := .slice none 0 0) (vb := .bool false) ?_ ?_ rfl ?_ ?_
    · rw [World.cell?_setCell_other _ _ _ _ (by simp)]
      exact World.cell?_setCell_same' _ _ _ (by rw [t0]; rfl)
    · exact World.cell?_setCell_same' _ _ _ (by rw [World.cell?_setCell_other _ _ _ _ (by simp), t1]; rfl)
    · simp [go_sem, t0, t1]
    · simp [go_sem, t0, t1]
  · rw [HFO.out, HE.out]; rfl
  · rw [HFO.out]; exact World.ownsRow_nil _ _ _ _
  · have hb := HB0.out
    exact nw_chg2 HN2.out (((Chg.set1 W2 (b0 + 1) 0 _).le (Y := [b0 + 1, b0 + 1 + 1]) (by simp)).trans ((Chg.set1 _ (b0 + 1 + 1) 0 _).le (by simp))) (fun k hk => by simp at hk; omega)
set_option maxRecDepth 20000 in
set_option maxHeartbeats 8000000 in
theorem find_ok {w : World} {c : Cf} {cuts : List Nat} {A : Option Addr} {n cap : Nat} {l : List Cl} (h : In2 w c cuts A n cap l) (hF : FmtAt w) (he : begE c cuts l = 0) :
    Calls Tryz.prog 7 #[confV c, .slice A n cap] w (FindP w c cuts l) := by
  have HB := Lib.hid (fun W (hq : Nw w W) => begin_ok (h.nw hq) he)
  have HFO := Lib.hid (show findO c cuts l = (linsM c l).head? by unfold findO; rw [if_pos he])
  have H := Lib.hid h
  have HE := Lib.hid he
  have HFM := Lib.hid hF
  unfold confV at HB ⊢
  obtain ⟨b0, hb0⟩ : ∃ b, b = w.heap.size := ⟨_, rfl⟩
  obtain ⟨Wb, hWb⟩ : ∃ W, W = ((w.alloc (cellsOf c 27)).alloc (.cells #[.slice none 0 0] 31)).alloc (.cells #[.bool false] 4) := ⟨_, rfl⟩
  have hnb : Nw w Wb := by rw [hWb]; exact nwa
  have hsz : Wb.heap.size = b0 + 3 := by rw [hWb, hb0]; simp
  haveI hca : ConfAt Wb b0 c := by
    have h1 : ConfAt (w.alloc (cellsOf c 27)) b0 c := ⟨fun i v hv => by unfold cellsOf; unfold ccells at hv; rw [hb0, World.cell?_alloc_new]; simpa using hv, by rw [hb0]; simp⟩
    rw [hWb]; infer_instance
  have k0 : Wb.cell? ⟨b0 + 1, 0, none⟩ = some (.slice none 0 0) := by rw [hWb, hb0]; simp [go_sem]
  have k1 : Wb.cell? ⟨b0 + 1 + 1, 0, none⟩ = some (.bool false) := by rw [hWb, hb0]; simp [go_sem]
  have z0 : Wb.frozen? ⟨b0 + 1, 0, none⟩ = false := by rw [hWb, hb0]; simp [go_sem]
  have z1 : Wb.frozen? ⟨b0 + 1 + 1, 0, none⟩ = false := by rw [hWb, hb0]; simp [go_sem]
  unfold cellsOf at hWb
  have HWB := Lib.hid hWb
  have HNB := Lib.hid hnb
  have HB0 := Lib.hid hb0
  have HSZ := Lib.hid hsz
  haveI : In b0 Wb := ⟨hca.lt⟩
  clear hWb hnb hb0 h he hsz hF
  have hmf : ∀ (fn : Fn) (first cap : Array Value) (w : World), (Instr.makeFunc fn first cap).run Tryz.prog w = .ok (.func fn first cap) w := fun _ _ _ _ => rfl
  go_enter Tryz.func7, Tryz.ntmps7
  go_upto_region 1 with (fail)
  rw [← HWB.out, ← HB0.out]
  go_wp2_with fail
  refine (HB.out Wb HNB.out).mono ?_
  intro e W2 hP
  unfold BegP at hP
  obtain ⟨sb, vb, B, cb, p, rfl, hS⟩ := hP
  have hn2 := hS.nw
  have t0 := cell_nw k0 hn2
  have t1 := cell_nw k1 hn2
  have y0 := (frozen_nw (World.block_lt_of_cell? Wb _ k0) hn2).trans z0
  have y1 := (frozen_nw (World.block_lt_of_cell? Wb _ k1) hn2).trans z1
  haveI : In (b0 + 1) W2 := ⟨World.block_lt_of_cell? W2 _ t0⟩
  haveI : In (b0 + 1 + 1) W2 := ⟨World.block_lt_of_cell? W2 _ t1⟩
  have HS := Lib.hid hS
  have HN2 := Lib.hid (HNB.out.trans hn2)
  clear hn2 k0 k1 z0 z1 hS
  go_wp2_with fail
  have hls := HS.out.vain.lt
  have hsz2 := HS.out.nw.grown.size
  refine (each_any (fun _ => false) (fun bo => JF W2.heap.size vb (b0 + 1) (b0 + 1 + 1) bo) w Wb W2 l A n cap (s0M c) sb vb B cb p (b0 + 1) (b0 + 1 + 1) 18 HS.out (H.out.hl.nw HN2.out) (by have := (begE_ok HE.out).2.2; have := H.out.hl.1; omega) H.out.wf (HS.out.before (by have := HB0.out; omega) (by have := HSZ.out; omega)) (HS.out.before (by have := HB0.out; omega) (by have := HSZ.out; omega)) HNB.out HFM.out H.out.lt (fun _ _ => rfl)
    (fun bo hbo ys W1 W' v v' X hj hc hX hv => hj.step hc hX hv) (fun W0 bo hbo => yield_find W0 l W2.heap.size bo vb (b0 + 1) (b0 + 1 + 1) (by omega))
    (fun bo W' hbo hnw => ⟨hbo, hls, by have := HS.out.vw; have := HSZ.out; omega, by have := HS.out.vw; have := HSZ.out; omega, by have := HSZ.out; omega, by have := HSZ.out; omega, hnw.grown.size, fun g hg => (by cases hg), .slice none 0 0, cell_nw t0 hnw, (frozen_nw (World.block_lt_of_cell? W2 _ t0) hnw).trans y0, cell_nw t1 hnw, (frozen_nw (World.block_lt_of_cell? W2 _ t1) hnw).trans y1, fun _ => rfl, fun o ho => (by cases ho), fun g hg => (by cases hg)⟩)).mono ?_
  intro e W3 hP
  unfold EachP at hP
  obtain ⟨rfl, bo, zs, g, v, hcame, ⟨h1, h2, h3, h4, h5, h6, h7, h8, u, u1, u2, u3, u4, u5, u6, u7⟩, hch⟩ := hP
  have hzs := came_find hcame
  obtain ⟨uA, un, uc, rfl⟩ : ∃ A n c, u = .slice A n c := by
    cases hl0 : zs.getLast? with
    | none => exact ⟨none, 0, 0, u5 (by simpa using hl0)⟩
    | some o =>
      obtain ⟨A, c, e, -⟩ := OwnI.form (u6 o hl0)
      exact ⟨A, _, c, e⟩
  have HZ := Lib.hid hzs
  have HU5 := Lib.hid u5
  have HU6 := Lib.hid u6
  have HU7 := Lib.hid (show ∀ g, (Value.slice uA un uc).ownBlock = some g → W2.heap.size ≤ g from fun g hg => (u7 g hg).1)
  have HCH := Lib.hid hch
  haveI : In (b0 + 1) W3 := ⟨World.block_lt_of_cell? W3 _ u1⟩
  haveI : In (b0 + 1 + 1) W3 := ⟨World.block_lt_of_cell? W3 _ u3⟩
  clear t0 t1 y0 y1 hls hsz2 h1 h2 h3 h4 h5 h6 h7 h8 u5 u6 u7 hzs hch hcame
  go_wp2
  go_region
  go_wp2
  have hw : Nw w (((W3.setCell ⟨b0 + 1, 0, none⟩ (.slice uA un uc)).setCell ⟨b0 + 1 + 1, 0, none⟩ (.bool !zs.isEmpty)).drew) := by
    have hb := HB0.out
    have h1 := HS.out.vw
    have h2 := HSZ.out
    exact Nw.drew (nw_chg2 HN2.out (HCH.out.trans (((Chg.set1 W3 (b0 + 1) 0 _).le (by simp)).trans ((Chg.set1 _ (b0 + 1 + 1) 0 _).le (by simp)))) (fun k hk => by simp at hk; omega))
  refine bodyPost_ret (v := .tuple #[.slice uA un uc, .bool !zs.isEmpty, .int .i64 0]) ?_ rfl ⟨.slice uA un uc, ?_, ?_, hw⟩
  · refine results_cct rfl rfl rfl (va := .slice uA un uc) (vb := .bool !zs.isEmpty) ?_ ?_ rfl ?_ ?_
    · rw [World.cell?_drew, World.cell?_setCell_other _ _ _ _ (by simp)]
      exact World.cell?_setCell_same' _ _ _ (by rw [u1]; rfl)
    · rw [World.cell?_drew]; exact World.cell?_setCell_same' _ _ _ (by rw [World.cell?_setCell_other _ _ _ _ (by simp), u3]; rfl)
    · simp [go_sem, u1, u3]
    · simp [go_sem, u1, u3]
  · rw [HFO.out, HE.out]
    unfold linsM
    have hz := HZ.out
    cases hh : (exts l (l.length + 1) [] (s0M c)).head? with
    | none => rw [hh] at hz; rw [hz]; rfl
    | some o => rw [hh] at hz; rw [hz]; rfl
  · rw [HFO.out]
    unfold linsM
    have hz := HZ.out
    cases hh : (exts l (l.length + 1) [] (s0M c)).head? with
    | none => rw [hh] at hz; rw [HU5.out hz]; exact World.ownsRow_nil _ _ _ _
    | some o =>
      rw [hh] at hz
      have h2 := HU6.out o (by rw [hz]; rfl)
      have h3 := HN2.out.grown.size
      refine own_nw (own_le (OwnI.chg (OwnI.chg h2 (Chg.set1 W3 (b0 + 1) 0 _) (fun g hg => ?_)) (Chg.set1 _ (b0 + 1 + 1) 0 _) (fun g hg => ?_)) h3) (Nw.drew (Nw.refl _))
      · have := HU7.out g hg; have := HS.out.nw.grown.size; have := HSZ.out; simp; omega
      · have := HU7.out g hg; have := HS.out.nw.grown.size; have := HSZ.out; simp; omega
theorem findL_any {w : World} {c : Cf} {cuts : List Nat} {A : Option Addr} {n cap : Nat} {l : List Cl} (h : In2 w c cuts A n cap l) (hF : FmtAt w) :
    Calls Tryz.prog 7 #[confV c, .slice A n cap] w (FindP w c cuts l) := by
  by_cases he : begE c cuts l = 0
  · exact find_ok h hF he
  · exact find_err h he
set_option maxRecDepth 20000 in
set_option maxHeartbeats 8000000 in
theorem check_anyL {w : World} {c : Cf} {cuts : List Nat} {A : Option Addr} {n cap : Nat} {l : List Cl} (h : In2 w c cuts A n cap l) (hF : FmtAt w) :
    Calls Tryz.prog 25 #[confV c, .slice A n cap] w fun e w' => e = .returned (.tuple #[.bool (findO c cuts l).isSome, .int .i64 (begE c cuts l)]) ∧ Nw w w' := by
  have HFI := Lib.hid (fun W (hq : Nw w W) => findL_any (h.nw hq) (hF.nw hq))
  unfold confV at HFI ⊢
  haveI hca : ConfAt (w.alloc (cellsOf c 27)) w.heap.size c := ⟨fun i v hv => by unfold cellsOf; unfold ccells at hv; rw [World.cell?_alloc_new]; simpa using hv, by simp⟩
  obtain ⟨W1, hW1⟩ : ∃ W, W = w.alloc (cellsOf c 27) := ⟨_, rfl⟩
  rw [← hW1] at hca
  have hn1 : Nw w W1 := by rw [hW1]; exact nwa
  unfold cellsOf at hW1
  have HW1 := Lib.hid hW1
  have HN1 := Lib.hid hn1
  haveI : In w.heap.size W1 := ⟨hca.lt⟩
  clear hW1 hn1 h hF
  go_enter Tryz.func25, Tryz.ntmps25
  go_upto_region 1 with (fail)
  rw [← HW1.out]
  go_wp2_with fail
  refine (HFI.out W1 HN1.out).mono ?_
  intro e W2 hP
  unfold FindP at hP
  obtain ⟨v, rfl, -, hn2⟩ := hP
  go_wp2
  exact bodyPost_ret (results_tmp2 rfl _ _ _) rfl ⟨rfl, HN1.out.trans hn2⟩
end Go.Proofs.YtmbjpjpdcmjjgaaGreatDoor
namespace Go.Proofs.YtmbjpjpdcmjjgaaGreatDoor
open Go.RowKit Go.Xt
/-! Count. -/
def countE (c : Cf) (cuts : List Nat) (most : Int) (l : List Cl) : Int := if begE c cuts l = 0 then if most < 1 ∨ 1000000 < most then 2 else 0 else begE c cuts l
def countN (c : Cf) (cuts : List Nat) (most : Int) (l : List Cl) : Nat := if countE c cuts most l = 0 then min (linsM c l).length most.toNat else 0
def CountP (w : World) (c : Cf) (cuts : List Nat) (most : Int) (l : List Cl) (e : Ending) (w' : World) : Prop := e = .returned (.tuple #[.int .i64 (countN c cuts most l : Nat), .int .i64 (countE c cuts most l)]) ∧ Nw w w'
set_option maxRecDepth 20000 in
set_option maxHeartbeats 8000000 in
theorem count_err {w : World} {c : Cf} {cuts : List Nat} {most : Int} {A : Option Addr} {n cap : Nat} {l : List Cl} (h : In2 w c cuts A n cap l) (he : begE c cuts l ≠ 0) :
    Calls Tryz.prog 8 #[confV c, .int .i64 most, .slice A n cap] w (CountP w c cuts most l) := by
  have HB := Lib.hid (fun W (hq : Nw w W) => begin_err (h.nw hq) he)
  have HCE := Lib.hid (show countE c cuts most l = begE c cuts l by unfold countE; rw [if_neg he])
  have HCN := Lib.hid (show countN c cuts most l = 0 by unfold countN countE; rw [if_neg he, if_neg he])
  obtain ⟨er, her⟩ : ∃ er, er = begE c cuts l := ⟨_, rfl⟩
  rw [← her] at HB HCE he
  have hne : (er != 0) = true := by simpa using he
  unfold confV at HB ⊢
  obtain ⟨b0, hb0⟩ : ∃ b, b = w.heap.size := ⟨_, rfl⟩
  obtain ⟨Wb, hWb⟩ : ∃ W, W = (w.alloc (cellsOf c 27)).alloc (.cells #[.int .i64 most] 3) := ⟨_, rfl⟩
  have hnb : Nw w Wb := by rw [hWb]; exact nwa
  have hsz : Wb.heap.size = b0 + 2 := by rw [hWb, hb0]; simp
  haveI hca : ConfAt Wb b0 c := by
    have h1 : ConfAt (w.alloc (cellsOf c 27)) b0 c := ⟨fun i v hv => by unfold cellsOf; unfold ccells at hv; rw [hb0, World.cell?_alloc_new]; simpa using hv, by rw [hb0]; simp⟩
    rw [hWb]; infer_instance
  have k0 : Wb.cell? ⟨b0 + 1, 0, none⟩ = some (.int .i64 most) := by rw [hWb, hb0]; simp [go_sem]
  unfold cellsOf at hWb
  have HWB := Lib.hid hWb
  have HNB := Lib.hid hnb
  have HB0 := Lib.hid hb0
  have HSZ := Lib.hid hsz
  haveI : In b0 Wb := ⟨hca.lt⟩
  haveI : In (b0 + 1) Wb := ⟨World.block_lt_of_cell? Wb _ k0⟩
  clear hWb hnb hb0 h hsz her he
  have hmf : ∀ (fn : Fn) (first cap : Array Value) (w : World), (Instr.makeFunc fn first cap).run Tryz.prog w = .ok (.func fn first cap) w := fun _ _ _ _ => rfl
  go_enter Tryz.func8, Tryz.ntmps8
  go_upto_region 1 with (fail)
  rw [← HWB.out, ← HB0.out]
  go_wp2_with fail
  refine (HB.out Wb HNB.out).mono ?_
  rintro e W2 ⟨rfl, hn2⟩
  go_wp2
  exact bodyPost_ret (results_tmp2 rfl _ _ _) rfl ⟨by rw [HCE.out, HCN.out]; rfl, HNB.out.trans hn2⟩
set_option maxRecDepth 20000 in
set_option maxHeartbeats 8000000 in
theorem count_arg {w : World} {c : Cf} {cuts : List Nat} {most : Int} {A : Option Addr} {n cap : Nat} {l : List Cl} (h : In2 w c cuts A n cap l) (he : begE c cuts l = 0) (hm : most < 1 ∨ 1000000 < most) :
    Calls Tryz.prog 8 #[confV c, .int .i64 most, .slice A n cap] w (CountP w c cuts most l) := by
  have HB := Lib.hid (fun W (hq : Nw w W) => begin_ok (h.nw hq) he)
  have HCE := Lib.hid (show countE c cuts most l = 2 by unfold countE; rw [if_pos he, if_pos hm])
  have HCN := Lib.hid (show countN c cuts most l = 0 by unfold countN countE; rw [if_pos he, if_pos hm]; rfl)
  unfold confV at HB ⊢
  obtain ⟨b0, hb0⟩ : ∃ b, b = w.heap.size := ⟨_, rfl⟩
  obtain ⟨Wb, hWb⟩ : ∃ W, W = (w.alloc (cellsOf c 27)).alloc (.cells #[.int .i64 most] 3) := ⟨_, rfl⟩
  have hnb : Nw w Wb := by rw [hWb]; exact nwa
  have hsz : Wb.heap.size = b0 + 2 := by rw [hWb, hb0]; simp
  haveI hca : ConfAt Wb b0 c := by
    have h1 : ConfAt (w.alloc (cellsOf c 27)) b0 c := ⟨fun i v hv => by unfold cellsOf; unfold ccells at hv; rw [hb0, World.cell?_alloc_new]; simpa using hv, by rw [hb0]; simp⟩
    rw [hWb]; infer_instance
  have k0 : Wb.cell? ⟨b0 + 1, 0, none⟩ = some (.int .i64 most) := by rw [hWb, hb0]; simp [go_sem]
  unfold cellsOf at hWb
  have HWB := Lib.hid hWb
  have HNB := Lib.hid hnb
  have HB0 := Lib.hid hb0
  have HSZ := Lib.hid hsz
  haveI : In b0 Wb := ⟨hca.lt⟩
  haveI : In (b0 + 1) Wb := ⟨World.block_lt_of_cell? Wb _ k0⟩
  clear hWb hnb hb0 h hsz he
  have hmf : ∀ (fn : Fn) (first cap : Array Value) (w : World), (Instr.makeFunc fn first cap).run Tryz.prog w = .ok (.func fn first cap) w := fun _ _ _ _ => rfl
  go_enter Tryz.func8, Tryz.ntmps8
  go_upto_region 1 with (fail)
  rw [← HWB.out, ← HB0.out]
  go_wp2_with fail
  refine (HB.out Wb HNB.out).mono ?_
  intro e W2 hP
  unfold BegP at hP
  obtain ⟨sb, vb, B, cb, p, rfl, hS⟩ := hP
  have k1 := cell_nw k0 hS.nw
  have HS := Lib.hid hS
  haveI : In (b0 + 1) W2 := ⟨World.block_lt_of_cell? W2 _ k1⟩
  clear hS
  rcases hm with hm | hm
  · go_wp2
    exact bodyPost_ret (results_tmp2 rfl _ _ _) rfl ⟨by rw [HCE.out, HCN.out]; rfl, HNB.out.trans HS.out.nw⟩
  · have hm1 : ¬ most < 1 := by omega
    go_wp2
    exact bodyPost_ret (results_tmp2 rfl _ _ _) rfl ⟨by rw [HCE.out, HCN.out]; rfl, HNB.out.trans HS.out.nw⟩
set_option maxRecDepth 20000 in
set_option maxHeartbeats 8000000 in
theorem count_ok {w : World} {c : Cf} {cuts : List Nat} {most : Int} {A : Option Addr} {n cap : Nat} {l : List Cl} (h : In2 w c cuts A n cap l) (hF : FmtAt w) (he : begE c cuts l = 0) (hm : 1 ≤ most ∧ most ≤ 1000000) :
    Calls Tryz.prog 8 #[confV c, .int .i64 most, .slice A n cap] w (CountP w c cuts most l) := by
  have HB := Lib.hid (fun W (hq : Nw w W) => begin_ok (h.nw hq) he)
  have HCE := Lib.hid (show countE c cuts most l = 0 by unfold countE; rw [if_pos he, if_neg (by omega)])
  have HCN := Lib.hid (show countN c cuts most l = min (linsM c l).length most.toNat by have h0 : countE c cuts most l = 0 := (by unfold countE; rw [if_pos he, if_neg (by omega)]); unfold countN; rw [if_pos h0])
  have H := Lib.hid h
  have HE := Lib.hid he
  have HFM := Lib.hid hF
  have HM := Lib.hid hm
  have hm1 : ¬ most < 1 := by omega
  have hm2 : ¬ 1000000 < most := by omega
  unfold confV at HB ⊢
  obtain ⟨b0, hb0⟩ : ∃ b, b = w.heap.size := ⟨_, rfl⟩
  obtain ⟨Wb, hWb⟩ : ∃ W, W = (w.alloc (cellsOf c 27)).alloc (.cells #[.int .i64 most] 3) := ⟨_, rfl⟩
  have hnb : Nw w Wb := by rw [hWb]; exact nwa
  have hsz : Wb.heap.size = b0 + 2 := by rw [hWb, hb0]; simp
  haveI hca : ConfAt Wb b0 c := by
    have h1 : ConfAt (w.alloc (cellsOf c 27)) b0 c := ⟨fun i v hv => by unfold cellsOf; unfold ccells at hv; rw [hb0, World.cell?_alloc_new]; simpa using hv, by rw [hb0]; simp⟩
    rw [hWb]; infer_instance
  have k0 : Wb.cell? ⟨b0 + 1, 0, none⟩ = some (.int .i64 most) := by rw [hWb, hb0]; simp [go_sem]
  unfold cellsOf at hWb
  have HWB := Lib.hid hWb
  have HNB := Lib.hid hnb
  have HB0 := Lib.hid hb0
  have HSZ := Lib.hid hsz
  haveI : In b0 Wb := ⟨hca.lt⟩
  haveI : In (b0 + 1) Wb := ⟨World.block_lt_of_cell? Wb _ k0⟩
  clear hWb hnb hb0 h hsz he hF hm
  have hmf : ∀ (fn : Fn) (first cap : Array Value) (w : World), (Instr.makeFunc fn first cap).run Tryz.prog w = .ok (.func fn first cap) w := fun _ _ _ _ => rfl
  go_enter Tryz.func8, Tryz.ntmps8
  go_upto_region 1 with (fail)
  rw [← HWB.out, ← HB0.out]
  go_wp2_with fail
  refine (HB.out Wb HNB.out).mono ?_
  intro e W2 hP
  unfold BegP at hP
  obtain ⟨sb, vb, B, cb, p, rfl, hS⟩ := hP
  have k1 := cell_nw k0 hS.nw
  have HS := Lib.hid hS
  haveI : In (b0 + 1) W2 := ⟨World.block_lt_of_cell? W2 _ k1⟩
  clear hS
  go_wp2_with fail
  obtain ⟨Wn, hWn⟩ : ∃ W, W = W2.alloc (.cells #[.int .i64 0] 3) := ⟨_, rfl⟩
  obtain ⟨c0, hc0⟩ : ∃ z, z = W2.heap.size := ⟨_, rfl⟩
  rw [← hWn, ← hc0]
  have hwn : Nw W2 Wn := by rw [hWn]; exact (Nw.refl _).alloc _
  have hszn : Wn.heap.size = c0 + 1 := by rw [hWn, hc0]; simp
  have m0 : Wn.cell? ⟨c0, 0, none⟩ = some (.int .i64 0) := by rw [hWn, hc0]; simp [go_sem]
  have m1 : Wn.frozen? ⟨c0, 0, none⟩ = false := by rw [hWn, hc0]; simp [go_sem]
  have m2 := cell_nw k1 hwn
  have HWN := Lib.hid hwn
  have HC0 := Lib.hid hc0
  have HZN := Lib.hid hszn
  have hsz2 := HS.out.nw.grown.size
  have hvl := HS.out.vain.lt
  have hvw := HS.out.vw
  clear hWn hc0 hwn hszn
  refine (each_any (fun ys => decide (wrap64 (ys.length : Nat) < most)) (fun bo => JC Wn.heap.size vb c0 (b0 + 1) bo most) w Wb Wn l A n cap (s0M c) sb vb B cb p c0 (b0 + 1) 19 (HS.out.to HWN.out) (H.out.hl.nw (HNB.out.trans (HS.out.nw.trans HWN.out))) (by have := (begE_ok HE.out).2.2; have := H.out.hl.1; omega) H.out.wf (HS.out.after (by have := HNB.out.grown.size; omega) (by have := HC0.out; omega) (by have := HZN.out; omega)) ((HS.out.to HWN.out).before (by have := HB0.out; omega) (by have := HSZ.out; omega)) HNB.out HFM.out H.out.lt (fun _ _ => rfl)
    (fun bo hbo ys W1 W' v v' X hj hc hX hv => hj.step hc hX hv) (fun W0 bo hbo => yield_count W0 l Wn.heap.size bo vb c0 (b0 + 1) most (by have := HC0.out; have := HSZ.out; omega))
    (fun bo W' hbo hnw => ⟨hbo, by have := HZN.out; have := HC0.out; omega, by have := HC0.out; omega, by have := HSZ.out; omega, by have := HZN.out; omega, by have := HZN.out; have := HC0.out; have := HSZ.out; omega, hnw.grown.size, fun g hg => (by cases hg), (cell_nw m0 hnw).trans (by simp [wrap64]), (frozen_nw (World.block_lt_of_cell? Wn _ m0) hnw).trans m1, cell_nw m2 hnw⟩)).mono ?_
  intro e W3 hP
  unfold EachP at hP
  obtain ⟨rfl, bo, zs, g, v, hcame, ⟨-, -, -, -, -, -, -, -, u1, u2, u3⟩, hch⟩ := hP
  have hzs := came_count HM.out hcame
  have hw : wrap64 (zs.length : Nat) = ((min (linsM c l).length most.toNat : Nat) : Int) := by
    rw [hzs]
    have := HM.out
    unfold linsM wrap64
    omega
  rw [hw] at u1
  have HCH := Lib.hid hch
  haveI : In c0 W3 := ⟨World.block_lt_of_cell? W3 _ u1⟩
  clear m0 m1 m2 hvl hsz2 hvw hw hzs hch hcame u2 u3
  go_wp2
  refine bodyPost_ret (results_tmp2 rfl _ _ _) rfl ⟨by rw [HCE.out, HCN.out]; rfl, ?_⟩
  have h1 := HS.out.vw
  have h2 := HSZ.out
  have h3 := HB0.out
  have h4 := HC0.out
  have h5 := HS.out.nw.grown.size
  exact nw_chg2 (HNB.out.trans (HS.out.nw.trans HWN.out)) HCH.out (fun k hk => by simp at hk; omega)
theorem countL_any {w : World} {c : Cf} {cuts : List Nat} {most : Int} {A : Option Addr} {n cap : Nat} {l : List Cl} (h : In2 w c cuts A n cap l) (hF : FmtAt w) :
    Calls Tryz.prog 8 #[confV c, .int .i64 most, .slice A n cap] w (CountP w c cuts most l) := by
  by_cases he : begE c cuts l = 0
  · by_cases hm : most < 1 ∨ 1000000 < most
    · exact count_arg h he hm
    · exact count_ok h hF he (by omega)
  · exact count_err h he
end Go.Proofs.YtmbjpjpdcmjjgaaGreatDoor
