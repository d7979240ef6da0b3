import Derived.Test.YtkikdpdainmlcaaGreatGZr
import Derived.Test.YtkikdpdainmlcaaGreatGP
import Derived.Test.YtkikdpdainmlcaaGreatGNc
set_option linter.unusedVariables false
set_option linter.unusedSimpArgs false
set_option linter.unnecessarySimpa false
namespace Go.Proofs.YtkikdpdainmlcaaGreat
open Go.RowKit Go.Xt
/-! What the laws use: copies of calls and of a configuration. -/
class BoxAt (w : World) (b : Nat) : Prop where
  row : ∃ (old : Array Value) (t : TypeId), w.heap[b]? = some (.cells old t (0, 0)) ∧ old.size = 16
theorem BoxAt.lt {w : World} {b : Nat} (h : BoxAt w b) : b < w.heap.size := by
  obtain ⟨old, t, h1, h2⟩ := h.row
  rcases Nat.lt_or_ge b w.heap.size with h | h
  · exact h
  · rw [Array.getElem?_eq_none h] at h1; cases h1
theorem BoxAt.nw {w w' : World} {b : Nat} (h : BoxAt w b) (hn : Nw w w') : BoxAt w' b := by
  obtain ⟨old, t, h1, h2⟩ := h.row
  exact ⟨old, t, (hn.grown.block b h.lt (by simp)).trans h1, h2⟩
instance {w d : World} {b : Nat} [h : BoxAt w b] : BoxAt (w.ext none d) b := h.nw ⟨d, rfl⟩
instance {w : World} {b : Nat} {x : Obj} [h : BoxAt w b] : BoxAt (w.alloc x) b := h.nw ((Nw.refl _).alloc _)
instance {w : World} {b : Nat} [h : BoxAt w b] : BoxAt w.drew b := ⟨h.row⟩
instance {w : World} {b o : Nat} {v : Value} [h : BoxAt w b] : BoxAt (w.setCell ⟨b, o, none⟩ v) b := by
  obtain ⟨old, t, h1, h2⟩ := h.row
  rw [setCell_eq_setRow w b o old t _ v h1]
  exact ⟨_, t, setRow_heap w b old _ t _ h1, by simpa using h2⟩
theorem ConfAt.box {w : World} {c : Cf} {t : TypeId} : BoxAt (w.alloc (cellsOf c t)) w.heap.size := ⟨_, t, _root_.Go.heap_alloc_last w _, rfl⟩
def storeConf (p v : Value) : Sem Unit := Instr.storeAt 27 p v
@[go_sem ↓] theorem storeConf_in (p v : Value) : Instr.storeAt 27 p v = storeConf p v := rfl
theorem ccells_one (c : Cf) : (ccells c).toArray.all (·.oneCell') = true := by simp [ccells, Value.oneCell']
def putConf (w : World) (b : Nat) (c : Cf) : World := w.setRow b (ccells c).toArray
theorem run_storeConf {w : World} {b : Nat} {c : Cf} (h : BoxAt w b) : (storeConf (.pointer (some ⟨b, 0, none⟩)) (confV c)).run Tryz.prog w = .ok () (putConf w b c) := by
  obtain ⟨old, t, h1, h2⟩ := h.row
  show (Instr.storeAt _ _ _).run _ _ = _
  simp only [Instr.storeAt, Instr.sureAddr, Sem.run_bind, Sem.run_pure, Result.andThen_ok]
  exact run_storeVar_row w b t 27 old (ccells c).toArray h1 sizeConf h2 (ccells_one c)
theorem putConf_at {w : World} {b : Nat} {c : Cf} (h : BoxAt w b) : ConfAt (putConf w b c) b c := by
  obtain ⟨old, t, h1, h2⟩ := h.row
  refine ⟨fun i v hv => ?_, by unfold putConf; rw [setRow_size]; exact h.lt⟩
  unfold putConf
  rw [cell_setRow_same w b i old _ t _ h1]
  simpa using hv
theorem putConf_chg (w : World) (b : Nat) (c : Cf) : Chg [b] w (putConf w b c) :=
  ⟨rfl, rfl, rfl, by unfold putConf; simp, fun k _ hk => setRow_other w b k _ (by simpa using hk)⟩
theorem results_conf {fn : Func} {p : Tmp} {tmps : Array Value} {w : World} {b : Nat} {c : Cf} (h : fn.results = #[.cell p 27]) (hp : tmps.getD p undef = .pointer (some ⟨b, 0, none⟩)) (hc : ConfAt w b c) : (results fn tmps).run Tryz.prog w = .ok (confV c) w := by
  have hp' : tmps[p]?.getD undef = .pointer (some ⟨b, 0, none⟩) := by simpa using hp
  have hl := run_loadVar_mid (P := Tryz.prog) w b 0 27 (ccells c) _ (fun j v hv => by rw [Nat.zero_add]; exact hc.at_ j v hv) Tryz.underlying27 rfl sizeConf
  simp only [results, h]
  simp [hp', asAddr, hl]
  rfl
theorem rd_chg {w w' : World} {size n : Nat} {A : Option Addr} {xs : List Value} {X : List Nat} (h : Rd w size A n xs) (hc : Chg X w w') (hx : ∀ b o, A = some ⟨b, o, none⟩ → b ∉ X) : Rd w' size A n xs :=
  ⟨h.1, fun hn => by
    obtain ⟨b, o, rfl, hb, hcl⟩ := h.2 hn
    exact ⟨b, o, rfl, Nat.lt_of_lt_of_le hb hc.size, fun j u hu => hc.cell (hcl j u hu) (hx b o rfl)⟩⟩
set_option maxHeartbeats 2000000 in
theorem few30_any (A : Option Addr) (n c : Nat) (l : List Cl) (w : World) (hnc : n ≤ c) (hc : c ≤ 9223372036854775807) (hl : Cs w A n l) :
    Calls Tryz.prog 8 #[.slice A n c] w fun e w' => ∃ v, e = .returned v ∧ OwnC w' w.heap.size v (l.take 30) ∧ Nw w w' := by
  have HL := Lib.hid hl
  have hlen := hl.1
  clear hl
  by_cases h30 : n ≤ 30
  · have hcc := copyCalls_any A n c l w (by omega) HL.out
    have hmin : min (n : Int) 30 = n := by omega
    go_enter Tryz.func8, Tryz.ntmps8
    go_wp2_with (go_at_call 21; refine hcc.mono ?_; rintro e w' ⟨v, rfl, hv, dW, rfl⟩)
    have h' : OwnC (w.ext none dW) w.heap.size v (l.take 30) := by rw [List.take_of_length_le (by omega)]; exact hv
    refine bodyPost_ret (results_tmp rfl _ _ _) rfl ⟨v, rfl, h', nwa⟩
  · have hmin : min (n : Int) 30 = 30 := by omega
    have hcc := copyCalls_any A 30 c (l.take 30) w (by omega) (HL.out.take (by omega))
    go_enter Tryz.func8, Tryz.ntmps8
    go_wp2_with (go_at_call 21; refine hcc.mono ?_; rintro e w' ⟨v, rfl, hv, dW, rfl⟩)
    refine bodyPost_ret (results_tmp rfl _ _ _) rfl ⟨v, rfl, hv, nwa⟩
theorem nInfo : (Tryz.prog.info? 39).map (fun i => (i.zero, i.size, i.bytes)) = some (some (.int .u64 0), 1, 8) := by kernel_rfl
def OwnN (w : World) (base : Nat) (v : Value) (l : List Nat) : Prop := w.ownsRow base 39 1 v l.length (nums l)
theorem nums_cells (l : List Nat) : ∀ u ∈ nums l, u.oneCell' = true := by
  intro u hu
  obtain ⟨x, _, rfl⟩ := List.mem_map.1 hu
  rfl
theorem Rd.take1 {w : World} {A : Option Addr} {n : Nat} {l : List Nat} (h : Rd w 1 A n (nums l)) {k : Nat} (hk : k ≤ n) : Rd w 1 A k (nums (l.take k)) :=
  ⟨by have := h.1; simp [nums] at this ⊢; omega, fun hn => by
    obtain ⟨b, o, hA, hb, hc⟩ := h.2 (by omega)
    refine ⟨b, o, hA, hb, fun j u hu => hc j u ?_⟩
    simp only [nums, List.map_take] at hu ⊢
    rw [List.getElem?_take] at hu
    split at hu
    · exact hu
    · cases hu⟩
theorem OwnN.form {w : World} {base : Nat} {v : Value} {l : List Nat} (h : OwnN w base v l) : ∃ A c, v = .slice A l.length c ∧ Rd w 1 A l.length (nums l) ∧ c ≤ maxLen := by
  rcases h.2 with ⟨rfl, h0⟩ | ⟨g, cap, cur, rfl, hb, hg, hn, hm, hcs, ht⟩
  · exact ⟨none, 0, by rw [h0], ⟨by simp [nums], fun hp => absurd hp (by omega)⟩, Nat.zero_le _⟩
  · refine ⟨_, cap, rfl, ⟨by simp [nums], fun _ => ⟨g, 0, rfl, (Array.getElem?_eq_some_iff.1 hg).1, fun i x hx => ?_⟩⟩, hm⟩
    have hi : i < l.length := by have := (List.getElem?_eq_some_iff.1 hx).1; simpa [nums] using this
    have k0 := World.ownsRow.cellAt h i (by omega)
    rw [Nat.zero_add]
    simpa [hx] using k0
set_option maxHeartbeats 2000000 in
theorem copyUints_any (A : Option Addr) (n c : Nat) (l : List Nat) (w : World) (hn : n ≤ 1000) (hl : Rd w 1 A n (nums l)) :
    Calls Tryz.prog 20 #[.slice A n c] w fun e w' => ∃ A' c', e = .returned (.slice A' n c') ∧ OwnN w' w.heap.size (.slice A' n c') l ∧ c' ≤ maxLen ∧ Nw w w' := by
  have hlen : l.length = n := by have := hl.1; simpa [nums] using this
  have HL := Lib.hid hl
  clear hl
  go_enter Tryz.func20, Tryz.ntmps20
  go_wp2_with (at_builtin; refine wpList_appS rfl _ _ 22 rfl 39 (.int .u64 0) 1 8 Tryz.underlying22 nInfo rfl (by decide) w _ (Nw.refl w) _ 0 [] rfl (World.ownsRow_nil _ _ _ _) _ n c (nums l) rfl HL.out (nums_cells l) (by unfold maxLen; omega) (by omega) ?_; intro vA dA hownA hnil)
  have h' : OwnN (w.ext none dA) w.heap.size vA l := by unfold OwnN; rw [hlen]; simpa using hownA
  obtain ⟨Av, cv, rfl, h2, h3⟩ := h'.form
  rw [hlen] at h' h2 ⊢
  exact bodyPost_ret (results_tmp rfl _ _ _) rfl ⟨Av, cv, rfl, h', h3, nwa⟩
set_option maxRecDepth 20000 in
set_option maxHeartbeats 2000000 in
theorem small_any (c : Cf) (cuts : List Nat) (w : World) (hcn : c.cn = cuts.length) (hcc : c.cn ≤ c.cc) (hcm : c.cc ≤ maxLen) (hl : Rd w 1 c.cA cuts.length (nums cuts)) :
    Calls Tryz.prog 7 #[confV c] w fun e w' => ∃ c' : Cf, e = .returned (confV c') ∧ c' = { c with cA := c'.cA, cn := min c.cn 70, cc := c'.cc } ∧ Rd w' 1 c'.cA (cuts.take 70).length (nums (cuts.take 70)) ∧ (∀ b o, c'.cA = some ⟨b, o, none⟩ → w.heap.size ≤ b) ∧ Nw w w' := by
  obtain ⟨m, hm⟩ : ∃ m, m = min c.cn 70 := ⟨_, rfl⟩
  have hmin : min (c.cn : Int) 70 = (m : Int) := by omega
  have hmn : m ≤ c.cn := by omega
  have hcu := fun W (hq : Nw w W) => copyUints_any c.cA m c.cc (cuts.take m) W (by omega) (Rd.take1 (Rd.nw hl hq) (by omega))
  have HCU := Lib.hid hcu
  have HM := Lib.hid hm
  have HCN := Lib.hid hcn
  have hmcc : (m : Int) ≤ (c.cc : Int) := by omega
  unfold confV at *
  obtain ⟨b0, hb0⟩ : ∃ b, b = w.heap.size := ⟨_, rfl⟩
  obtain ⟨Wb, hWb⟩ : ∃ W, W = (w.alloc (cellsOf c 27)).alloc (cellsOf ⟨0, 0, 0, 0, 0, 0, none, 0, 0, 0, 0, 0, 0, 0, 0, 0, 0, 0⟩ 27) := ⟨_, rfl⟩
  have hnb : Nw w Wb := by rw [hWb]; exact nwa
  haveI hca : ConfAt Wb b0 c := by
    have h1 : ConfAt (w.alloc (cellsOf c 27)) b0 c := ⟨fun i v hv => by unfold cellsOf; unfold ccells at hv; rw [hb0, World.cell?_alloc_new]; simpa using hv, by rw [hb0]; simp⟩
    rw [hWb]; infer_instance
  have HSZ := Lib.hid (show Wb.heap.size = b0 + 2 by rw [hWb, hb0]; simp)
  have hbx : BoxAt Wb (b0 + 1) := ⟨_, _, by rw [hWb, hb0]; exact heap_alloc2_new w _ _, rfl⟩
  have k6 : Wb.cell? ⟨b0, 6, none⟩ = some (.slice c.cA c.cn c.cc) := hca.at_ 6 _ rfl
  have z6 : Wb.frozen? ⟨b0, 6, none⟩ = false := by rw [hWb, hb0]; simp [go_sem, cellsOf]
  unfold cellsOf at hWb
  have HWB := Lib.hid hWb
  have HNB := Lib.hid hnb
  have HB0 := Lib.hid hb0
  have HBX := Lib.hid hbx
  have HCA := Lib.hid hca
  haveI : In b0 Wb := ⟨hca.lt⟩
  clear hcu hm hcn hl hWb hnb hb0 hbx
  go_enter Tryz.func7, Tryz.ntmps7
  go_upto_region 1 with (fail)
  rw [← HWB.out, ← HB0.out]
  go_wp2_with fail
  refine (HCU.out Wb HNB.out).mono ?_
  rintro e W2 ⟨A', cp', rfl, hown, hcp, hn2⟩
  obtain ⟨c', hc'⟩ : ∃ c' : Cf, c' = { c with cA := A', cn := m, cc := cp' } := ⟨_, rfl⟩
  have t6 := cell_nw k6 hn2
  have y6 := (frozen_nw (World.block_lt_of_cell? Wb _ k6) hn2).trans z6
  haveI : In b0 W2 := ⟨World.block_lt_of_cell? W2 _ t6⟩
  obtain ⟨W3, hW3⟩ : ∃ W, W = W2.setCell ⟨b0, 6, none⟩ (.slice A' m cp') := ⟨_, rfl⟩
  have hca3 : ConfAt W3 b0 c' := by
    refine ⟨fun i v hv => ?_, by rw [hW3, World.size_setCell]; exact (by assumption : In b0 W2).lt⟩
    rw [hW3]
    have hca2 := HCA.out.nw hn2
    by_cases h6 : i = 6
    · subst h6
      rw [World.cell?_setCell_same' _ _ _ (by rw [t6]; rfl)]
      rw [hc'] at hv; exact hv
    · rw [World.cell?_setCell_other _ _ _ _ (by simp [h6])]
      refine hca2.at_ i v ?_
      rw [hc'] at hv
      have hi : i < 16 := (List.getElem?_eq_some_iff.1 hv).1
      unfold ccells at hv ⊢
      match i, hi, h6 with
      | 0, _, _ => exact hv
      | 1, _, _ => exact hv
      | 2, _, _ => exact hv
      | 3, _, _ => exact hv
      | 4, _, _ => exact hv
      | 5, _, _ => exact hv
      | 7, _, _ => exact hv
      | 8, _, _ => exact hv
      | 9, _, _ => exact hv
      | 10, _, _ => exact hv
      | 11, _, _ => exact hv
      | 12, _, _ => exact hv
      | 13, _, _ => exact hv
      | 14, _, _ => exact hv
      | 15, _, _ => exact hv
  have hch3 : Chg [b0] W2 W3 := by rw [hW3]; exact Chg.set1 W2 b0 6 _
  have hbx3 : BoxAt W3 (b0 + 1) := by
    obtain ⟨old, t, h1, h2⟩ := (HBX.out.nw hn2).row
    exact ⟨old, t, (hch3.block _ ((HBX.out.nw hn2).lt) (by simp)).trans h1, h2⟩
  have hst : (storeConf (.pointer (some ⟨b0 + 1, 0, none⟩)) (confV c')).run Tryz.prog W3 = .ok () (putConf W3 (b0 + 1) c') := run_storeConf hbx3
  have hcf := putConf_at (c := c') hbx3
  have hch4 := putConf_chg W3 (b0 + 1) c'
  have HW3 := Lib.hid hW3
  have HC' := Lib.hid hc'
  have HN2 := Lib.hid hn2
  have HOWN := Lib.hid hown
  have HCF := Lib.hid hcf
  have HCH3 := Lib.hid hch3
  have HCH4 := Lib.hid hch4
  unfold confV at hst
  clear k6 z6 hn2 hW3 hc' hown hcf hbx3 hch3 hch4
  go_upto_region 2 with (fail)
  rw [← HW3.out]
  go_wp2
  have hb := HB0.out
  have hsz := HNB.out.grown.size
  refine bodyPost_ret (v := confV c') (results_conf rfl rfl HCF.out) rfl ⟨c', rfl, ?_, ?_, ?_, ?_⟩
  · rw [HC'.out, HM.out]
  · have hlen : (cuts.take 70).length = m := by rw [List.length_take]; have := HM.out; have := HCN.out; omega
    have htk : cuts.take m = cuts.take 70 := by
      rcases Nat.le_total cuts.length 70 with h | h
      · rw [List.take_of_length_le h, List.take_of_length_le (by have := HM.out; have := HCN.out; omega)]
      · rw [show m = 70 by have := HM.out; have := HCN.out; omega]
    have h1 := HOWN.out
    rw [htk] at h1
    have hcA : c'.cA = A' := by rw [HC'.out]
    rw [hcA]
    have h2 : OwnN (putConf W3 (b0 + 1) c') Wb.heap.size (.slice A' m cp') (cuts.take 70) := by
      unfold OwnN at h1 ⊢
      refine own_chg h1 ((HCH3.out.le (Y := [b0, b0 + 1]) (by simp)).trans (HCH4.out.le (by simp))) (fun g hg => ?_)
      have := (World.ownsRow.lt h1 g hg).1
      have := HSZ.out
      simp; omega
    obtain ⟨A2, c2, e, h3, -⟩ := h2.form
    injection e with e1 e2 e3
    rw [e1]; exact h3
  · intro b o e
    have h1 := HOWN.out
    unfold OwnN at h1
    have h2 := (World.ownsRow.lt h1 b (by rw [HC'.out] at e; rw [show A' = some ⟨b, o, none⟩ from e]; rfl)).1
    omega
  · have := HB0.out
    exact nw_chg2 (HNB.out.trans HN2.out) ((HCH3.out.le (Y := [b0, b0 + 1]) (by simp)).trans (HCH4.out.le (by simp))) (fun k hk => by simp at hk; omega)
end Go.Proofs.YtkikdpdainmlcaaGreat
namespace Go.Proofs.YtkikdpdainmlcaaGreat
open Go.RowKit Go.Xt
/-! Equality of two lists of pairs. -/
set_option maxRecDepth 20000 in
set_option maxHeartbeats 4000000 in
theorem eqPairs_any (A B : Option Addr) (n m ca cb : Nat) (l k : List (Int × Int)) (w : World) (ha : Rd w 2 A n (pcells l)) (hb : Rd w 2 B m (pcells k)) (hn : n ≤ 1000000) (hm : m ≤ 1000000) :
    Calls Tryz.prog 17 #[.slice A n ca, .slice B m cb] w fun e w' => e = .returned (.bool (decide (l = k))) ∧ Nw w w' := by
  have hln : l.length = n := by have := ha.1; rw [pcells_len] at this; omega
  have hkm : k.length = m := by have := hb.1; rw [pcells_len] at this; omega
  by_cases hnm : n = m
  · subst hnm
    have d0 : ((n : Int) != (n : Int)) = false := by simp
    have HA := Lib.hid ha
    have HB := Lib.hid hb
    have HL := Lib.hid hln
    have HK := Lib.hid hkm
    have HN := Lib.hid hn
    clear ha hb hln hkm hm hn
    go_enter Tryz.func17, Tryz.ntmps17
    go_wp2_with fail
    go_loopw [5] (fun a wr => ∃ i : Nat, i ≤ n ∧ a = .int .i64 i ∧ Nw w wr ∧ Hid (l.take i = k.take i)) (fun a _ => n - (intOf a).toNat)
    case atStart => exact ⟨0, Nat.zero_le _, rfl, nwa, Lib.hid (by simp)⟩
    case round =>
      obtain ⟨i, hi, rfl, ⟨d, rfl⟩, HT⟩ := hrel
      by_cases hin : i < n
      · obtain ⟨ga, oa, rfl, hga, hca⟩ := HA.out.2 (by omega)
        obtain ⟨gb, ob, rfl, hgb, hcb⟩ := HB.out.2 (by omega)
        haveI : In ga w := ⟨hga⟩
        haveI : In gb w := ⟨hgb⟩
        obtain ⟨⟨x1, x2⟩, hx⟩ : ∃ x, l[i]? = some x := ⟨_, List.getElem?_eq_getElem (by have := HL.out; omega)⟩
        obtain ⟨⟨y1, y2⟩, hy⟩ : ∃ x, k[i]? = some x := ⟨_, List.getElem?_eq_getElem (by have := HK.out; omega)⟩
        obtain ⟨g0, g1⟩ := pcells_get l i _ hx
        obtain ⟨g2, g3⟩ := pcells_get k i _ hy
        have a0 : w.cell? ⟨ga, oa + i * 2, none⟩ = some (.int .u64 x1) := hca _ _ g0
        have a1 : w.cell? ⟨ga, oa + i * 2 + 1, none⟩ = some (.int .u64 x2) := by have := hca _ _ g1; rw [← Nat.add_assoc] at this; exact this
        have b0 : w.cell? ⟨gb, ob + i * 2, none⟩ = some (.int .u64 y1) := hcb _ _ g2
        have b1 : w.cell? ⟨gb, ob + i * 2 + 1, none⟩ = some (.int .u64 y2) := by have := hcb _ _ g3; rw [← Nat.add_assoc] at this; exact this
        have HX := Lib.hid hx
        have HY := Lib.hid hy
        have i1 : (i : Int) < (n : Int) := by omega
        have i0 : (0 : Int) ≤ (i : Int) := by omega
        have i2 : i < 1000000 := by have := HN.out; omega
        have HIN := Lib.hid hin
        clear hx hy g0 g1 g2 g3 hca hcb hin hi
        by_cases heq : x1 = y1 ∧ x2 = y2
        · obtain ⟨rfl, rfl⟩ := heq
          go_wp2_with fail
          go_region
          go_wp2
          refine ⟨⟨i + 1, by have := HIN.out; omega, by go_num, nwa, Lib.hid ?_⟩, by have := HIN.out; simp [intOf]; omega⟩
          obtain ⟨p1, p2⟩ := List.getElem?_eq_some_iff.1 HX.out
          obtain ⟨p3, p4⟩ := List.getElem?_eq_some_iff.1 HY.out
          rw [List.take_succ_eq_append_getElem p1, List.take_succ_eq_append_getElem p3, p2, p4, HT.out]
        · have e0 : (decide (x1 = y1) && decide (x2 = y2)) = false := by
            cases h1 : (decide (x1 = y1) && decide (x2 = y2)) with
            | false => rfl
            | true => exfalso; simp at h1; exact heq h1
          have hne : ¬ l = k := by
            intro h
            have hx := HX.out
            rw [h, HY.out] at hx
            simp at hx
            exact heq ⟨hx.1.symm, hx.2.symm⟩
          go_wp2_with fail
          go_region
          go_wp2
          go_ret
          refine ⟨?_, nwa⟩
          rw [decide_eq_false hne]; try rfl
      · have ei : i = n := by omega
        subst ei
        have hlk : l = k := by
          have h := HT.out
          rw [List.take_of_length_le (by have := HL.out; omega), List.take_of_length_le (by have := HK.out; omega)] at h
          exact h
        go_wp2_with fail
        go_ret
        refine ⟨?_, nwa⟩
        rw [decide_eq_true hlk]; try rfl
  · have d0 : ((n : Int) != (m : Int)) = true := by simp; omega
    have hne : ¬ l = k := by intro h; rw [h] at hln; omega
    clear ha hb hln hkm
    go_enter Tryz.func17, Tryz.ntmps17
    go_wp2
    go_ret
    refine ⟨?_, nwa⟩
    rw [decide_eq_false hne]; try rfl
end Go.Proofs.YtkikdpdainmlcaaGreat
namespace Go.Proofs.YtkikdpdainmlcaaGreat
open Go.RowKit Go.Xt
/-! Equality of lists that are the same. -/
set_option maxRecDepth 20000 in
set_option maxHeartbeats 4000000 in
theorem eqUints_same (A B : Option Addr) (n ca cb : Nat) (l : List Int) (w : World) (ha : Rd w 1 A n (u64c l)) (hb : Rd w 1 B n (u64c l)) (hn : n ≤ 1000000) :
    Calls Tryz.prog 29 #[.slice A n ca, .slice B n cb] w fun e w' => e = .returned (.bool true) ∧ Nw w w' := by
  have hln : l.length = n := by have := ha.1; simp [u64c] at this; omega
  have d0 : ((n : Int) != (n : Int)) = false := by simp
  have HA := Lib.hid ha
  have HB := Lib.hid hb
  have HL := Lib.hid hln
  have HN := Lib.hid hn
  clear ha hb hln hn
  go_enter Tryz.func29, Tryz.ntmps29
  go_wp2_with fail
  go_loopw [5] (fun a wr => ∃ i : Nat, i ≤ n ∧ a = .int .i64 i ∧ Nw w wr) (fun a _ => n - (intOf a).toNat)
  case atStart => exact ⟨0, Nat.zero_le _, rfl, nwa⟩
  case round =>
    obtain ⟨i, hi, rfl, ⟨d, rfl⟩⟩ := hrel
    by_cases hin : i < n
    · obtain ⟨ga, oa, rfl, hga, hca⟩ := HA.out.2 (by omega)
      obtain ⟨gb, ob, rfl, hgb, hcb⟩ := HB.out.2 (by omega)
      haveI : In ga w := ⟨hga⟩
      haveI : In gb w := ⟨hgb⟩
      obtain ⟨x1, hx⟩ : ∃ x, l[i]? = some x := ⟨_, List.getElem?_eq_getElem (by have := HL.out; omega)⟩
      have g0 : (u64c l)[i]? = some (.int .u64 x1) := by unfold u64c; rw [List.getElem?_map, hx]; rfl
      have a0 : w.cell? ⟨ga, oa + i, none⟩ = some (.int .u64 x1) := hca _ _ g0
      have b0 : w.cell? ⟨gb, ob + i, none⟩ = some (.int .u64 x1) := hcb _ _ g0
      have i1 : (i : Int) < (n : Int) := by omega
      have i0 : (0 : Int) ≤ (i : Int) := by omega
      have i2 : i < 1000000 := by have := HN.out; omega
      have HIN := Lib.hid hin
      clear hx g0 hca hcb hin hi
      go_wp2_with fail
      go_region
      go_wp2
      exact ⟨⟨i + 1, by have := HIN.out; omega, by go_num, nwa⟩, by have := HIN.out; simp [intOf]; omega⟩
    · have ei : i = n := by omega
      subst ei
      go_wp2_with fail
      go_ret
      exact ⟨rfl, nwa⟩
set_option maxRecDepth 20000 in
set_option maxHeartbeats 4000000 in
theorem eqInts2_same (A B : Option Addr) (n ca cb : Nat) (za zb : List Value) (l : List (List Nat)) (w : World) (ha : Rd w 1 A n za) (hb : Rd w 1 B n zb) (hl : l.length = n) (hn : n ≤ 1000)
    (ea : ∀ (i : Nat) (z : Value) (r : List Nat), za[i]? = some z → l[i]? = some r → ∃ A c, z = .slice A r.length c ∧ Is w A r.length (natI r) ∧ r.length ≤ 1000)
    (eb : ∀ (i : Nat) (z : Value) (r : List Nat), zb[i]? = some z → l[i]? = some r → ∃ A c, z = .slice A r.length c ∧ Is w A r.length (natI r) ∧ r.length ≤ 1000) :
    Calls Tryz.prog 30 #[.slice A n ca, .slice B n cb] w fun e w' => e = .returned (.bool true) ∧ Nw w w' := by
  have d0 : ((n : Int) != (n : Int)) = false := by simp
  have HA := Lib.hid ha
  have HB := Lib.hid hb
  have HL := Lib.hid hl
  have HN := Lib.hid hn
  have HEA := Lib.hid ea
  have HEB := Lib.hid eb
  clear ha hb hl hn ea eb
  go_enter Tryz.func30, Tryz.ntmps30
  go_wp2_with fail
  go_loopw [5] (fun a wr => ∃ i : Nat, i ≤ n ∧ a = .int .i64 i ∧ Nw w wr) (fun a _ => n - (intOf a).toNat)
  case atStart => exact ⟨0, Nat.zero_le _, rfl, nwa⟩
  case round =>
    obtain ⟨i, hi, rfl, ⟨d, rfl⟩⟩ := hrel
    by_cases hin : i < n
    · obtain ⟨ga, oa, rfl, hga, hca⟩ := HA.out.2 (by omega)
      obtain ⟨gb, ob, rfl, hgb, hcb⟩ := HB.out.2 (by omega)
      haveI : In ga w := ⟨hga⟩
      haveI : In gb w := ⟨hgb⟩
      obtain ⟨r, hr⟩ : ∃ x, l[i]? = some x := ⟨_, List.getElem?_eq_getElem (by have := HL.out; omega)⟩
      obtain ⟨x, hx⟩ : ∃ x, za[i]? = some x := ⟨_, List.getElem?_eq_getElem (by have := HA.out.1; omega)⟩
      obtain ⟨y, hy⟩ : ∃ x, zb[i]? = some x := ⟨_, List.getElem?_eq_getElem (by have := HB.out.1; omega)⟩
      obtain ⟨Ax, cx, rfl, hax, hl1⟩ := HEA.out i x r hx hr
      obtain ⟨Ay, cy, rfl, hay, -⟩ := HEB.out i y r hy hr
      have a0 : w.cell? ⟨ga, oa + i, none⟩ = some (.slice Ax r.length cx) := hca _ _ hx
      have b0 : w.cell? ⟨gb, ob + i, none⟩ = some (.slice Ay r.length cy) := hcb _ _ hy
      have hEQ := fun W (hq : Nw w W) => equalInts_any Ax Ay r.length r.length cx cy (natI r) (natI r) W hl1 hl1 (hax.nw hq) (hay.nw hq)
      rw [decide_eq_true rfl] at hEQ
      have HEQ := Lib.hid hEQ
      have i1 : (i : Int) < (n : Int) := by omega
      have i0 : (0 : Int) ≤ (i : Int) := by omega
      have i2 : i < 1000000 := by have := HN.out; omega
      have HIN := Lib.hid hin
      clear hx hy hr hax hay hl1 hEQ hca hcb hin hi
      go_upto_region 6 with (fail)
      (refine wp_region_nw (by kernel_rfl) (by kernel_rfl) ?_; (repeat (go_big_quiet_step ((go_at_call 53; exact quiet_of (HEQ.out _ (nwa)))))); refine wpQuiet_nil ?_; intro _ hreg; obtain ⟨dW, rfl⟩ : Nw _ _ := hreg)
      go_wp2
      exact ⟨⟨i + 1, by have := HIN.out; omega, by go_num, nwa⟩, by have := HIN.out; simp [intOf]; omega⟩
    · have ei : i = n := by omega
      subst ei
      go_wp2_with fail
      go_ret
      exact ⟨rfl, nwa⟩
end Go.Proofs.YtkikdpdainmlcaaGreat
