import Derived.Test.YtfnapkfdocabcaaGreatGOd
import Derived.Test.YtfnapkfdocabcaaGreatGP
import Derived.Test.YtfnapkfdocabcaaGreatGNc
import Derived.Test.YtfnapkfdocabcaaGreatGEz
set_option linter.unusedVariables false
set_option linter.unusedSimpArgs false
set_option linter.unnecessarySimpa false
namespace Go.Proofs.YtfnapkfdocabcaaGreat
open Go.RowKit Go.Xt
/-! What the laws use: copies of calls and of a configuration. -/
/-- A box that holds a configuration, whichever. -/
class BoxAt (w : World) (b : Nat) : Prop where
  row : ∃ (old : Array Value) (t : TypeId), w.heap[b]? = some (.cells old t (0, 0)) ∧ old.size = 16
theorem BoxAt.lt {w : World} {b : Nat} (h : BoxAt w b) : b < w.heap.size := by
  obtain ⟨old, t, h1, h2⟩ := h.row
  rcases Nat.lt_or_ge b w.heap.size with h | h
  · exact h
  · rw [Array.getElem?_eq_none h] at h1; cases h1
theorem BoxAt.nw {w w' : World} {b : Nat} (h : BoxAt w b) (hn : Nw w w') : BoxAt w' b := by
  obtain ⟨old, t, h1, h2⟩ := h.row
  exact ⟨old, t, (hn.grown.block b h.lt (by simp)).trans h1, h2⟩
instance {w d : World} {b : Nat} [h : BoxAt w b] : BoxAt (w.ext none d) b := h.nw ⟨d, rfl⟩
instance {w : World} {b : Nat} {x : Obj} [h : BoxAt w b] : BoxAt (w.alloc x) b := h.nw ((Nw.refl _).alloc _)
instance {w : World} {b : Nat} [h : BoxAt w b] : BoxAt w.drew b := ⟨h.row⟩
instance {w : World} {b o : Nat} {v : Value} [h : BoxAt w b] : BoxAt (w.setCell ⟨b, o, none⟩ v) b := by
  obtain ⟨old, t, h1, h2⟩ := h.row
  rw [setCell_eq_setRow w b o old t _ v h1]
  exact ⟨_, t, setRow_heap w b old _ t _ h1, by simpa using h2⟩
theorem ConfAt.box {w : World} {c : Cf} {t : TypeId} : BoxAt (w.alloc (cellsOf c t)) w.heap.size := ⟨_, t, _root_.Go.heap_alloc_last w _, rfl⟩
/-- A store of a whole configuration, kept shut in the walk. -/
def storeConf (p v : Value) : Sem Unit := Instr.storeAt 27 p v
@[go_sem ↓] theorem storeConf_in (p v : Value) : Instr.storeAt 27 p v = storeConf p v := rfl
theorem ccells_one (c : Cf) : (ccells c).toArray.all (·.oneCell') = true := by simp [ccells, Value.oneCell']
/-- What a store leaves. -/
def putConf (w : World) (b : Nat) (c : Cf) : World := w.setRow b (ccells c).toArray
theorem run_storeConf {w : World} {b : Nat} {c : Cf} (h : BoxAt w b) : (storeConf (.pointer (some ⟨b, 0, none⟩)) (confV c)).run Tryz.prog w = .ok () (putConf w b c) := by
  obtain ⟨old, t, h1, h2⟩ := h.row
  show (Instr.storeAt _ _ _).run _ _ = _
  simp only [Instr.storeAt, Instr.sureAddr, Sem.run_bind, Sem.run_pure, Result.andThen_ok]
  exact run_storeVar_row w b t 27 old (ccells c).toArray h1 sizeConf h2 (ccells_one c)
theorem putConf_at {w : World} {b : Nat} {c : Cf} (h : BoxAt w b) : ConfAt (putConf w b c) b c := by
  obtain ⟨old, t, h1, h2⟩ := h.row
  refine ⟨fun i v hv => ?_, by unfold putConf; rw [setRow_size]; exact h.lt⟩
  unfold putConf
  rw [cell_setRow_same w b i old _ t _ h1]
  simpa using hv
theorem putConf_chg (w : World) (b : Nat) (c : Cf) : Chg [b] w (putConf w b c) :=
  ⟨rfl, rfl, rfl, by unfold putConf; simp, fun k _ hk => setRow_other w b k _ (by simpa using hk)⟩
theorem putConf_box {w : World} {b : Nat} {c : Cf} (h : BoxAt w b) : BoxAt (putConf w b c) b := by
  obtain ⟨old, t, h1, h2⟩ := h.row
  exact ⟨_, t, setRow_heap w b old _ t _ h1, rfl⟩
theorem results_conf {fn : Func} {p : Tmp} {tmps : Array Value} {w : World} {b : Nat} {c : Cf} (h : fn.results = #[.cell p 27]) (hp : tmps.getD p undef = .pointer (some ⟨b, 0, none⟩)) (hc : ConfAt w b c) : (results fn tmps).run Tryz.prog w = .ok (confV c) w := by
  have hp' : tmps[p]?.getD undef = .pointer (some ⟨b, 0, none⟩) := by simpa using hp
  have hl := run_loadVar_mid (P := Tryz.prog) w b 0 27 (ccells c) _ (fun j v hv => by rw [Nat.zero_add]; exact hc.at_ j v hv) Tryz.underlying27 rfl sizeConf
  simp only [results, h]
  simp [hp', asAddr, hl]
  rfl
theorem rd_chg {w w' : World} {size n : Nat} {A : Option Addr} {xs : List Value} {X : List Nat} (h : Rd w size A n xs) (hc : Chg X w w') (hx : ∀ b o, A = some ⟨b, o, none⟩ → b ∉ X) : Rd w' size A n xs :=
  ⟨h.1, fun hn => by
    obtain ⟨b, o, rfl, hb, hcl⟩ := h.2 hn
    exact ⟨b, o, rfl, Nat.lt_of_lt_of_le hb hc.size, fun j u hu => hc.cell (hcl j u hu) (hx b o rfl)⟩⟩
set_option maxHeartbeats 2000000 in
theorem few24_any (A : Option Addr) (n c : Nat) (l : List Cl) (w : World) (hnc : n ≤ c) (hc : c ≤ 9223372036854775807) (hl : Cs w A n l) :
    Calls Tryz.prog 16 #[.slice A n c] w fun e w' => ∃ v, e = .returned v ∧ OwnC w' w.heap.size v (l.take 24) ∧ Nw w w' := by
  have HL := Lib.hid hl
  have hlen := hl.1
  clear hl
  by_cases h24 : n ≤ 24
  · have hcc := copyCalls_any A n c l w (by omega) HL.out
    have hmin : min (n : Int) 24 = n := by omega
    go_enter Tryz.func16, Tryz.ntmps16
    go_wp2_with (go_at_call 42; refine hcc.mono ?_; rintro e w' ⟨v, rfl, hv, dW, rfl⟩)
    have h' : OwnC (w.ext none dW) w.heap.size v (l.take 24) := by rw [List.take_of_length_le (by omega)]; exact hv
    refine bodyPost_ret (results_tmp rfl _ _ _) rfl ⟨v, rfl, h', (by repeat (first | exact Xt.Nw.refl _ | refine Xt.Nw.drew ?_ | refine Xt.Nw.drewN ?_ _ | refine Xt.Nw.alloc ?_ _ | refine Xt.Nw.joined ?_ | refine Xt.Nw.drewd ?_ | refine Xt.Nw.drewdN ?_ | refine Xt.Nw.ext ?_ | refine Xt.Nw.ext_some ?_ (by assumption) | refine Xt.Nw.setCell ?_ (by simp [go_sem] <;> omega) _))⟩
  · have hmin : min (n : Int) 24 = 24 := by omega
    have hcc := copyCalls_any A 24 c (l.take 24) w (by omega) (HL.out.take (by omega))
    go_enter Tryz.func16, Tryz.ntmps16
    go_wp2_with (go_at_call 42; refine hcc.mono ?_; rintro e w' ⟨v, rfl, hv, dW, rfl⟩)
    refine bodyPost_ret (results_tmp rfl _ _ _) rfl ⟨v, rfl, hv, (by repeat (first | exact Xt.Nw.refl _ | refine Xt.Nw.drew ?_ | refine Xt.Nw.drewN ?_ _ | refine Xt.Nw.alloc ?_ _ | refine Xt.Nw.joined ?_ | refine Xt.Nw.drewd ?_ | refine Xt.Nw.drewdN ?_ | refine Xt.Nw.ext ?_ | refine Xt.Nw.ext_some ?_ (by assumption) | refine Xt.Nw.setCell ?_ (by simp [go_sem] <;> omega) _))⟩
theorem nInfo : (Tryz.prog.info? 31).map (fun i => (i.zero, i.size, i.bytes)) = some (some (.int .u64 0), 1, 8) := by kernel_rfl
/-- New memory that holds numbers. -/
def OwnN (w : World) (base : Nat) (v : Value) (l : List Nat) : Prop := w.ownsRow base 31 1 v l.length (nums l)
theorem nums_cells (l : List Nat) : ∀ u ∈ nums l, u.oneCell' = true := by
  intro u hu
  obtain ⟨x, _, rfl⟩ := List.mem_map.1 hu
  rfl
theorem Rd.take1 {w : World} {A : Option Addr} {n : Nat} {l : List Nat} (h : Rd w 1 A n (nums l)) {k : Nat} (hk : k ≤ n) : Rd w 1 A k (nums (l.take k)) :=
  ⟨by have := h.1; simp [nums] at this ⊢; omega, fun hn => by
    obtain ⟨b, o, hA, hb, hc⟩ := h.2 (by omega)
    refine ⟨b, o, hA, hb, fun j u hu => hc j u ?_⟩
    simp only [nums, List.map_take] at hu ⊢
    rw [List.getElem?_take] at hu
    split at hu
    · exact hu
    · cases hu⟩
theorem OwnN.form {w : World} {base : Nat} {v : Value} {l : List Nat} (h : OwnN w base v l) : ∃ A c, v = .slice A l.length c ∧ Rd w 1 A l.length (nums l) ∧ c ≤ maxLen := by
  rcases h.2 with ⟨rfl, h0⟩ | ⟨g, cap, cur, rfl, hb, hg, hn, hm, hcs, ht⟩
  · exact ⟨none, 0, by rw [h0], ⟨by simp [nums], fun hp => absurd hp (by omega)⟩, Nat.zero_le _⟩
  · refine ⟨_, cap, rfl, ⟨by simp [nums], fun _ => ⟨g, 0, rfl, (Array.getElem?_eq_some_iff.1 hg).1, fun i x hx => ?_⟩⟩, hm⟩
    have hi : i < l.length := by have := (List.getElem?_eq_some_iff.1 hx).1; simpa [nums] using this
    have k0 := World.ownsRow.cellAt h i (by omega)
    rw [Nat.zero_add]
    simpa [hx] using k0
set_option maxHeartbeats 2000000 in
theorem copyUints_any (A : Option Addr) (n c : Nat) (l : List Nat) (w : World) (hn : n ≤ 1000) (hl : Rd w 1 A n (nums l)) :
    Calls Tryz.prog 23 #[.slice A n c] w fun e w' => ∃ A' c', e = .returned (.slice A' n c') ∧ OwnN w' w.heap.size (.slice A' n c') l ∧ c' ≤ maxLen ∧ Nw w w' := by
  have hlen : l.length = n := by have := hl.1; simpa [nums] using this
  have HL := Lib.hid hl
  clear hl
  go_enter Tryz.func23, Tryz.ntmps23
  go_wp2_with (at_builtin; refine wpList_appS rfl _ _ 22 rfl 31 (.int .u64 0) 1 8 Tryz.underlying22 nInfo rfl (by decide) w _ (Nw.refl w) _ 0 [] rfl (World.ownsRow_nil _ _ _ _) _ n c (nums l) rfl HL.out (nums_cells l) (by unfold maxLen; omega) (by omega) ?_; intro vA dA hownA hnil)
  have h' : OwnN (w.ext none dA) w.heap.size vA l := by unfold OwnN; rw [hlen]; simpa using hownA
  obtain ⟨Av, cv, rfl, h2, h3⟩ := h'.form
  rw [hlen] at h' h2 ⊢
  exact bodyPost_ret (results_tmp rfl _ _ _) rfl ⟨Av, cv, rfl, h', h3, (by repeat (first | exact Xt.Nw.refl _ | refine Xt.Nw.drew ?_ | refine Xt.Nw.drewN ?_ _ | refine Xt.Nw.alloc ?_ _ | refine Xt.Nw.joined ?_ | refine Xt.Nw.drewd ?_ | refine Xt.Nw.drewdN ?_ | refine Xt.Nw.ext ?_ | refine Xt.Nw.ext_some ?_ (by assumption) | refine Xt.Nw.setCell ?_ (by simp [go_sem] <;> omega) _))⟩
set_option maxRecDepth 20000 in
set_option maxHeartbeats 2000000 in
/-- A copy of a configuration, whose cuts are cut to 70. -/
theorem small_any (c : Cf) (cuts : List Nat) (w : World) (hcn : c.cn = cuts.length) (hcc : c.cn ≤ c.cc) (hcm : c.cc ≤ maxLen) (hl : Rd w 1 c.cA cuts.length (nums cuts)) :
    Calls Tryz.prog 7 #[confV c] w fun e w' => ∃ c' : Cf, e = .returned (confV c') ∧ c' = { c with cA := c'.cA, cn := min c.cn 70, cc := c'.cc } ∧ Rd w' 1 c'.cA (cuts.take 70).length (nums (cuts.take 70)) ∧ (∀ b o, c'.cA = some ⟨b, o, none⟩ → w.heap.size ≤ b) ∧ Nw w w' := by
  obtain ⟨m, hm⟩ : ∃ m, m = min c.cn 70 := ⟨_, rfl⟩
  have hmin : min (c.cn : Int) 70 = (m : Int) := by omega
  have hmn : m ≤ c.cn := by omega
  have hcu := fun W (hq : Nw w W) => copyUints_any c.cA m c.cc (cuts.take m) W (by omega) (Rd.take1 (Rd.nw hl hq) (by omega))
  have HCU := Lib.hid hcu
  have HM := Lib.hid hm
  have HCN := Lib.hid hcn
  have hmcc : (m : Int) ≤ (c.cc : Int) := by omega
  unfold confV at *
  obtain ⟨b0, hb0⟩ : ∃ b, b = w.heap.size := ⟨_, rfl⟩
  obtain ⟨Wb, hWb⟩ : ∃ W, W = (w.alloc (cellsOf c 27)).alloc (cellsOf ⟨0, 0, 0, 0, 0, 0, none, 0, 0, 0, 0, 0, 0, 0, 0, 0, 0, 0⟩ 27) := ⟨_, rfl⟩
  have hnb : Nw w Wb := by rw [hWb]; exact (by repeat (first | exact Xt.Nw.refl _ | refine Xt.Nw.drew ?_ | refine Xt.Nw.drewN ?_ _ | refine Xt.Nw.alloc ?_ _ | refine Xt.Nw.joined ?_ | refine Xt.Nw.drewd ?_ | refine Xt.Nw.drewdN ?_ | refine Xt.Nw.ext ?_ | refine Xt.Nw.ext_some ?_ (by assumption) | refine Xt.Nw.setCell ?_ (by simp [go_sem] <;> omega) _))
  haveI hca : ConfAt Wb b0 c := by
    have h1 : ConfAt (w.alloc (cellsOf c 27)) b0 c := ⟨fun i v hv => by unfold cellsOf; unfold ccells at hv; rw [hb0, World.cell?_alloc_new]; simpa using hv, by rw [hb0]; simp⟩
    rw [hWb]; infer_instance
  have HSZ := Lib.hid (show Wb.heap.size = b0 + 2 by rw [hWb, hb0]; simp)
  have hbx : BoxAt Wb (b0 + 1) := ⟨_, _, by rw [hWb, hb0]; exact heap_alloc2_new w _ _, rfl⟩
  have k6 : Wb.cell? ⟨b0, 6, none⟩ = some (.slice c.cA c.cn c.cc) := hca.at_ 6 _ rfl
  have z6 : Wb.frozen? ⟨b0, 6, none⟩ = false := by rw [hWb, hb0]; simp [go_sem, cellsOf]
  unfold cellsOf at hWb
  have HWB := Lib.hid hWb
  have HNB := Lib.hid hnb
  have HB0 := Lib.hid hb0
  have HBX := Lib.hid hbx
  have HCA := Lib.hid hca
  haveI : In b0 Wb := ⟨hca.lt⟩
  clear hcu hm hcn hl hWb hnb hb0 hbx
  go_enter Tryz.func7, Tryz.ntmps7
  go_upto_region 1 with (fail)
  rw [← HWB.out, ← HB0.out]
  go_wp2_with fail
  refine (HCU.out Wb HNB.out).mono ?_
  rintro e W2 ⟨A', cp', rfl, hown, hcp, hn2⟩
  obtain ⟨c', hc'⟩ : ∃ c' : Cf, c' = { c with cA := A', cn := m, cc := cp' } := ⟨_, rfl⟩
  have t6 := cell_nw k6 hn2
  have y6 := (frozen_nw (World.block_lt_of_cell? Wb _ k6) hn2).trans z6
  haveI : In b0 W2 := ⟨World.block_lt_of_cell? W2 _ t6⟩
  obtain ⟨W3, hW3⟩ : ∃ W, W = W2.setCell ⟨b0, 6, none⟩ (.slice A' m cp') := ⟨_, rfl⟩
  have hca3 : ConfAt W3 b0 c' := by
    refine ⟨fun i v hv => ?_, by rw [hW3, World.size_setCell]; exact (by assumption : In b0 W2).lt⟩
    rw [hW3]
    have hca2 := HCA.out.nw hn2
    by_cases h6 : i = 6
    · subst h6
      rw [World.cell?_setCell_same' _ _ _ (by rw [t6]; rfl)]
      rw [hc'] at hv; exact hv
    · rw [World.cell?_setCell_other _ _ _ _ (by simp [h6])]
      refine hca2.at_ i v ?_
      rw [hc'] at hv
      have hi : i < 16 := (List.getElem?_eq_some_iff.1 hv).1
      unfold ccells at hv ⊢
      match i, hi, h6 with
      | 0, _, _ => exact hv
      | 1, _, _ => exact hv
      | 2, _, _ => exact hv
      | 3, _, _ => exact hv
      | 4, _, _ => exact hv
      | 5, _, _ => exact hv
      | 7, _, _ => exact hv
      | 8, _, _ => exact hv
      | 9, _, _ => exact hv
      | 10, _, _ => exact hv
      | 11, _, _ => exact hv
      | 12, _, _ => exact hv
      | 13, _, _ => exact hv
      | 14, _, _ => exact hv
      | 15, _, _ => exact hv
  have hch3 : Chg [b0] W2 W3 := by rw [hW3]; exact Chg.set1 W2 b0 6 _
  have hbx3 : BoxAt W3 (b0 + 1) := by
    obtain ⟨old, t, h1, h2⟩ := (HBX.out.nw hn2).row
    exact ⟨old, t, (hch3.block _ ((HBX.out.nw hn2).lt) (by simp)).trans h1, h2⟩
  have hst : (storeConf (.pointer (some ⟨b0 + 1, 0, none⟩)) (confV c')).run Tryz.prog W3 = .ok () (putConf W3 (b0 + 1) c') := run_storeConf hbx3
  have hcf := putConf_at (c := c') hbx3
  have hch4 := putConf_chg W3 (b0 + 1) c'
  have HW3 := Lib.hid hW3
  have HC' := Lib.hid hc'
  have HN2 := Lib.hid hn2
  have HOWN := Lib.hid hown
  have HCF := Lib.hid hcf
  have HCH3 := Lib.hid hch3
  have HCH4 := Lib.hid hch4
  unfold confV at hst
  clear k6 z6 hn2 hW3 hc' hown hcf hbx3 hch3 hch4
  go_upto_region 2 with (fail)
  rw [← HW3.out]
  go_wp2
  have hb := HB0.out
  have hsz := HNB.out.grown.size
  refine bodyPost_ret (v := confV c') (results_conf rfl rfl HCF.out) rfl ⟨c', rfl, ?_, ?_, ?_, ?_⟩
  · rw [HC'.out, HM.out]
  · have hlen : (cuts.take 70).length = m := by rw [List.length_take]; have := HM.out; have := HCN.out; omega
    have htk : cuts.take m = cuts.take 70 := by
      rcases Nat.le_total cuts.length 70 with h | h
      · rw [List.take_of_length_le h, List.take_of_length_le (by have := HM.out; have := HCN.out; omega)]
      · rw [show m = 70 by have := HM.out; have := HCN.out; omega]
    have h1 := HOWN.out
    rw [htk] at h1
    have hcA : c'.cA = A' := by rw [HC'.out]
    rw [hcA]
    have h2 : OwnN (putConf W3 (b0 + 1) c') Wb.heap.size (.slice A' m cp') (cuts.take 70) := by
      unfold OwnN at h1 ⊢
      refine own_chg h1 ((HCH3.out.le (Y := [b0, b0 + 1]) (by simp)).trans (HCH4.out.le (by simp))) (fun g hg => ?_)
      have := (World.ownsRow.lt h1 g hg).1
      have := HSZ.out
      simp; omega
    obtain ⟨A2, c2, e, h3, -⟩ := h2.form
    injection e with e1 e2 e3
    rw [e1]; exact h3
  · intro b o e
    have h1 := HOWN.out
    unfold OwnN at h1
    have h2 := (World.ownsRow.lt h1 b (by rw [HC'.out] at e; rw [show A' = some ⟨b, o, none⟩ from e]; rfl)).1
    omega
  · have := HB0.out
    exact nw_chg2 (HNB.out.trans HN2.out) ((HCH3.out.le (Y := [b0, b0 + 1]) (by simp)).trans (HCH4.out.le (by simp))) (fun k hk => by simp at hk; omega)
end Go.Proofs.YtfnapkfdocabcaaGreat
namespace Go.Proofs.YtfnapkfdocabcaaGreat
open Go.RowKit Go.Xt
/-! Equality of two lists of pairs. -/
set_option maxRecDepth 20000 in
set_option maxHeartbeats 4000000 in
theorem eqPairs_any (A B : Option Addr) (n m ca cb : Nat) (l k : List (Int × Int)) (w : World) (ha : Rd w 2 A n (pcells l)) (hb : Rd w 2 B m (pcells k)) (hn : n ≤ 1000000) (hm : m ≤ 1000000) :
    Calls Tryz.prog 13 #[.slice A n ca, .slice B m cb] w fun e w' => e = .returned (.bool (decide (l = k))) ∧ Nw w w' := by
  have hln : l.length = n := by have := ha.1; rw [pcells_len] at this; omega
  have hkm : k.length = m := by have := hb.1; rw [pcells_len] at this; omega
  by_cases hnm : n = m
  · subst hnm
    have d0 : ((n : Int) != (n : Int)) = false := by simp
    have HA := Lib.hid ha
    have HB := Lib.hid hb
    have HL := Lib.hid hln
    have HK := Lib.hid hkm
    have HN := Lib.hid hn
    clear ha hb hln hkm hm hn
    go_enter Tryz.func13, Tryz.ntmps13
    go_wp2_with fail
    go_loopw [5] (fun a wr => ∃ i : Nat, i ≤ n ∧ a = .int .i64 i ∧ Nw w wr ∧ Hid (l.take i = k.take i)) (fun a _ => n - (intOf a).toNat)
    case atStart => exact ⟨0, Nat.zero_le _, rfl, (by repeat (first | exact Xt.Nw.refl _ | refine Xt.Nw.drew ?_ | refine Xt.Nw.drewN ?_ _ | refine Xt.Nw.alloc ?_ _ | refine Xt.Nw.joined ?_ | refine Xt.Nw.drewd ?_ | refine Xt.Nw.drewdN ?_ | refine Xt.Nw.ext ?_ | refine Xt.Nw.ext_some ?_ (by assumption) | refine Xt.Nw.setCell ?_ (by simp [go_sem] <;> omega) _)), Lib.hid (by simp)⟩
    case round =>
      obtain ⟨i, hi, rfl, ⟨d, rfl⟩, HT⟩ := hrel
      by_cases hin : i < n
      · obtain ⟨ga, oa, rfl, hga, hca⟩ := HA.out.2 (by omega)
        obtain ⟨gb, ob, rfl, hgb, hcb⟩ := HB.out.2 (by omega)
        haveI : In ga w := ⟨hga⟩
        haveI : In gb w := ⟨hgb⟩
        obtain ⟨⟨x1, x2⟩, hx⟩ : ∃ x, l[i]? = some x := ⟨_, List.getElem?_eq_getElem (by have := HL.out; omega)⟩
        obtain ⟨⟨y1, y2⟩, hy⟩ : ∃ x, k[i]? = some x := ⟨_, List.getElem?_eq_getElem (by have := HK.out; omega)⟩
        obtain ⟨g0, g1⟩ := pcells_get l i _ hx
        obtain ⟨g2, g3⟩ := pcells_get k i _ hy
        have a0 : w.cell? ⟨ga, oa + i * 2, none⟩ = some (.int .u64 x1) := hca _ _ g0
        have a1 : w.cell? ⟨ga, oa + i * 2 + 1, none⟩ = some (.int .u64 x2) := by have := hca _ _ g1; rw [← Nat.add_assoc] at this; exact this
        have b0 : w.cell? ⟨gb, ob + i * 2, none⟩ = some (.int .u64 y1) := hcb _ _ g2
        have b1 : w.cell? ⟨gb, ob + i * 2 + 1, none⟩ = some (.int .u64 y2) := by have := hcb _ _ g3; rw [← Nat.add_assoc] at this; exact this
        have HX := Lib.hid hx
        have HY := Lib.hid hy
        have i1 : (i : Int) < (n : Int) := by omega
        have i0 : (0 : Int) ≤ (i : Int) := by omega
        have i2 : i < 1000000 := by have := HN.out; omega
        have HIN := Lib.hid hin
        clear hx hy g0 g1 g2 g3 hca hcb hin hi
        by_cases heq : x1 = y1 ∧ x2 = y2
        · obtain ⟨rfl, rfl⟩ := heq
          go_wp2_with fail
          go_region
          go_wp2
          refine ⟨⟨i + 1, by have := HIN.out; omega, by go_num, (by repeat (first | exact Xt.Nw.refl _ | refine Xt.Nw.drew ?_ | refine Xt.Nw.drewN ?_ _ | refine Xt.Nw.alloc ?_ _ | refine Xt.Nw.joined ?_ | refine Xt.Nw.drewd ?_ | refine Xt.Nw.drewdN ?_ | refine Xt.Nw.ext ?_ | refine Xt.Nw.ext_some ?_ (by assumption) | refine Xt.Nw.setCell ?_ (by simp [go_sem] <;> omega) _)), Lib.hid ?_⟩, by have := HIN.out; simp [intOf]; omega⟩
          obtain ⟨p1, p2⟩ := List.getElem?_eq_some_iff.1 HX.out
          obtain ⟨p3, p4⟩ := List.getElem?_eq_some_iff.1 HY.out
          rw [List.take_succ_eq_append_getElem p1, List.take_succ_eq_append_getElem p3, p2, p4, HT.out]
        · have e0 : (decide (x1 = y1) && decide (x2 = y2)) = false := by
            cases h1 : (decide (x1 = y1) && decide (x2 = y2)) with
            | false => rfl
            | true => exfalso; simp at h1; exact heq h1
          have hne : ¬ l = k := by
            intro h
            have hx := HX.out
            rw [h, HY.out] at hx
            simp at hx
            exact heq ⟨hx.1.symm, hx.2.symm⟩
          go_wp2_with fail
          go_region
          go_wp2
          go_ret
          refine ⟨?_, (by repeat (first | exact Xt.Nw.refl _ | refine Xt.Nw.drew ?_ | refine Xt.Nw.drewN ?_ _ | refine Xt.Nw.alloc ?_ _ | refine Xt.Nw.joined ?_ | refine Xt.Nw.drewd ?_ | refine Xt.Nw.drewdN ?_ | refine Xt.Nw.ext ?_ | refine Xt.Nw.ext_some ?_ (by assumption) | refine Xt.Nw.setCell ?_ (by simp [go_sem] <;> omega) _))⟩
          rw [decide_eq_false hne]; try rfl
      · have ei : i = n := by omega
        subst ei
        have hlk : l = k := by
          have h := HT.out
          rw [List.take_of_length_le (by have := HL.out; omega), List.take_of_length_le (by have := HK.out; omega)] at h
          exact h
        go_wp2_with fail
        go_ret
        refine ⟨?_, (by repeat (first | exact Xt.Nw.refl _ | refine Xt.Nw.drew ?_ | refine Xt.Nw.drewN ?_ _ | refine Xt.Nw.alloc ?_ _ | refine Xt.Nw.joined ?_ | refine Xt.Nw.drewd ?_ | refine Xt.Nw.drewdN ?_ | refine Xt.Nw.ext ?_ | refine Xt.Nw.ext_some ?_ (by assumption) | refine Xt.Nw.setCell ?_ (by simp [go_sem] <;> omega) _))⟩
        rw [decide_eq_true hlk]; try rfl
  · have d0 : ((n : Int) != (m : Int)) = true := by simp; omega
    have hne : ¬ l = k := by intro h; rw [h] at hln; omega
    clear ha hb hln hkm
    go_enter Tryz.func13, Tryz.ntmps13
    go_wp2
    go_ret
    refine ⟨?_, (by repeat (first | exact Xt.Nw.refl _ | refine Xt.Nw.drew ?_ | refine Xt.Nw.drewN ?_ _ | refine Xt.Nw.alloc ?_ _ | refine Xt.Nw.joined ?_ | refine Xt.Nw.drewd ?_ | refine Xt.Nw.drewdN ?_ | refine Xt.Nw.ext ?_ | refine Xt.Nw.ext_some ?_ (by assumption) | refine Xt.Nw.setCell ?_ (by simp [go_sem] <;> omega) _))⟩
    rw [decide_eq_false hne]; try rfl
end Go.Proofs.YtfnapkfdocabcaaGreat
namespace Go.Proofs.YtfnapkfdocabcaaGreat
open Go.RowKit Go.Xt
/-! The examples of the chapter, plain; what builds them. -/
def exC : Cf := ⟨2, 2, 2, 0, 2, 2, none, 0, 0, 4, 2, 0, 0, 0, 0, 2, 5, 0⟩
def exA : Cl := ⟨0, 0, 1, 0, 0, 0, 0, 0, 0, 0, 0, 0, 1, 0, false, 0, 0, 0⟩
def exB : Cl := ⟨1, 0, 1, 0, 0, 0, 0, 0, 0, 1, 1, 1, 1, 0, false, 0, 0, 0⟩
def exP (e : Int) : Cl := ⟨0, 1, 4, 5, 0, 50, 0, 0, 0, 2, 20, 24, 12, e, false, 0, 0, 0⟩
def exG (f : Bool) (v : Int) : Cl := ⟨1, 1, 3, 5, 0, 0, 0, 0, 0, 3, 23, 23, 9, 0, f, 0, v, 0⟩
def exV (e : Int) (f : Bool) (v : Int) : List Cl := [exA, exB, exP e, exG f v]
theorem ex_chk : wChk exC [] (exV 0 false 0) = (0, 0) := by decide +kernel
theorem ex_rds : wRds exC [] (exV 0 false 0) = (0, [-1, -1, -1, 3]) := by decide +kernel
theorem ex_at19 : wAt exC [] 19 (exV 0 false 0) = (0, []) := by decide +kernel
theorem ex_at20 : wAt exC [] 20 (exV 0 false 0) = (0, [(5, 50)]) := by decide +kernel
theorem ex_fin : wFin exC [] (exV 0 false 0) = (0, [(5, 50)]) := by decide +kernel
theorem ex_rds50 : wRds exC [] (exV 0 true 50) = (0, [-1, -1, -1, 20]) := by decide +kernel
theorem ex_chk51 : wChk exC [] (exV 0 true 51) = (3, 18) := by decide +kernel
theorem ex_chkR : wChk exC [] (exV 11 false 0) = (2, 18) := by decide +kernel
theorem exV_wf (e : Int) (f : Bool) (v : Int) (hv : 0 ≤ v ∧ v < 18446744073709551616) : ∀ y ∈ exV e f v, WfX y := by
  intro y hy
  simp only [exV, List.mem_cons, List.not_mem_nil, or_false] at hy
  rcases hy with rfl | rfl | rfl | rfl <;> exact ⟨⟨(by first | decide | simp [exP, exG, opC]), (by first | decide | simp [exP, exG, opC]), (by first | decide | simp [exP, exG, opC]), (by first | decide | simp [exP, exG, opC]), (by first | decide | simp [exP, exG, opC]), (by first | decide | simp [exP, exG, opC])⟩, ⟨(by first | decide | simp [exP, exG, opC]), (by first | decide | simp [exP, exG, opC]), (by first | decide | simp [exP, exG, opC]), (by first | decide | simp [exP, exG, opC]), (by first | decide | simp [exP, exG, opC]), (by first | decide | simp [exP, exG, opC]), (by first | decide | simp [exP, exG, opC])⟩, (by first | decide | simp [exP, exG, opC])⟩
/-- The order of a history of four, by the reads' steps. -/
theorem ex_ord {l : List Cl} {out : List Sta} {o z : List Nat} (h : WOrd out l o) (hp : z.Perm (idxK l l.length)) (hs : z.Pairwise fun i j => stI out l i < stI out l j ∨ (stI out l i = stI out l j ∧ rdI l i = false ∧ rdI l j = true)) : o = z := by
  have hns : ∀ x y, (stI out l x < stI out l y ∨ (stI out l x = stI out l y ∧ rdI l x = false ∧ rdI l y = true)) → ¬ (stI out l y < stI out l x ∨ (stI out l y = stI out l x ∧ rdI l y = false ∧ rdI l x = true)) := fun x y h => by
    rintro (q | ⟨q, q1, q2⟩)
    · rcases h with r | ⟨r, -⟩ <;> omega
    · rcases h with r | ⟨r, r1, r2⟩
      · omega
      · rw [r2] at q1; cases q1
  have hinj : ∀ i ∈ o, ∀ j ∈ o, stI out l i = stI out l j → rdI l i = rdI l j → i = j := fun i hi j hj e er => by
    have hi' := hp.mem_iff.2 (h.perm.mem_iff.1 hi)
    have hj' := hp.mem_iff.2 (h.perm.mem_iff.1 hj)
    obtain ⟨a, ha, ea⟩ := List.mem_iff_getElem.1 hi'
    obtain ⟨b, hb, eb⟩ := List.mem_iff_getElem.1 hj'
    have no : ∀ {x y}, stI out l x = stI out l y → rdI l x = rdI l y → ¬ (stI out l x < stI out l y ∨ (stI out l x = stI out l y ∧ rdI l x = false ∧ rdI l y = true)) := by
      rintro x y e1 e2 (q | ⟨-, q1, q2⟩)
      · omega
      · rw [e2, q2] at q1; cases q1
    rcases Nat.lt_trichotomy a b with q | q | q
    · have := List.pairwise_iff_getElem.1 hs a b ha hb q; rw [ea, eb] at this; exact absurd this (no e er)
    · subst q; rw [← ea, ← eb]
    · have := List.pairwise_iff_getElem.1 hs b a hb ha q; rw [ea, eb] at this; exact absurd this (no e.symm er.symm)
  have ho : o.Pairwise fun i j => stI out l i < stI out l j ∨ (stI out l i = stI out l j ∧ rdI l i = false ∧ rdI l j = true) := by
    rw [List.pairwise_iff_getElem]
    intro i j hi hj hij
    rcases List.pairwise_iff_getElem.1 h.sorted i j hi hj hij with q | ⟨q, q2⟩
    · exact .inl q
    · have hne : ¬ rdI l o[i] = rdI l o[j] := fun er => by
        have e := hinj _ (List.getElem_mem hi) _ (List.getElem_mem hj) q er
        have := (List.getElem_inj h.nodup).1 e
        omega
      refine .inr ⟨q, ?_⟩
      cases h1 : rdI l o[i] <;> cases h2 : rdI l o[j]
      · exact absurd (h1.trans h2.symm) hne
      · exact ⟨rfl, rfl⟩
      · rw [q2 h1] at h2; cases h2
      · exact absurd (h1.trans h2.symm) hne
  exact sorted_eq (fun x h => hns x x h h) hns ho hs fun x => by rw [h.perm.mem_iff, hp.mem_iff]
theorem ex_ok {l : List Cl} {r : List Int} (h : wRds exC [] l = (0, r)) : ∃ out, wX exC [] l = .ok out ∧ rdL out l = r := by
  unfold wRds at h
  cases hX : wX exC [] l with
  | error z =>
    rw [hX] at h
    simp only [Prod.mk.injEq] at h
    exact absurd h.1 (wX_err hX)
  | ok out =>
    rw [hX] at h
    simp only [Prod.mk.injEq] at h
    exact ⟨out, rfl, h.2⟩
theorem ex_order {w w' : World} {e : Ending} {f : Bool} {v s : Int} {z : List Nat} (hr : wRds exC [] (exV 0 f v) = (0, [-1, -1, -1, s])) (h0 : 0 ≤ s) (hp : z.Perm [0, 1, 2, 3]) (hs : z.Pairwise fun i j => [0, 1, 20, s].getD i 0 < [0, 1, 20, s].getD j 0 ∨ ([0, 1, 20, s].getD i 0 = [0, 1, 20, s].getD j 0 ∧ i ≠ 3 ∧ j = 3))
    (h : OrdP w exC [] (exV 0 f v) e w') : ∃ A c, e = .returned (.tuple #[.slice A z.length c, .int .i64 0]) ∧ Is w' A z.length (natI z) ∧ Nw w w' := by
  obtain ⟨out, hX, hR⟩ := ex_ok hr
  obtain ⟨hn, hm⟩ := h
  rw [hX] at hm
  have hrb : readB (exG f v) = true := by unfold readB exG; rfl
  have hex : explM out (exG f v) = s := by
    have h2 := congrArg (fun l => l.getD 3 0) hR
    simp only [rdL, exV, List.map_cons, List.map_nil, hrb, if_true] at h2
    exact h2
  have hb : badR out (exV 0 f v) 0 = none := (badR_none _ 0).2 fun x hx hr => by
    simp only [exV, List.mem_cons, List.not_mem_nil, or_false] at hx
    rcases hx with rfl | rfl | rfl | rfl
    · cases hr
    · cases hr
    · cases hr
    · rw [hex]; exact h0
  simp only [hb] at hm
  obtain ⟨v', o, he, hown, hord⟩ := hm
  have hst : ∀ i, i < 4 → stI out (exV 0 f v) i = [0, 1, 20, s].getD i 0 := fun i hi => by
    rcases (by omega : i = 0 ∨ i = 1 ∨ i = 2 ∨ i = 3) with rfl | rfl | rfl | rfl
    · rfl
    · rfl
    · rfl
    · show (if readB (exG f v) = true then explM out (exG f v) else (exG f v).took) = s
      rw [if_pos hrb, hex]
  have hrd : ∀ i, i < 4 → rdI (exV 0 f v) i = decide (i = 3) := fun i hi => by
    rcases (by omega : i = 0 ∨ i = 1 ∨ i = 2 ∨ i = 3) with rfl | rfl | rfl | rfl
    · rfl
    · rfl
    · rfl
    · exact hrb
  have e := ex_ord (z := z) hord hp (hs.imp_of_mem fun {i j} hi hj h => by
    have hi' : i < 4 := by have := (hp.mem_iff (a := i)).1 hi; simp at this; omega
    have hj' : j < 4 := by have := (hp.mem_iff (a := j)).1 hj; simp at this; omega
    rw [hst i hi', hst j hj', hrd i hi', hrd j hj']
    simpa using h)
  subst e
  obtain ⟨A, c, h1, h2⟩ := hown.form
  rw [natI_len] at h1 h2
  exact ⟨A, c, by rw [he, h1], h2, hn⟩
/-- The order of a history with an unexplained read. -/
theorem ex_order51 {w w' : World} {e : Ending} (h : OrdP w exC [] (exV 0 true 51) e w') : e = .returned (.tuple #[.slice none 0 0, .int .i64 18]) ∧ Nw w w' := by
  obtain ⟨out, hX, hR⟩ := ex_ok (r := [-1, -1, -1, -1]) (by decide +kernel : wRds exC [] (exV 0 true 51) = (0, [-1, -1, -1, -1]))
  obtain ⟨hn, hm⟩ := h
  rw [hX] at hm
  have hrb : readB (exG true 51) = true := rfl
  have hex : explM out (exG true 51) = -1 := by
    have h2 := congrArg (fun l => l.getD 3 0) hR
    simp only [rdL, exV, List.map_cons, List.map_nil, hrb, if_true] at h2
    exact h2
  obtain ⟨k, hk⟩ := badR_some (out := out) (l := exV 0 true 51) (i := 3) rfl hrb (by rw [hex]; decide)
  simp only [hk] at hm
  exact ⟨hm, hn⟩
@[go_sem] theorem run_build4 (w : World) (a b c d : Cl) : (buildCalls 4 #[(0, cv a), (1, cv b), (2, cv c), (3, cv d)]).run Tryz.prog w = .ok (.slice (some ⟨w.heap.size, 0, none⟩) 4 4) (w.alloc (.cells (cells [a, b, c, d]).toArray 46)) := run_build4' w a b c d
/-- A slice of calls just built. -/
theorem Cs_built (w : World) (l : List Cl) (t : TypeId) : Cs (w.alloc (.cells (cells l).toArray t)) (some ⟨w.heap.size, 0, none⟩) l.length l :=
  ⟨rfl, fun _ => ⟨_, 0, rfl, by simp, fun i c hc => AtC.of_range fun j u hu => by
    rw [World.cell?_alloc_new]
    have := cells_get l i c hc j u hu
    rw [show 0 + i * 18 + j = i * 18 + j by omega]
    simpa using this⟩⟩
theorem Is_built (w : World) (l : List Int) (cs : Array Value) (n : Nat) (t : TypeId) (hn : l.length = n) (h : cs.toList = ints l) : Is (w.alloc (.cells cs t)) (some ⟨w.heap.size, 0, none⟩) n l :=
  ⟨hn, fun _ => ⟨_, 0, rfl, by simp, fun i x hx => by
    rw [World.cell?_alloc_new, Nat.zero_add, ← Array.getElem?_toList, h, ints, List.getElem?_map, hx]; rfl⟩⟩
/-- A field of a call is written. -/
theorem Cs.setf {W : World} {b n i j off : Nat} {l : List Cl} {c c' : Cl} {v : Value} (h : Cs W (some ⟨b, 0, none⟩) n l) (hi : l[i]? = some c) (hj : j < 18) (hoff : off = i * 18 + j)
    (hc : (cl c') = (cl c).set j v) : Cs (W.setCell ⟨b, off, none⟩ v) (some ⟨b, 0, none⟩) n (l.set i c') := by
  subst hoff
  have hil : i < l.length := (List.getElem?_eq_some_iff.1 hi).1
  obtain ⟨b', o', e, hb, hcs⟩ := h.2 (by rw [← h.1]; omega)
  obtain ⟨rfl, rfl⟩ : b = b' ∧ 0 = o' := by simpa using e
  refine ⟨by rw [List.length_set]; exact h.1, fun _ => ⟨b, 0, rfl, by simpa using hb, fun k z hz => AtC.of_range fun q u hu => ?_⟩⟩
  have hq : q < 18 := (List.getElem?_eq_some_iff.1 hu).1
  rw [List.getElem?_set] at hz
  by_cases hk : i = k
  · subst hk
    rw [if_pos rfl, if_pos hil] at hz
    injection hz with hz
    subst hz
    have hr := (hcs i c hi).range
    rw [hc, List.getElem?_set] at hu
    by_cases hqj : j = q
    · subst hqj
      rw [if_pos rfl] at hu
      have hjl : j < (cl c).length := hj
      rw [if_pos hjl] at hu
      injection hu with hu
      subst hu
      have := hr j _ (List.getElem?_eq_getElem hjl)
      rw [show 0 + i * 18 + j = i * 18 + j by omega] at this ⊢
      exact World.cell?_setCell_same _ _ _ this
    · rw [if_neg hqj] at hu
      rw [World.cell?_setCell_other (h := by intro e; injection e with e1 e2; omega)]
      exact hr q u hu
  · rw [if_neg hk] at hz
    rw [World.cell?_setCell_other (h := by intro e; injection e with e1 e2; omega)]
    exact (hcs k z hz).range q u hu
set_option maxRecDepth 20000 in
set_option maxHeartbeats 2000000 in
theorem config_any (w : World) : Calls Tryz.prog 27 #[] w fun e w' => e = .returned (confV exC) ∧ Nw w w' := by
  obtain ⟨b0, hb0⟩ : ∃ b, b = w.heap.size := ⟨_, rfl⟩
  obtain ⟨Wb, hWb⟩ : ∃ W, W = w.alloc (.cells #[.int .i64 0, .int .i64 0, .int .u8 0, .int .i64 0, .int .u8 0, .int .i64 0, .slice none 0 0, .int .i64 0, .int .i64 0, .int .i64 0, .int .i64 0, .int .i64 0, .int .i64 0, .int .i64 0, .int .i64 0, .int .i64 0] 27) := ⟨_, rfl⟩
  have hnb : Nw w Wb := by rw [hWb]; exact (by repeat (first | exact Xt.Nw.refl _ | refine Xt.Nw.drew ?_ | refine Xt.Nw.drewN ?_ _ | refine Xt.Nw.alloc ?_ _ | refine Xt.Nw.joined ?_ | refine Xt.Nw.drewd ?_ | refine Xt.Nw.drewdN ?_ | refine Xt.Nw.ext ?_ | refine Xt.Nw.ext_some ?_ (by assumption) | refine Xt.Nw.setCell ?_ (by simp [go_sem] <;> omega) _))
  have hbx : BoxAt Wb b0 := ⟨_, _, by rw [hWb, hb0]; exact heap_alloc_new w _, rfl⟩
  have hst : (storeConf (.pointer (some ⟨b0, 0, none⟩)) (.agg #[.int .i64 2, .int .i64 2, .int .u8 2, .int .i64 0, .int .u8 2, .int .i64 2, .slice none 0 0, .int .i64 4, .int .i64 2, .int .i64 0, .int .i64 0, .int .i64 0, .int .i64 0, .int .i64 2, .int .i64 5, .int .i64 0])).run Tryz.prog Wb = .ok () (putConf Wb b0 exC) := run_storeConf (c := exC) hbx
  have HCF := Lib.hid (putConf_at (c := exC) hbx)
  have HCH := Lib.hid (putConf_chg Wb b0 exC)
  have HWB := Lib.hid hWb
  have HNB := Lib.hid hnb
  have HB0 := Lib.hid hb0
  clear hWb hnb hb0 hbx
  go_enter Tryz.func27, Tryz.ntmps27
  go_upto_region 1 with (fail)
  rw [← HWB.out, ← HB0.out]
  go_wp2
  refine bodyPost_ret (v := confV exC) (results_conf rfl rfl HCF.out) rfl ⟨rfl, nw_chg2 HNB.out HCH.out (fun k hk => ?_)⟩
  have := HB0.out
  simp at hk; omega
set_option maxRecDepth 20000 in
set_option maxHeartbeats 2000000 in
theorem example_any (w : World) : Calls Tryz.prog 26 #[] w fun e w' => e = .returned (.slice (some ⟨w.heap.size, 0, none⟩) 4 4) ∧ Cs w' (some ⟨w.heap.size, 0, none⟩) 4 (exV 0 false 0) ∧ (∀ i, w'.frozen? ⟨w.heap.size, i, none⟩ = false) ∧ Nw w w' := by
  have h4 := run_build4 w exA exB (exP 0) (exG false 0)
  have hcs := Cs_built w (exV 0 false 0) 46
  obtain ⟨L, hL⟩ : ∃ L, L = (cells (exV 0 false 0)).toArray := ⟨_, rfl⟩
  rw [show (cells [exA, exB, exP 0, exG false 0]).toArray = L from hL.symm] at h4
  rw [← hL] at hcs
  have HC := Lib.hid hcs
  simp only [cv, exA, exB, exP, exG] at h4
  clear hcs hL
  go_enter Tryz.func26, Tryz.ntmps26
  go_wp2
  go_ret
  exact ⟨rfl, HC.out, fun i => by simp [go_sem], (by repeat (first | exact Xt.Nw.refl _ | refine Xt.Nw.drew ?_ | refine Xt.Nw.drewN ?_ _ | refine Xt.Nw.alloc ?_ _ | refine Xt.Nw.joined ?_ | refine Xt.Nw.drewd ?_ | refine Xt.Nw.drewdN ?_ | refine Xt.Nw.ext ?_ | refine Xt.Nw.ext_some ?_ (by assumption) | refine Xt.Nw.setCell ?_ (by simp [go_sem] <;> omega) _))⟩
end Go.Proofs.YtfnapkfdocabcaaGreat
