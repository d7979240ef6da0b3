import Derived.Test.YtmbjpjpdcmjjgaaGreatDoorGNi
set_option linter.unusedVariables false
set_option linter.unusedSimpArgs false
set_option linter.unnecessarySimpa false
namespace Go.Proofs.YtmbjpjpdcmjjgaaGreatDoor
open Go.RowKit Go.Xt Go.Shelf Go.Sort
theorem callAt_sort {α : Type} [Inhabited α] (enc : α → Value) (w : World) (g m : Nat) (d : Array α) (os : Array Obj) {b o : Nat} {x : Cl} (h : CallAt w b o x) (hb : b ≠ g) : CallAt (sortWorld enc w g 0 m d os) b o x := by
  have hs : w.heap.size ≤ (sortWorld enc w g 0 m d os).heap.size := by
    unfold sortWorld
    rw [size_grow, size_putRow]
    exact Nat.le_add_right _ _
  refine ⟨?_, Nat.lt_of_lt_of_le h.lt hs⟩
  have hc : ∀ t, (sortWorld enc w g 0 m d os).cell? ⟨b, t, none⟩ = w.cell? ⟨b, t, none⟩ := fun t => by
    show (grow (putRow enc (Sort.ahead w m) g 0 d) os).cell? _ = _
    rw [cell?_grow _ _ _ (by simpa [putRow, mapBlock, Sort.ahead] using h.lt), cell?_putRow_other _ _ g 0 d _ (.inl hb)]
    rfl
  have ha := h.at_
  unfold AtC at ha ⊢
  simp only [hc]
  exact ha
theorem stF_stI {out : List Sta} {l : List Cl} {i : Nat} {x : Cl} (hx : l[i]? = some x) (h0 : 0 ≤ x.took) : stF out x = stI out l i := by
  unfold stF stI
  rw [hx]
  simp only
  split
  · rfl
  · simp [h0]
set_option maxRecDepth 20000 in
set_option maxHeartbeats 4000000 in
theorem sssf_any {α : Type} [Inhabited α] (val : α → Int) (cf : α → α → Int) (hS : SWO (ltOf cf)) (g : Nat) (cb : Array Value) (blk off cap n : Nat) (d : Array α) (w : World)
    (eg : ∀ args w, (callFunc g args).run Tryz.prog w = .ok (.enter g args) w) (hcmp : CmpLays1 Tryz.prog g cb (iv val) cf blk off d.size w) (R : Row1 (iv val) w blk off d) (hd : d.size = n) (hn : n < 40) :
    Calls Tryz.prog 27 #[.slice (some ⟨blk, off, none⟩) n cap, .func (.func g) #[] cb] w fun e w' => e = .returned (.tuple #[]) ∧ SoL (iv val) cf blk off d w w' := by
  have HS := Lib.hid (stable_40 val cf hS g cb blk off cap n d w eg hcmp R hd hn)
  clear R hcmp eg
  go_enter Tryz.func27, Tryz.ntmps27
  go_wp2_with fail
  refine HS.out.mono ?_
  rintro e w' ⟨rfl, h⟩
  have H := Lib.hid h
  clear h
  go_wp2_with fail
  go_end0
  exact ⟨rfl, H.out⟩
theorem sssf_none (p : Option Addr) (cap : Nat) (fv : Value) (w : World) :
    Calls Tryz.prog 27 #[.slice p 0 cap, fv] w fun e w' => e = .returned (.tuple #[]) ∧ w' = w := by
  have HS := Lib.hid (stable_none p cap fv w)
  go_enter Tryz.func27, Tryz.ntmps27
  go_wp2_with fail
  refine HS.out.mono ?_
  rintro e w' ⟨rfl, rfl⟩
  go_wp2_with fail
  go_end0
  exact ⟨rfl, rfl⟩
theorem sortO_any (out : List Sta) (l : List Cl) (base g m cap B6 B3 bs cs b o n c : Nat) (xs : List Nat) (w : World) (hn : n ≤ 1000) (hl : Cs w (some ⟨b, o, none⟩) n l)
    (hxs : ∀ i ∈ xs, ∃ x, l[i]? = some x ∧ 0 ≤ x.took) (hm : xs.length = m) (hm1 : m < 40)
    (hB6 : w.cell? ⟨B6, 0, none⟩ = some (.slice (some ⟨bs, 0, none⟩) n cs)) (hB3 : w.cell? ⟨B3, 0, none⟩ = some (.slice (some ⟨b, o, none⟩) n c))
    (hst : ∀ i x, l[i]? = some x → w.cell? ⟨bs, i, none⟩ = some (.int .i64 (stF out x))) (hbd : ∀ i x, l[i]? = some x → 0 ≤ x.took → 0 ≤ stI out l i ∧ stI out l i ≤ 9223372036854775807)
    (h6 : B6 ≠ g) (h3 : B3 ≠ g) (hs : bs ≠ g) (hb : b ≠ g) (A : Option Addr) (hown : w.ownsRow base 3 1 (.slice A m cap) m (ints (xs.map fun i : Nat => (i : Int)))) (hA : A = some ⟨g, 0, none⟩ ∨ m = 0) :
    Calls Tryz.prog 27 #[.slice A m cap, .func (.func 28) #[] #[.pointer (some ⟨B6, 0, none⟩), .pointer (some ⟨B3, 0, none⟩)]] w fun e w' => e = .returned (.tuple #[]) ∧
      ∃ ys : List Nat, ys.Perm xs ∧ ys.Pairwise (fun i j => stI out l i < stI out l j ∨ (stI out l i = stI out l j ∧ (rdI l i = true → rdI l j = true))) ∧ w'.ownsRow base 3 1 (.slice A m cap) m (ints (ys.map fun i : Nat => (i : Int))) ∧ Chg (Value.slice A m cap).ownBlock.toList w w' := by
  by_cases hm0 : m = 0
  · subst hm0
    obtain rfl : xs = [] := List.length_eq_zero_iff.1 hm
    refine (sssf_none A cap _ w).mono ?_
    rintro e w' ⟨rfl, rfl⟩
    exact ⟨rfl, [], List.Perm.refl _, List.Pairwise.nil, hown, Chg.of_nw (Nw.refl _)⟩
  obtain rfl : A = some ⟨g, 0, none⟩ := hA.resolve_right hm0
  obtain ⟨zs, hzs⟩ : ∃ zs : List (IxO l), zs.map (·.1) = xs := ⟨xs.attach.map fun i => ⟨i.1, hxs i.1 i.2⟩, by simp⟩
  haveI : Inhabited (IxO l) := ⟨by
    cases hzs' : zs with
    | nil => exact absurd (by rw [← hm, ← hzs, hzs']; rfl) hm0
    | cons a _ => exact a⟩
  have hal : zs.length = m := by rw [← hm, ← hzs, List.length_map]
  have heq : ints (xs.map fun i : Nat => (i : Int)) = zs.map encO := by rw [← hzs]; simp [ints, encO]
  rw [heq] at hown
  have eg : ∀ args w, (callFunc 28 args).run Tryz.prog w = .ok (.enter 28 args) w := enters_of Tryz.func28 (by kernel_rfl) rfl
  have hg : g < w.heap.size := (hown.lt g rfl).2
  have hB6b := World.block_lt_of_cell? w _ hB6
  have hB3b := World.block_lt_of_cell? w _ hB3
  have hH : Holds encO w g 0 zs.toArray := fun j hj => by
    have hj' : j < m := by simpa [hal] using hj
    rw [Nat.zero_add]
    refine ⟨?_, hown.frozenAt j⟩
    rw [hown.cellAt j (by omega), List.getElem?_map]
    simp at hj
    rw [getElem!_pos _ _ (by simpa using hj)]
    simp [hj]
  have hcmp : CmpLays1 Tryz.prog 28 #[.pointer (some ⟨B6, 0, none⟩), .pointer (some ⟨B3, 0, none⟩)] encO (cfO out (l := l)) g 0 zs.toArray.size w := by
    intro q os dk hsz x y
    obtain ⟨i, xi, hi, hi0⟩ := x
    obtain ⟨j, xj, hj, hj0⟩ := y
    have hil : i < n := by rw [← hl.1]; exact (List.getElem?_eq_some_iff.1 hi).1
    have hjl : j < n := by rw [← hl.1]; exact (List.getElem?_eq_some_iff.1 hj).1
    obtain ⟨b', o', e, hbw, hc⟩ := hl.2 (by omega)
    obtain ⟨rfl, rfl⟩ : b = b' ∧ o = o' := by simpa using e
    have ci := hst i xi hi
    have cj := hst j xj hj
    rw [stF_stI hi hi0] at ci
    rw [stF_stI hj hj0] at cj
    have hbs := World.block_lt_of_cell? w _ ci
    have hbs2 := World.block_lt_of_cell? w _ cj
    have bi := hbd i xi hi hi0
    have bj := hbd j xj hj hj0
    have hc1 := ordcl_any (sortWorld encO w g 0 q dk os) B6 B3 bs 0 cs b o n c i j (stI out l i) (stI out l j) xi xj ((cell_sort _ _ _ _ _ _ _ h6 hB6b).trans hB6) ((cell_sort _ _ _ _ _ _ _ h3 hB3b).trans hB3) hil hjl (by omega)
      (by rw [Nat.zero_add]; exact (cell_sort _ _ _ _ _ _ _ hs hbs).trans ci) (by rw [Nat.zero_add]; exact (cell_sort _ _ _ _ _ _ _ hs hbs2).trans cj)
      (callAt_sort _ _ _ _ _ _ ⟨hc i xi hi, hbw⟩ hb) (callAt_sort _ _ _ _ _ _ ⟨hc j xj hj, hbw⟩ hb) bi.1 bi.2 bj.1 bj.2
    have e1 : cfO out (l := l) ⟨i, xi, hi, hi0⟩ ⟨j, xj, hj, hj0⟩ = cfW (stI out l i) (stI out l j) (readB xi) (readB xj) := by simp only [cfO, rdI, hi, hj]
    rw [e1]
    exact hc1
  have hcon : Calls Tryz.prog 27 #[.slice (some ⟨g, 0, none⟩) m cap, .func (.func 28) #[] #[.pointer (some ⟨B6, 0, none⟩), .pointer (some ⟨B3, 0, none⟩)]] w fun e w' => e = .returned (.tuple #[]) ∧ SoL encO (cfO out (l := l)) g 0 zs.toArray w w' :=
    sssf_any (fun i : IxO l => (i.1 : Int)) (cfO out (l := l)) (swoO out) 28 #[.pointer (some ⟨B6, 0, none⟩), .pointer (some ⟨B3, 0, none⟩)] g 0 cap m zs.toArray w eg hcmp ⟨fun _ => rfl, hH, hg⟩ (by simpa using hal) hm1
  refine hcon.mono ?_
  rintro e w' ⟨rfl, d', hsz, hp, hs', hsw⟩
  obtain ⟨k, os, rfl⟩ := hsw
  have hzz : zs.toArray.size = m := by simpa using hal
  have hd : d'.size = m := by omega
  obtain ⟨o1, o2⟩ := own_of_sort1 (enc := encO) hown k d' os hd
  have hperm : d'.toList.Perm zs := by
    have h3 := hp.2.2
    have e1 : d'.extract 0 zs.toArray.size = d' := by rw [hzz, ← hd]; exact Array.extract_size
    have e2 : zs.toArray.extract 0 zs.toArray.size = zs.toArray := Array.extract_size
    rw [e1, e2] at h3
    exact h3
  refine ⟨rfl, d'.toList.map (·.1), ?_, ?_, ?_, Chg.of_grownBy o2⟩
  · rw [← hzs]; exact hperm.map _
  · rw [List.pairwise_map, List.pairwise_iff_getElem]
    intro i j hi hj hij
    have hj' : j < d'.size := by simpa using hj
    have h4 := hs' i j (Nat.zero_le _) hij (by omega)
    rw [getElem!_pos d' j hj', getElem!_pos d' i (by omega)] at h4
    simp only [Array.getElem_toList]
    exact nlt_ord h4
  · have e3 : ints ((d'.toList.map (·.1)).map fun i : Nat => (i : Int)) = d'.toList.map encO := by simp [ints, encO]
    rw [e3]; exact o1
end Go.Proofs.YtmbjpjpdcmjjgaaGreatDoor
namespace Go.Proofs.YtmbjpjpdcmjjgaaGreatDoor
open Go.RowKit Go.Xt
/-! Order. -/
def OrdP (w : World) (c : Cf) (cuts : List Nat) (l : List Cl) (e : Ending) (w' : World) : Prop := Nw w w' ∧ match wX c cuts l with
  | .error z => e = .returned (.tuple #[.slice none 0 0, .int .i64 z.2])
  | .ok out => match badR out l 0 with
    | some _ => e = .returned (.tuple #[.slice none 0 0, .int .i64 18])
    | none => ∃ v o, e = .returned (.tuple #[v, .int .i64 0]) ∧ OwnI w' w.heap.size v (natI o) ∧ WOrd out l o
theorem wX_maps {c : Cf} {cuts : List Nat} {l : List Cl} {out : List Sta} (h : wX c cuts l = .ok out) : bad l = none ∧ Maps out := by
  obtain ⟨-, hb, hm⟩ := wX_ok h
  have hsp := mapsX_spec hb (s := s1M c) rfl
  rw [hm] at hsp
  exact ⟨hb, hsp.1⟩
theorem badR_some {out : List Sta} {l : List Cl} {i : Nat} {x : Cl} (hx : l[i]? = some x) (hr : readB x = true) (h : explM out x < 0) : ∃ k, badR out l 0 = some k := by
  cases hb : badR out l 0 with
  | some k => exact ⟨k, rfl⟩
  | none => have := (badR_none l 0).1 hb x (List.mem_of_getElem? hx) hr; omega
structure OSt (w WL : World) (out : List Sta) (l : List Cl) (As : Option Addr) (n cs k : Nat) (v : Value) (wr : World) : Prop where
  chg : Chg (Value.slice As n cs).ownBlock.toList WL wr
  st : wr.ownsRow w.heap.size 3 1 (.slice As n cs) n (ints (stK out l k))
  row : OwnI wr WL.heap.size v (natI (idxK l k))
  good : ∀ i x, i < k → l[i]? = some x → readB x = true → 0 ≤ explM out x
theorem box_took {W3 W4 : World} {q : Nat} {x : Cl} (hn : Nw W3 W4) [h : CallAt W3 q 0 x] : W4.cell? ⟨q, 10, none⟩ = some (.int .i64 x.took) := by
  obtain ⟨_, _, _, _, _, _, _, _, _, _, c10, _⟩ := h.at_
  exact cell_nw (by simpa using c10) hn
theorem OSt.push {w WL wr W5 wA : World} {out : List Sta} {l : List Cl} {gs n cs k : Nat} {v v2 : Value} {x : Cl} (h : OSt w WL out l (some ⟨gs, 0, none⟩) n cs k v wr) (hgs : gs < WL.heap.size) (hx : l[k]? = some x) (hg : readB x = true → 0 ≤ explM out x) (h5 : Chg [gs] wr W5)
    (st5 : W5.ownsRow w.heap.size 3 1 (.slice (some ⟨gs, 0, none⟩) n cs) n (ints (stK out l (k + 1)))) (hcA : Chg v.ownBlock.toList W5 wA) (hrow : OwnI wA WL.heap.size v2 (natI (idxK l (k + 1)))) : OSt w WL out l (some ⟨gs, 0, none⟩) n cs (k + 1) v2 wA :=
  ⟨(h.chg.trans h5).then hcA (fun y hy => .inr (h.row.lt y (by simpa using hy)).1), own_chg st5 hcA (fun g' hg' hm => by
    obtain rfl : gs = g' := by simpa [Value.ownBlock] using hg'
    have := (h.row.lt gs (by simpa using hm)).1
    omega), hrow, fun i y hi hy hr => by
    rcases Nat.lt_succ_iff_lt_or_eq.1 hi with h1 | rfl
    · exact h.good i y h1 hy hr
    · rw [hx] at hy; injection hy with hy; subst hy; exact hg hr⟩
theorem OSt.skip {w WL wr W4 : World} {out : List Sta} {l : List Cl} {As : Option Addr} {n cs k : Nat} {v : Value} {x : Cl} (h : OSt w WL out l As n cs k v wr) (hx : l[k]? = some x) (hr : readB x = false) (ht : ¬ 0 ≤ x.took) (hn : Nw wr W4) : OSt w WL out l As n cs (k + 1) v W4 :=
  ⟨h.chg.trans (Chg.of_nw hn), by rw [stK_same hx (by unfold stF rdF; simp [hr, ht])]; exact own_nw h.st hn, by rw [idxK_succ hx, if_neg ht, List.append_nil]; exact own_nw h.row hn, fun i y hi hy hr2 => by
    rcases Nat.lt_succ_iff_lt_or_eq.1 hi with h1 | rfl
    · exact h.good i y h1 hy hr2
    · rw [hx] at hy; injection hy with hy; subst hy; rw [hr] at hr2; cases hr2⟩
theorem nwC {w a b : World} {X : List Nat} (h : Nw w a) (hc : Chg X a b) (hx : ∀ k ∈ X, w.heap.size ≤ k) : Nw w b := by
  have hg : w.grownBy b none := ⟨hc.os.trans h.grown.os, hc.tape.trans h.grown.tape, hc.output.trans h.grown.output, Nat.le_trans h.grown.size hc.size, fun k hk hne => (hc.block k (Nat.lt_of_lt_of_le hk h.grown.size) (fun e => by have := hx k e; omega)).trans (h.grown.block k hk hne)⟩
  exact ⟨b, by unfold World.ext; rw [if_pos hg]⟩
theorem osort_any {w WL wr : World} {out : List Sta} {l : List Cl} {As A Ar : Option Addr} {n cs nr cr cap B6 B3 : Nat} (h : OSt w WL out l As n cs n (.slice Ar nr cr) wr) (hb : bad l = none) (hM : Maps out) (hwf : ∀ y ∈ l, WfX y) (hn : n ≤ 39) (hC : Cs WL A n l)
    (h6 : WL.cell? ⟨B6, 0, none⟩ = some (.slice As n cs)) (h3 : WL.cell? ⟨B3, 0, none⟩ = some (.slice A n cap)) (hB : ∀ g, (Value.slice As n cs).ownBlock = some g → w.heap.size ≤ g ∧ g ≠ B6 ∧ g ≠ B3 ∧ g < WL.heap.size ∧ (0 < n → ∀ b o, A = some ⟨b, o, none⟩ → b ≠ g)) (hw : Nw w WL) :
    Calls Tryz.prog 27 #[.slice Ar nr cr, .func (.func 28) #[] #[.pointer (some ⟨B6, 0, none⟩), .pointer (some ⟨B3, 0, none⟩)]] wr fun e w' => e = .returned (.tuple #[]) ∧
      ∃ ys, OwnI w' w.heap.size (.slice Ar nr cr) (natI ys) ∧ WOrd out l ys ∧ badR out l 0 = none ∧ Nw w w' := by
  have hln : l.length = n := hC.1
  have hR : badR out l 0 = none := (badR_none l 0).2 fun x hx hr => by
    obtain ⟨i, hi⟩ := List.mem_iff_getElem?.1 hx
    exact h.good i x (by rw [← hln]; exact (List.getElem?_eq_some_iff.1 hi).1) hi hr
  have hrow := h.row
  have hnr : (idxK l n).length = nr := by
    obtain ⟨A', c', e, -⟩ := OwnI.form hrow
    injection e with _ e2 _
    rw [e2]; simp [natI]
  have hwr : Nw w wr := nwC hw h.chg (fun k hk => (hB k (by simpa using hk)).1)
  have hrow2 : wr.ownsRow WL.heap.size 3 1 (.slice Ar nr cr) nr (ints ((idxK l n).map fun i : Nat => (i : Int))) := by
    unfold OwnI at hrow
    have e : (natI (idxK l n)).length = nr := by rw [← hnr]; simp [natI]
    rw [e] at hrow
    exact hrow
  have hfin : ∀ w' (ys : List Nat), ys.Perm (idxK l n) → ys.Pairwise (fun i j => stI out l i < stI out l j ∨ (stI out l i = stI out l j ∧ (rdI l i = true → rdI l j = true))) → w'.ownsRow WL.heap.size 3 1 (.slice Ar nr cr) nr (ints (ys.map fun i : Nat => (i : Int))) → Chg (Value.slice Ar nr cr).ownBlock.toList wr w' →
      ∃ ys, OwnI w' w.heap.size (.slice Ar nr cr) (natI ys) ∧ WOrd out l ys ∧ badR out l 0 = none ∧ Nw w w' := fun w' ys hp hs ho hc => by
    refine ⟨ys, ?_, ⟨by rw [hln]; exact hp, hs⟩, hR, nwC hwr hc fun k hk => ?_⟩
    · have e : (natI ys).length = nr := by rw [← hnr, ← hp.length_eq]; simp [natI]
      unfold OwnI
      rw [e]
      exact own_le ho hw.grown.size
    · have := (hrow2.lt k (by simpa using hk)).1
      have := hw.grown.size
      omega
  by_cases h0 : nr = 0
  · subst h0
    refine (sssf_none Ar cr _ wr).mono ?_
    rintro e w' ⟨rfl, rfl⟩
    have hx : idxK l n = [] := List.length_eq_zero_iff.1 hnr
    refine ⟨rfl, hfin w' [] (by rw [hx]) List.Pairwise.nil ?_ (Chg.of_nw (Nw.refl _))⟩
    rw [hx] at hrow2
    exact hrow2
  · have hnp : 0 < n := by
      rcases Nat.eq_zero_or_pos n with hz | hz
      · subst hz; exact absurd (by rw [← hnr]; rfl) h0
      · exact hz
    obtain ⟨gs, rfl⟩ : ∃ gs, As = some ⟨gs, 0, none⟩ := by
      rcases h.st.2 with ⟨h1, -⟩ | ⟨g, cap', cur, h1, -⟩
      · injection h1 with _ h2 _; omega
      · injection h1 with h1 _ _; exact ⟨g, h1⟩
    obtain ⟨g, rfl⟩ : ∃ g, Ar = some ⟨g, 0, none⟩ := by
      rcases hrow2.2 with ⟨h1, -⟩ | ⟨g, cap', cur, h1, -⟩
      · injection h1 with _ h2 _; omega
      · injection h1 with h1 _ _; exact ⟨g, h1⟩
    obtain ⟨b, o, x0, rfl, hbl, -, -⟩ := hC.get hnp
    obtain ⟨hg1, hg6, hg3, hgl, hgb⟩ := hB gs rfl
    have hgr := (hrow2.lt g rfl).1
    have hB6 := World.block_lt_of_cell? WL _ h6
    have hB3 := World.block_lt_of_cell? WL _ h3
    simp only at hB6 hB3
    have hb' := hgb hnp b o rfl
    have hx : Chg [gs] WL wr := h.chg
    have hl2 : Cs wr (some ⟨b, o, none⟩) n l := Cs.chg hC hx (fun b' o' e => by cases e; simp; exact hb')
    refine (sortO_any out l WL.heap.size g nr cr B6 B3 gs cs b o n cap (idxK l n) wr (by omega) hl2 (fun i hi => ((idxK_mem l n i).1 hi).2) hnr (by rw [← hnr]; have := (idxK_nodup l n).length_le_of_subset (l₂ := List.range n) (fun i hi => List.mem_range.2 ((idxK_mem l n i).1 hi).1); simp at this; omega)
      (hx.cell h6 (by simp; omega)) (hx.cell h3 (by simp; omega)) (fun i x hi => ?_) (fun i x hi h0 => ?_) (by omega) (by omega) (by omega) (by omega) _ hrow2 (.inl rfl)).mono ?_
    · have hil : i < n := by rw [← hln]; exact (List.getElem?_eq_some_iff.1 hi).1
      rw [World.ownsRow.cellAt h.st i (by omega)]
      have e : stK out l n = l.map (stF out) := by rw [← hln]; exact stK_end out l
      rw [e]
      simp [ints, hi]
    · have h1 := stI_in hb hM hR hi h0
      have h2 := inv_nonneg hb hi
      have hw2 := (hwf x (List.mem_of_getElem? hi)).wf
      refine ⟨by omega, ?_⟩
      by_cases ha : 0 ≤ x.ans
      · have := h1.2 ha; have := hw2.ans; omega
      · have e : readB x = false := by unfold readB; simp [ha]
        unfold stI
        rw [hi]
        simp only [e]
        have := hw2.took
        simp
        omega
    · rintro e w' ⟨rfl, ys, hp, hs, ho, hc⟩
      exact ⟨rfl, hfin w' ys hp hs ho hc⟩
set_option maxRecDepth 20000 in
set_option maxHeartbeats 8000000 in
theorem worder_any {w : World} {c : Cf} {cuts : List Nat} {A : Option Addr} {n cap : Nat} {l : List Cl} (hi : In3 w c cuts A n cap l) (hn20 : n ≤ 39) :
    Calls Tryz.prog 12 #[confV c, .slice A n cap] w (OrdP w c cuts l) := by
  have HS := Lib.hid (fun W (hq : Nw w W) => wreads_any (hi.nw hq))
  have HE := Lib.hid (fun z (h : wX c cuts l = .error z) => wX_err h)
  have HM := Lib.hid (fun out (h : wX c cuts l = .ok out) => wX_maps h)
  have HI := Lib.hid hi
  have HN20 := Lib.hid hn20
  obtain ⟨r, hr⟩ : ∃ r, r = wRds c cuts l := ⟨_, rfl⟩
  unfold OrdP
  rw [← hr] at HS
  unfold wRds at hr
  obtain ⟨X, hX⟩ : ∃ X, X = wX c cuts l := ⟨_, rfl⟩
  rw [← hX] at HE HM hr ⊢
  obtain ⟨OrQ, hOr⟩ : ∃ Q : Ending → World → Prop, Q = fun e w' => Nw w w' ∧ match X with
    | .error z => e = .returned (.tuple #[.slice none 0 0, .int .i64 z.2])
    | .ok out => match badR out l 0 with
      | some _ => e = .returned (.tuple #[.slice none 0 0, .int .i64 18])
      | none => ∃ v o, e = .returned (.tuple #[v, .int .i64 0]) ∧ OwnI w' w.heap.size v (natI o) ∧ WOrd out l o := ⟨_, rfl⟩
  rw [← hOr]
  have HOR := Lib.hid hOr
  unfold confV at HS ⊢
  haveI hca : ConfAt (w.alloc (cellsOf c 27)) w.heap.size c := ⟨fun i v hv => by unfold cellsOf; unfold ccells at hv; rw [World.cell?_alloc_new]; simpa using hv, by simp⟩
  obtain ⟨Wc, hWc⟩ : ∃ W, W = w.alloc (cellsOf c 27) := ⟨_, rfl⟩
  rw [← hWc] at hca
  have hsc : Wc.heap.size = w.heap.size + 1 := by rw [hWc]; simp
  have hnc : Nw w Wc := by rw [hWc]; exact nwa
  unfold cellsOf at hWc
  obtain ⟨W1, hW1⟩ : ∃ W, W = Wc.alloc (.cells #[.slice A n cap] 28) := ⟨_, rfl⟩
  have hca1 : ConfAt W1 w.heap.size c := by rw [hW1]; infer_instance
  have h3 : W1.cell? ⟨w.heap.size + 1, 0, none⟩ = some (.slice A n cap) := by rw [hW1, ← hsc, World.cell?_alloc_new]; rfl
  have hn1 : Nw w W1 := by rw [hW1]; exact hnc.alloc _
  have HW1 := Lib.hid (show W1 = (w.alloc _).alloc _ from hWc ▸ hW1)
  have HN1 := Lib.hid hn1
  have i3 := World.block_lt_of_cell? W1 _ h3
  haveI : In w.heap.size W1 := ⟨hca1.lt⟩
  haveI : In (w.heap.size + 1) W1 := ⟨i3⟩
  have HI3 := Lib.hid i3
  clear hW1 hn1 hi hX hca hWc hsc hnc hOr hn20 i3
  go_enter Tryz.func12, Tryz.ntmps12
  go_upto_region 1 with (fail)
  rw [← HW1.out]
  go_wp2_with fail
  refine (HS.out W1 HN1.out).mono ?_
  intro e W2 hP
  unfold ReadsP at hP
  obtain ⟨v, rfl, hown, hn2⟩ := hP
  cases X with
  | error z =>
    simp only at hr
    obtain ⟨z1, z2⟩ := z
    have hne : (z2 != 0) = true := by simpa using HE.out (z1, z2) rfl
    subst hr
    obtain ⟨As, cs, rfl, -⟩ := OwnI.form hown
    have HN2 := Lib.hid hn2
    clear hn2 hown
    go_wp2
    rw [HOR.out]
    exact ⟨HN1.out.trans (HN2.out.trans nwa), rfl⟩
  | ok out =>
    simp only at hr
    subst hr
    obtain ⟨As, cs, rfl, -⟩ := OwnI.form hown
    have hln : (rdL out l).length = n := by rw [rdL, List.length_map]; exact HI.out.hl.1
    unfold OwnI at hown
    rw [hln] at hown ⊢
    have h32 := h3
    have HOWN := Lib.hid hown
    have HN2 := Lib.hid hn2
    have HLN := Lib.hid hln
    clear hn2 hown hln
    have hb3 := HI3.out
    have h3b := cell_nw h3 HN2.out
    clear h3 hb3 h32
    go_upto_region 5 with (fail)
    obtain ⟨WL, hWL⟩ : ∃ W, W = W2.alloc (Obj.cells #[Value.slice As n cs] 31) := ⟨_, rfl⟩
    rw [← hWL]
    have h6 : WL.cell? ⟨W2.heap.size, 0, none⟩ = some (.slice As n cs) := by rw [hWL, World.cell?_alloc_new]; rfl
    have hnl : Nw W2 WL := by rw [hWL]; exact nwa
    have h3c := cell_nw h3b hnl
    obtain ⟨B6, hB6⟩ : ∃ b, b = W2.heap.size := ⟨_, rfl⟩
    obtain ⟨B3, hB3⟩ : ∃ b, b = w.heap.size + 1 := ⟨_, rfl⟩
    rw [← hB6] at h6 ⊢
    rw [← hB3] at h3c ⊢
    have hn2w : Nw w WL := HN1.out.trans (HN2.out.trans hnl)
    have H6 := Lib.hid h6
    have H3 := Lib.hid h3c
    have HBB := Lib.hid (show B6 ≠ B3 ∧ B6 < WL.heap.size ∧ B3 < W1.heap.size ∧ (∀ g, (Value.slice As n cs).ownBlock = some g → W1.heap.size ≤ g ∧ g < B6) from ⟨by have := HI3.out; have := HN2.out.grown.size; omega, World.block_lt_of_cell? WL _ h6, by rw [hB3]; exact HI3.out, fun g hg => by have := HOWN.out.lt g hg; omega⟩)
    have HST0 := Lib.hid (show OSt w WL out l As n cs 0 (.slice none 0 0) WL from ⟨Chg.of_nw (Nw.refl _), by rw [stK_zero]; exact own_le (own_nw HOWN.out hnl) HN1.out.grown.size, World.ownsRow_nil _ _ _ _, fun i x h => absurd h (by omega)⟩)
    have HNL := Lib.hid hn2w
    have HC := Lib.hid (HI.out.hl.nw hn2w)
    have HRD := Lib.hid (fun x W' => read_any x W')
    have HB3 := Lib.hid hB3
    clear hWL hnl h3b hB6 hB3 hn2w
    go_wp2_with fail
    go_loopw [8, 22] (fun r a wr => ∃ k, k ≤ n ∧ a = .int .i64 k ∧ ∃ Ar nr cr, r = .slice Ar nr cr ∧ Hid (OSt w WL out l As n cs k (.slice Ar nr cr) wr)) (fun _ a _ => n - (intOf a).toNat)
    case atStart => exact ⟨0, Nat.zero_le _, rfl, none, 0, 0, rfl, HST0⟩
    case round =>
      obtain ⟨k, hk, rfl, Ar, nr, cr, rfl, hst⟩ := hrel
      by_cases hlt : k < n
      · obtain ⟨b, o, x, rfl, hb, hx, hcx⟩ := HC.out.get hlt
        obtain ⟨gs, rfl⟩ : ∃ gs, As = some ⟨gs, 0, none⟩ := by
          have h := hst.out.st
          rcases h.2 with ⟨h1, -⟩ | ⟨g, cap', cur, h1, -⟩
          · injection h1 with _ h2 _; omega
          · injection h1 with h1 _ _; exact ⟨g, h1⟩
        have hgs := HBB.out.2.2.2 gs rfl
        have hbw : b < w.heap.size := HI.out.lt rfl (by omega)
        have hn1s := HN1.out.grown.size
        have hchg : Chg [gs] WL wr := hst.out.chg
        have hcw := Cs.chg HC.out hchg (fun b' o' e => by cases e; simp; omega)
        obtain ⟨b', o', e', hbr, hcall⟩ := hcw.2 (by omega)
        obtain ⟨rfl, rfl⟩ : b = b' ∧ o = o' := by simpa using e'
        haveI : CallAt wr b (o + k * 18) x := ⟨hcall k x hx, hbr⟩
        haveI : In b wr := ⟨hbr⟩
        have hB6l : B6 < WL.heap.size := HBB.out.2.1
        have hB3l : B3 < WL.heap.size := World.block_lt_of_cell? WL _ h3c
        have h6r := hchg.cell h6 (by simp; omega)
        have h3r := hchg.cell h3c (by have := HBB.out.2.2.1; simp; omega)
        haveI : In B6 wr := ⟨World.block_lt_of_cell? wr _ h6r⟩
        haveI : In B3 wr := ⟨World.block_lt_of_cell? wr _ h3r⟩
        have hsr : wr.cell? ⟨gs, k, none⟩ = some (.int .i64 (rdF out x)) := by
          have h := hst.out.st
          have h2 := World.ownsRow.cellAt h k (by omega)
          rw [h2]; simp [ints, stK_at hx]
        have hsz : wr.frozen? ⟨gs, k, none⟩ = false := World.ownsRow.frozenAt hst.out.st k
        haveI : In gs wr := ⟨World.block_lt_of_cell? wr _ hsr⟩
        have hnrE : nr = (idxK l k).length := by
          obtain ⟨A', c', e, -⟩ := OwnI.form hst.out.row
          injection e with _ e2 _
          rw [e2]; simp [natI]
        have HNRE := Lib.hid hnrE
        have HNR := Lib.hid (show nr ≤ 39 by rw [hnrE]; have := (idxK_nodup l k).length_le_of_subset (l₂ := List.range k) (fun i hi => List.mem_range.2 ((idxK_mem l k i).1 hi).1); simp at this; have := HN20.out; omega)
        have HX := Lib.hid hx
        have HGS := Lib.hid (show gs < WL.heap.size by omega)
        have HSTE := Lib.hid hchg
        have h6l := HBB.out.2.1
        obtain ⟨m, hm⟩ : ∃ m, m = rdF out x := ⟨_, rfl⟩
        rw [← hm] at hsr
        have HMD := Lib.hid hm
        obtain ⟨rb, hrb⟩ : ∃ rb, rb = readB x := ⟨_, rfl⟩
        have HRB := Lib.hid hrb
        have i1 : (k : Int) < (n : Int) := by omega
        have i3 : k < 1000000 := by have := HN20.out; omega
        have hrow0 : wr.ownsRow WL.heap.size 3 1 (.slice Ar nr cr) nr (ints (natI (idxK l k))) := by
          have h := hst.out.row
          unfold OwnI at h
          rw [natI_len, ← hnrE] at h
          exact h
        have HROW := Lib.hid hrow0
        clear hx hrb hm hcw hcall hbr hbw hn1s e' hchg hB6l hB3l hnrE hgs hb hcx hrow0 h6l
        go_wp2_with fail
        refine (HRD.out x _).mono ?_
        rintro e w' ⟨rfl, d1, rfl⟩
        rw [← HRB.out]
        cases rb with
        | true =>
          have hme : m = explM out x := by rw [HMD.out]; unfold rdF; rw [if_pos HRB.out.symm]
          have HME := Lib.hid hme
          clear hme
          by_cases hm0 : m < 0
          · go_wp2
            rw [HOR.out]
            refine ⟨(nwC HNL.out hst.out.chg (fun q hq => by have := HBB.out.2.2.2 q (by simpa using hq); have := HN1.out.grown.size; omega)).trans nwa, ?_⟩
            obtain ⟨q, hq⟩ := badR_some HX.out HRB.out.symm (by rw [← HME.out]; exact hm0)
            rw [hq]; rfl
          · go_wp2_with fail
            refine (HRD.out x _).mono ?_
            rintro e W4 ⟨rfl, hn4⟩
            rw [← HRB.out]
            have hn4' : Nw wr W4 := (show Nw wr _ from nwa).trans hn4
            have HN4 := Lib.hid hn4'
            clear hn4 hn4'
            have HOW := Lib.hid (own_nw HROW.out HN4.out)
            have HTK := Lib.hid (show 0 ≤ x.took from (by have hb := (HM.out out rfl).1; have h := HRB.out.symm; unfold readB at h; simp only [Bool.and_eq_true, decide_eq_true_eq] at h; exact (ans_ge hb HX.out h.2.1).1))
            have HIK := Lib.hid (show idxK l (k + 1) = idxK l k ++ [k] by rw [idxK_succ HX.out, if_pos HTK.out])
            have hsz4 : WL.heap.size ≤ W4.heap.size := Nat.le_trans HSTE.out.size HN4.out.grown.size
            go_wp2_with (at_builtin; refine wpList_appC rfl _ _ 31 rfl 3 (.int .i64 0) 1 8 Tryz.underlying31 intInfo rfl (by decide) WL.heap.size W4 hsz4 (.slice Ar nr cr) nr _ rfl HOW.out _ 1 1 _ [.int .i64 (k : Int)] rfl rfl rfl (by intro u hu; simp at hu; subst hu; rfl) (by unfold maxLen; have := HNR.out; omega) (by have := HNR.out; omega) ?_; intro v2 wA hA hcA hmA; have hA2 : OwnI wA WL.heap.size v2 (natI (idxK l (k + 1))) := OwnI.cast hA (by rw [natI_len, HIK.out, List.length_append, ← HNRE.out]; rfl) (by rw [HIK.out]; simp [natI, ints]); obtain ⟨A2, c2, hv2, -⟩ := OwnI.form hA2; rw [natI_len, HIK.out, List.length_append, ← HNRE.out] at hv2; simp only [List.length_cons, List.length_nil, Nat.zero_add] at hv2; subst hv2; have HA2 := Lib.hid hA2; have HCA := Lib.hid hcA; clear hA hcA hmA hA2)
            exact ⟨⟨k + 1, by omega, by go_num, _, _, _, by first | exact ⟨rfl, rfl, rfl⟩ | rfl, Lib.hid (OSt.push hst.out HGS.out HX.out (fun _ => by rw [← HME.out]; omega) (Chg.of_nw HN4.out) (by rw [stK_same HX.out (by unfold stF rdF; rw [if_pos HRB.out.symm, if_pos HRB.out.symm])]; exact own_nw hst.out.st HN4.out) HCA.out HA2.out)⟩, by simp [intOf]; omega⟩
        | false =>
          go_wp2_with fail
          refine (HRD.out x _).mono ?_
          rintro e W4 ⟨rfl, hn4⟩
          rw [← HRB.out]
          have hn4' : Nw wr W4 := (show Nw wr _ from nwa).trans hn4
          have HN4 := Lib.hid hn4'
          have hc10 : W4.cell? ⟨wr.heap.size, 10, none⟩ = some (.int .i64 x.took) := box_took hn4
          haveI : In wr.heap.size W4 := ⟨World.block_lt_of_cell? W4 _ hc10⟩
          have h6w := cell_nw h6r hn4'
          have hsw := cell_nw hsr hn4'
          have hzw : W4.frozen? ⟨gs, k, none⟩ = false := (frozen_nw (World.block_lt_of_cell? wr _ hsr) hn4').trans hsz
          haveI : In gs W4 := ⟨World.block_lt_of_cell? W4 _ hsw⟩
          haveI : In B6 W4 := ⟨World.block_lt_of_cell? W4 _ h6w⟩
          clear hn4 hn4' h6r hsr hsz h3r
          by_cases ht : 0 ≤ x.took
          · have d1 : decide (0 ≤ x.took) = true := by simpa using ht
            have HTK := Lib.hid ht
            have HIK := Lib.hid (show idxK l (k + 1) = idxK l k ++ [k] by rw [idxK_succ HX.out, if_pos HTK.out])
            obtain ⟨W5, hW5⟩ : ∃ W, W = W4.setCell ⟨gs, k, none⟩ (.int .i64 x.took) := ⟨_, rfl⟩
            have hc5 : Chg [gs] W4 W5 := by rw [hW5]; exact Chg.set1 W4 gs k _
            have HC5 := Lib.hid hc5
            have HW5 := Lib.hid hW5
            have HOW := Lib.hid (own_chg (own_nw HROW.out HN4.out) hc5 (fun g' hg' hm => by have h1 := (HROW.out.lt g' hg').1; have := HGS.out; simp at hm; omega))
            have hst5 : W5.ownsRow w.heap.size 3 1 (.slice (some ⟨gs, 0, none⟩) n cs) n (ints (stK out l (k + 1))) := by
              have h := (World.ownsRow.stored (own_nw hst.out.st HN4.out) k (.int .i64 x.took)).1
              have e : ints (stK out l (k + 1)) = (ints (stK out l k)).set k (.int .i64 x.took) := by
                rw [stK_set HX.out]
                unfold stF
                rw [← HRB.out, if_neg (by simp), if_pos HTK.out]
                simp [ints, List.map_set]
              rw [e, hW5]; exact h
            have HST5 := Lib.hid hst5
            have hsz4 : WL.heap.size ≤ W5.heap.size := Nat.le_trans HSTE.out.size (Nat.le_trans HN4.out.grown.size hc5.size)
            clear hW5 hc5 hst5 ht
            go_upto_region 13 with (fail)
            rw [← HW5.out]
            go_wp2_with (at_builtin; refine wpList_appC rfl _ _ 31 rfl 3 (.int .i64 0) 1 8 Tryz.underlying31 intInfo rfl (by decide) WL.heap.size W5 hsz4 (.slice Ar nr cr) nr _ rfl HOW.out _ 1 1 _ [.int .i64 (k : Int)] rfl rfl rfl (by intro u hu; simp at hu; subst hu; rfl) (by unfold maxLen; have := HNR.out; omega) (by have := HNR.out; omega) ?_; intro v2 wA hA hcA hmA; have hA2 : OwnI wA WL.heap.size v2 (natI (idxK l (k + 1))) := OwnI.cast hA (by rw [natI_len, HIK.out, List.length_append, ← HNRE.out]; rfl) (by rw [HIK.out]; simp [natI, ints]); obtain ⟨A2, c2, hv2, -⟩ := OwnI.form hA2; rw [natI_len, HIK.out, List.length_append, ← HNRE.out] at hv2; simp only [List.length_cons, List.length_nil, Nat.zero_add] at hv2; subst hv2; have HA2 := Lib.hid hA2; have HCA := Lib.hid hcA; clear hA hcA hmA hA2)
            exact ⟨⟨k + 1, by omega, by go_num, _, _, _, by first | exact ⟨rfl, rfl, rfl⟩ | rfl, Lib.hid (OSt.push hst.out HGS.out HX.out (fun h => by rw [← HRB.out] at h; cases h) ((Chg.of_nw HN4.out).trans HC5.out) HST5.out HCA.out HA2.out)⟩, by simp [intOf]; omega⟩
          · have d1 : decide (0 ≤ x.took) = false := by simpa using ht
            have HTK := Lib.hid (show ¬ 0 ≤ x.took from ht)
            clear ht
            go_wp2_with fail
            exact ⟨⟨k + 1, by omega, by go_num, _, _, _, by first | exact ⟨rfl, rfl, rfl⟩ | rfl, Lib.hid (OSt.skip hst.out HX.out HRB.out.symm (by have := HTK.out; omega) HN4.out)⟩, by simp [intOf]; omega⟩
      · have hkn : k = n := by omega
        subst hkn
        have hm := HM.out out rfl
        have HSO := Lib.hid (osort_any hst.out hm.1 hm.2 HI.out.wf HN20.out HC.out H6.out H3.out (fun g hg => by
          have h1 := HBB.out.2.2.2 g hg
          have h2 := HN1.out.grown.size
          have h3' := HBB.out.2.1
          have h4 := HBB.out.2.2.1
          refine ⟨by omega, by omega, by omega, by omega, fun hp b o e => ?_⟩
          have := HI.out.lt e hp
          omega) HNL.out)
        clear hm h3c
        go_wp2_with fail
        refine HSO.out.mono ?_
        rintro e W4 ⟨rfl, ys, hown, hord, hR, hnw⟩
        have HOWN4 := Lib.hid hown
        have HORD := Lib.hid hord
        have HRR := Lib.hid hR
        have HNW := Lib.hid hnw
        clear hown hord hR hnw
        go_wp2
        rw [HOR.out]
        refine ⟨HNW.out, ?_⟩
        rw [HRR.out]
        exact ⟨_, ys, rfl, HOWN4.out, HORD.out⟩
end Go.Proofs.YtmbjpjpdcmjjgaaGreatDoor
