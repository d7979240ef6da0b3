import Derived.Test.YtkikdpdainmlcaaGreatGP
import Derived.Shelf.SlSortCmp.NoneTotal
import Derived.Sort.Grow
set_option linter.unusedVariables false
set_option linter.unusedSimpArgs false
set_option linter.unnecessarySimpa false
namespace Go.Proofs.YtkikdpdainmlcaaGreat
open Go.RowKit Go.Xt Go.Shelf Go.Sort
def sortL_ren : Go.Shelf.Ren := ⟨fun | 6 => 69 | 15 => 81 | 14 => 80 | 28 => 96 | 29 => 97 | 20 => 88 | 21 => 89 | 22 => 90 | 23 => 91 | 24 => 92 | 25 => 93 | 26 => 94 | 27 => 95 | 46 => 109 | 47 => 110 | 48 => 111 | 49 => 112 | 50 => 113 | 57 => 138 | n => n, fun | 22 => 46 | 24 => 3 | 25 => 129 | 3 => 3 | 39 => 145 | 0 => 0 | 53 => 163 | 55 => 39 | 4 => 4 | 46 => 157 | 45 => 156 | 50 => 119 | 5 => 5 | 9 => 9 | 66 => 179 | 70 => 183 | 76 => 196 | 77 => 197 | n => n, fun | n => n⟩
theorem sortL : Go.Proofs.SlLaysF.n6 Tryz.prog sortL_ren := {
  mixed := by kernel_rfl,
  f6 := ⟨Tryz.f69.name, by decide, Tryz.func69.trans (congrArg some (by kernel_rfl))⟩,
  f14 := ⟨Tryz.f80.name, by decide, Tryz.func80.trans (congrArg some (by kernel_rfl))⟩,
  f15 := Tryz.func81.trans (congrArg some (by kernel_rfl)),
  f20 := ⟨Tryz.f88.name, by decide, Tryz.func88.trans (congrArg some (by kernel_rfl))⟩,
  f21 := ⟨Tryz.f89.name, by decide, Tryz.func89.trans (congrArg some (by kernel_rfl))⟩,
  f22 := ⟨Tryz.f90.name, by decide, Tryz.func90.trans (congrArg some (by kernel_rfl))⟩,
  f23 := ⟨Tryz.f91.name, by decide, Tryz.func91.trans (congrArg some (by kernel_rfl))⟩,
  f24 := ⟨Tryz.f92.name, by decide, Tryz.func92.trans (congrArg some (by kernel_rfl))⟩,
  f25 := ⟨Tryz.f93.name, by decide, Tryz.func93.trans (congrArg some (by kernel_rfl))⟩,
  f26 := ⟨Tryz.f94.name, by decide, Tryz.func94.trans (congrArg some (by kernel_rfl))⟩,
  f27 := ⟨Tryz.f95.name, by decide, Tryz.func95.trans (congrArg some (by kernel_rfl))⟩,
  f28 := Tryz.func96.trans (congrArg some (by kernel_rfl)),
  f29 := Tryz.func97.trans (congrArg some (by kernel_rfl)),
  f46 := ⟨Tryz.f109.name, by decide, Tryz.func109.trans (congrArg some (by kernel_rfl))⟩,
  f47 := Tryz.func110.trans (congrArg some (by kernel_rfl)),
  f48 := Tryz.func111.trans (congrArg some (by kernel_rfl)),
  f49 := ⟨Tryz.f112.name, by decide, Tryz.func112.trans (congrArg some (by kernel_rfl))⟩,
  f50 := ⟨Tryz.f113.name, by decide, Tryz.func113.trans (congrArg some (by kernel_rfl))⟩,
  f57 := ⟨Tryz.f138.name, by decide, Tryz.func138.trans (congrArg some (by kernel_rfl))⟩,
  t0 := Tryz.underlying0,
  a0 := Tryz.isAgg0,
  z0 := Tryz.sizeOf0,
  v0 := Tryz.zeroValue0,
  t3 := Tryz.underlying3,
  a3 := Tryz.isAgg3,
  z3 := Tryz.sizeOf3,
  v3 := Tryz.zeroValue3,
  t4 := Tryz.underlying4,
  a4 := Tryz.isAgg4,
  z4 := Tryz.sizeOf4,
  v4 := Tryz.zeroValue4,
  t5 := Tryz.underlying5,
  a5 := Tryz.isAgg5,
  z5 := Tryz.sizeOf5,
  v5 := Tryz.zeroValue5,
  t9 := Tryz.underlying9,
  a9 := Tryz.isAgg9,
  z9 := Tryz.sizeOf9,
  v9 := Tryz.zeroValue9,
  t22 := Tryz.underlying46,
  a22 := Tryz.isAgg46,
  z22 := Tryz.sizeOf46,
  v22 := Tryz.zeroValue46,
  a24 := Tryz.isAgg3,
  z24 := Tryz.sizeOf3,
  t25 := Tryz.underlying129,
  a25 := Tryz.isAgg129,
  z25 := Tryz.sizeOf129,
  v25 := Tryz.zeroValue129,
  t39 := Tryz.underlying145,
  a39 := Tryz.isAgg145,
  z39 := Tryz.sizeOf145,
  v39 := Tryz.zeroValue145,
  t45 := Tryz.underlying156,
  a45 := Tryz.isAgg156,
  z45 := Tryz.sizeOf156,
  v45 := Tryz.zeroValue156,
  t46 := Tryz.underlying157,
  a46 := Tryz.isAgg157,
  z46 := Tryz.sizeOf157,
  v46 := Tryz.zeroValue157,
  t50 := Tryz.underlying119,
  a50 := Tryz.isAgg119,
  z50 := Tryz.sizeOf119,
  v50 := Tryz.zeroValue119,
  t53 := Tryz.underlying163,
  a53 := Tryz.isAgg163,
  z53 := Tryz.sizeOf163,
  v53 := Tryz.zeroValue163,
  t55 := Tryz.underlying39,
  a55 := Tryz.isAgg39,
  z55 := Tryz.sizeOf39,
  v55 := Tryz.zeroValue39,
  t66 := Tryz.underlying179,
  a66 := Tryz.isAgg179,
  z66 := Tryz.sizeOf179,
  v66 := Tryz.zeroValue179,
  t70 := Tryz.underlying183,
  a70 := Tryz.isAgg183,
  z70 := Tryz.sizeOf183,
  v70 := Tryz.zeroValue183,
  t76 := Tryz.underlying196,
  a76 := Tryz.isAgg196,
  z76 := Tryz.sizeOf196,
  v76 := Tryz.zeroValue196,
  t77 := Tryz.underlying197,
  a77 := Tryz.isAgg197,
  z77 := Tryz.sizeOf197,
  v77 := Tryz.zeroValue197 }

theorem own_of_sort1 {α : Type} {enc : α → Value} [Inhabited α] {w : World} {base : Nat} {e : TypeId} {g n cap : Nat} {xs : List Value}
    (h : w.ownsRow base e 1 (.slice (some ⟨g, 0, none⟩) n cap) n xs) (m : Nat) (d : Array α) (os : Array Obj) (hd : d.size = n) :
    (sortWorld enc w g 0 m d os).ownsRow base e 1 (.slice (some ⟨g, 0, none⟩) n cap) n (d.toList.map enc) ∧ w.grownBy (sortWorld enc w g 0 m d os) (some g) := by
  rcases h.2 with ⟨h', _⟩ | ⟨g', cap', cur, h', hb, hg, hnc, hcm, hcs, htake⟩
  · simp at h'
  · simp only [Value.slice.injEq, Option.some.injEq, Addr.mk.injEq, and_true, true_and] at h'
    obtain ⟨rfl, rfl⟩ := h'
    have hlt : g < w.heap.size := (Array.getElem?_eq_some_iff.1 hg).1
    have hheap : ∀ i : Nat, (sortWorld enc w g 0 m d os).heap[i]? = ((w.heap.modify g (onCells (putCells enc 0 d))) ++ os)[i]? := fun _ => rfl
    refine ⟨⟨by simp [hd], .inr ⟨g, cap, putCells enc 0 d cur, rfl, hb, ?_, hnc, hcm, by simpa [putCells] using hcs, ?_⟩⟩, ⟨rfl, rfl, rfl, ?_, fun i hi hne => ?_⟩⟩
    · rw [hheap, Array.getElem?_append_left (by simpa using hlt), Array.getElem?_modify, if_pos rfl, hg]; rfl
    · have hsz : n * 1 ≤ cur.size := by rw [hcs]; exact Nat.mul_le_mul_right _ hnc
      apply List.ext_getElem?
      intro t
      by_cases ht : t < n * 1
      · rw [List.getElem?_take_of_lt ht]
        have h1 : t < d.size := by omega
        have h2 : t < cur.size := by omega
        simp only [putCells, Array.getElem?_toList, Array.getElem?_mapIdx, List.getElem?_map]
        rw [Array.getElem?_eq_getElem h2]
        simp only [Option.map_some]
        rw [if_pos ⟨by omega, by omega⟩, Nat.sub_zero, getElem!_pos d t h1, Array.getElem?_eq_getElem h1]; rfl
      · rw [List.getElem?_eq_none (by rw [List.length_take]; omega), List.getElem?_eq_none (by simp; omega)]
    · show w.heap.size ≤ ((w.heap.modify g _) ++ os).size
      simp
    · rw [hheap, Array.getElem?_append_left (by simpa using hi), Array.getElem?_modify, if_neg (fun h => hne (by rw [h]))]
def tk (l : List Cl) (i : Nat) : Int := match l[i]? with | some x => x.took | none => 0
abbrev Ix (l : List Cl) : Type := { i : Nat // ∃ x, l[i]? = some x ∧ 0 ≤ x.took ∧ x.took ≤ 9223372036854775807 }
def encI {l : List Cl} (i : Ix l) : Value := .int .i64 (i.1 : Int)
def cfI {l : List Cl} (i j : Ix l) : Int := tk l i.1 - tk l j.1
theorem ltI {l : List Cl} (i j : Ix l) : ltOf cfI i j = decide (tk l i.1 < tk l j.1) := by
  unfold ltOf cfI
  by_cases h : tk l i.1 < tk l j.1
  · simp [h]; omega
  · simp [h]; omega
theorem swoI {l : List Cl} : SWO (ltOf (cfI (l := l))) where
  irrefl x := by rw [ltI]; simp
  trans x y z h1 h2 := by rw [ltI] at *; simp at *; omega
  ntrans x y z h1 h2 := by rw [ltI] at *; simp at *; omega
set_option maxHeartbeats 1000000 in
theorem closure_any (Bl b o n c i j : Nat) (p q : Int) (W : World) (hs : W.cell? ⟨Bl, 0, none⟩ = some (.slice (some ⟨b, o, none⟩) n c)) (hi : i < n) (hj : j < n) (hn : n ≤ 1000)
    (ci : W.cell? ⟨b, o + i * 18 + 10, none⟩ = some (.int .i64 p)) (cj : W.cell? ⟨b, o + j * 18 + 10, none⟩ = some (.int .i64 q)) (p0 : 0 ≤ p) (p1 : p ≤ 9223372036854775807) (q0 : 0 ≤ q) (q1 : q ≤ 9223372036854775807) :
    Calls Tryz.prog 70 #[.int .i64 (i : Int), .int .i64 (j : Int), .pointer (some ⟨Bl, 0, none⟩)] W fun e w' => e = .returned (.int .i64 (p - q)) ∧ ∃ k, w' = W.drewN k := by
  go_enter Tryz.func70, Tryz.ntmps70
  go_wp2
  go_quiet (fail)
  go_wp2
  go_ret
  exact ⟨rfl, nq, rfl⟩
theorem cell_sort {α : Type} [Inhabited α] (enc : α → Value) (w : World) (g m : Nat) (d : Array α) (os : Array Obj) (a : Addr) (h : a.block ≠ g) (ha : a.block < w.heap.size) : (sortWorld enc w g 0 m d os).cell? a = w.cell? a := by
  show (grow (putRow enc (Sort.ahead w m) g 0 d) os).cell? a = _
  rw [cell?_grow _ _ _ (by simpa [putRow, mapBlock, Sort.ahead] using ha), cell?_putRow_other _ _ g 0 d _ (.inl h)]
  rfl
theorem sort_any (base g m cap Bl b o n c : Nat) (l : List Cl) (xs : List Nat) (w : World) (hn : n ≤ 1000) (hl : Cs w (some ⟨b, o, none⟩) n l) (hw : ∀ y ∈ l, WfC y) (hxs : ∀ i ∈ xs, ∃ x, l[i]? = some x ∧ 0 ≤ x.took) (hx0 : xs ≠ []) (hm : xs.length = m) (hm1 : m ≤ 1000)
    (hBl : w.cell? ⟨Bl, 0, none⟩ = some (.slice (some ⟨b, o, none⟩) n c)) (hgB : Bl ≠ g) (hgb : b ≠ g) (hown : w.ownsRow base 3 1 (.slice (some ⟨g, 0, none⟩) m cap) m (ints (xs.map fun i : Nat => (i : Int)))) :
    Calls Tryz.prog 69 #[.slice (some ⟨g, 0, none⟩) m cap, .func (.func 70) #[] #[.pointer (some ⟨Bl, 0, none⟩)]] w fun e w' => e = .returned (.tuple #[]) ∧
      ∃ ys : List Nat, ys.Perm xs ∧ ys.Pairwise (fun i j => tk l i ≤ tk l j) ∧ w'.ownsRow base 3 1 (.slice (some ⟨g, 0, none⟩) m cap) m (ints (ys.map fun i : Nat => (i : Int))) ∧ w.grownBy w' (some g) := by
  have hxs' : ∀ i ∈ xs, ∃ x, l[i]? = some x ∧ 0 ≤ x.took ∧ x.took ≤ 9223372036854775807 := fun i hi => by
    obtain ⟨x, h1, h2⟩ := hxs i hi
    exact ⟨x, h1, h2, (hw x (List.mem_of_getElem? h1)).took.2⟩
  obtain ⟨zs, hzs⟩ : ∃ zs : List (Ix l), zs.map (·.1) = xs := ⟨xs.attach.map fun i => ⟨i.1, hxs' i.1 i.2⟩, by simp⟩
  haveI : Inhabited (Ix l) := ⟨by
    cases hzs' : zs with
    | nil => exact absurd (by rw [← hzs, hzs']; rfl) hx0
    | cons a _ => exact a⟩
  have hal : zs.length = m := by rw [← hm, ← hzs, List.length_map]
  have heq : ints (xs.map fun i : Nat => (i : Int)) = zs.map encI := by rw [← hzs]; simp [ints, encI]
  rw [heq] at hown
  have eg : ∀ args w, (callFunc 70 args).run Tryz.prog w = .ok (.enter 70 args) w := enters_of Tryz.func70 (by kernel_rfl) rfl
  have hg : g < w.heap.size := (hown.lt g rfl).2
  have hbB := World.block_lt_of_cell? w _ hBl
  have hH : Holds encI w g 0 zs.toArray := fun j hj => by
    have hj' : j < m := by simpa [hal] using hj
    rw [Nat.zero_add]
    refine ⟨?_, hown.frozenAt j⟩
    rw [hown.cellAt j (by omega), List.getElem?_map]
    simp at hj
    rw [getElem!_pos _ _ (by simpa using hj)]
    simp [hj]
  have hcmp : CmpLays1 Tryz.prog 70 #[.pointer (some ⟨Bl, 0, none⟩)] encI (cfI (l := l)) g 0 zs.toArray.size w := by
    refine CmpReads.lays fun q os dk hs x y => ?_
    obtain ⟨i, xi, hi, hi0, hi1⟩ := x
    obtain ⟨j, xj, hj, hj0, hj1⟩ := y
    have hil : i < n := by rw [← hl.1]; exact (List.getElem?_eq_some_iff.1 hi).1
    have hjl : j < n := by rw [← hl.1]; exact (List.getElem?_eq_some_iff.1 hj).1
    obtain ⟨b', o', e, hb, hc⟩ := hl.2 (by omega)
    obtain ⟨rfl, rfl⟩ : b = b' ∧ o = o' := by simpa using e
    obtain ⟨_, _, _, _, _, _, _, _, _, _, ci, _⟩ := hc i xi hi
    obtain ⟨_, _, _, _, _, _, _, _, _, _, cj, _⟩ := hc j xj hj
    have hc1 := closure_any Bl b o n c i j xi.took xj.took (sortWorld encI w g 0 q dk os) ((cell_sort _ _ _ _ _ _ _ hgB hbB).trans hBl) hil hjl hn ((cell_sort _ _ _ _ _ _ _ hgb hb).trans ci) ((cell_sort _ _ _ _ _ _ _ hgb hb).trans cj) hi0 hi1 hj0 hj1
    have e1 : cfI (l := l) ⟨i, xi, hi, hi0, hi1⟩ ⟨j, xj, hj, hj0, hj1⟩ = xi.took - xj.took := by simp [cfI, tk, hi, hj]
    rw [e1]
    exact hc1
  have hcon := Any.slices_SortFunc sortL encI (fun _ => rfl) cfI swoI 70 #[.pointer (some ⟨Bl, 0, none⟩)] g 0 cap zs.toArray w eg hcmp hH hg (by simp; omega)
  simp only [List.size_toArray, hal] at hcon
  refine Calls.mono (P := Tryz.prog) hcon ?_
  rintro e w' ⟨rfl, d', k, os, hp, hs, rfl⟩
  obtain ⟨h1, _, h3⟩ := hp
  have hd : d'.size = m := by simpa [hal] using h1
  obtain ⟨o1, o2⟩ := own_of_sort1 (enc := encI) hown k d' os hd
  have hperm : d'.toList.Perm zs := by
    have e1 : d'.extract 0 m = d' := by rw [← hd]; exact Array.extract_size
    have e2 : zs.toArray.extract 0 m = zs.toArray := by rw [← hal]; exact Array.extract_size
    rw [e1, e2] at h3
    exact h3
  refine ⟨rfl, d'.toList.map (·.1), ?_, ?_, ?_, o2⟩
  · rw [← hzs]; exact hperm.map _
  · rw [List.pairwise_map, List.pairwise_iff_getElem]
    intro i j hi hj hij
    have hj' : j < d'.size := by simpa using hj
    have := hs i j (Nat.zero_le _) hij (by omega)
    rw [ltI, decide_eq_false_iff_not] at this
    rw [getElem!_pos d' j hj', getElem!_pos d' i (by omega)] at this
    simp only [Array.getElem_toList]
    omega
  · have e3 : ints ((d'.toList.map (·.1)).map fun i : Nat => (i : Int)) = d'.toList.map encI := by simp [ints, encI]
    rw [e3]; exact o1
theorem sort_nil (p : Option Addr) (cap : Nat) (fv : Value) (w : World) :
    Calls Tryz.prog 69 #[.slice p 0 cap, fv] w fun e w' => e = .returned (.tuple #[]) ∧ w' = w := AnyF.slices_SortFunc_none { sortL with } p cap fv w
end Go.Proofs.YtkikdpdainmlcaaGreat
namespace Go.Proofs.YtkikdpdainmlcaaGreat
open Go.RowKit Go.Xt
/-! Plain lemmas on well-formed histories. -/
theorem good_at {l : List Cl} (hb : bad l = none) {j : Nat} {x : Cl} (hx : l[j]? = some x) : goodP (l.take j) x = true :=
  (badFrom_none l l.length 0 (by omega)).1 hb j x (Nat.zero_le _) hx
theorem good_parts {l : List Cl} (hb : bad l = none) {j : Nat} {x : Cl} (hx : l[j]? = some x) :
    ordF (l.take j) x = true ∧ effF x = true ∧ endF x = true ∧ aftF (l.take j) x = true ∧ apaF (l.take j) x = true := by
  have h := good_at hb hx
  simpa [goodP] using h
theorem inv_step {l : List Cl} (hb : bad l = none) {j : Nat} {x y : Cl} (hx : l[j]? = some x) (hy : l[j + 1]? = some y) : x.inv < y.inv := by
  have h := (good_parts hb hy).1
  rw [ordF, take_last hx] at h
  simp at h
  exact h.2.2.2.2
theorem took_le {l : List Cl} (hb : bad l = none) {j : Nat} {x : Cl} (hx : l[j]? = some x) (ht : 0 ≤ x.took) : x.inv ≤ x.took := by
  have h := (good_parts hb hx).2.1
  simp [effF] at h
  omega
theorem ans_ge {l : List Cl} (hb : bad l = none) {j : Nat} {x : Cl} (hx : l[j]? = some x) (ha : 0 ≤ x.ans) : 0 ≤ x.took ∧ x.took ≤ x.ans := by
  have h := (good_parts hb hx).2.2.1
  rw [endF, if_neg (by omega)] at h
  by_cases q : x.took < 0 ∨ x.ans < x.took ∨ x.st < 1 ∨ x.ans - x.inv < x.st - 1
  · rw [if_pos q] at h; cases h
  · omega
theorem mem_ofT {t : Int} {l : List Cl} {j : Nat} {x : Cl} (hx : l[j]? = some x) (ht : x.th = t) : x ∈ ofT t l := by
  simp only [ofT, List.mem_filter, beq_iff_eq]
  exact ⟨List.mem_of_getElem? hx, ht⟩
theorem ofT_last (t : Int) (l : List Cl) : ∀ (k : Nat) (z : Cl), (ofT t (l.take k)).getLast? = some z → ∃ m, m < k ∧ l[m]? = some z ∧ z.th = t ∧ ∀ i x, m < i → i < k → l[i]? = some x → x.th ≠ t
  | 0, z, h => by simp [ofT] at h
  | k + 1, z, h => by
    rcases hx : l[k]? with _ | x
    · have hk : l.length ≤ k := List.getElem?_eq_none_iff.1 hx
      rw [List.take_of_length_le (by omega), ← List.take_of_length_le hk] at h
      obtain ⟨m, h1, h2, h3, h4⟩ := ofT_last t l k z h
      refine ⟨m, by omega, h2, h3, fun i y hi1 hi2 hy => ?_⟩
      rcases Nat.lt_succ_iff_lt_or_eq.1 hi2 with h5 | rfl
      · exact h4 i y hi1 h5 hy
      · rw [hx] at hy; cases hy
    · rw [ofT_succ t hx] at h
      by_cases ht : x.th = t
      · rw [if_pos ht] at h
        simp at h
        subst h
        exact ⟨k, by omega, hx, ht, fun i y h1 h2 _ => by omega⟩
      · rw [if_neg ht, List.append_nil] at h
        obtain ⟨m, h1, h2, h3, h4⟩ := ofT_last t l k z h
        refine ⟨m, by omega, h2, h3, fun i y hi1 hi2 hy => ?_⟩
        rcases Nat.lt_succ_iff_lt_or_eq.1 hi2 with h5 | rfl
        · exact h4 i y hi1 h5 hy
        · rw [hx] at hy; injection hy with hy; subst hy; exact ht
theorem prec {l : List Cl} (hb : bad l = none) : ∀ (j : Nat) (i : Nat) (x y : Cl), i < j → l[i]? = some x → l[j]? = some y → x.th = y.th → bf x y = true := by
  intro j
  induction j using Nat.strongRecOn with
  | ind j ih =>
    intro i x y hij hx hy ht
    have ha := (good_parts hb hy).2.2.2.1
    rw [aftF] at ha
    have hmem : x ∈ ofT y.th (l.take j) := mem_ofT (j := i) (by rw [List.getElem?_take, if_pos hij]; exact hx) ht
    rcases hl : (ofT y.th (l.take j)).getLast? with _ | z
    · rw [List.getLast?_eq_none_iff] at hl
      rw [hl] at hmem; cases hmem
    · rw [hl] at ha
      obtain ⟨m, h1, h2, h3, h4⟩ := ofT_last y.th l j z hl
      rcases Nat.lt_trichotomy i m with h | h | h
      · have hz := ih m h1 i x z h hx h2 (by rw [ht, h3])
        simp [bf] at hz ha ⊢
        have e1 := ans_ge hb h2 ha.1
        have e2 := took_le hb h2 e1.1
        omega
      · subst h
        rw [hx] at h2; injection h2 with h2; subst h2; exact ha
      · exact absurd ht (h4 i x h hij hx)
theorem took_mem {x : Cl} (h : 0 ≤ x.took) : x.took ∈ stepsL x := by simp [stepsL, h]
theorem took_ne {l : List Cl} (hb : bad l = none) {i j : Nat} {x y : Cl} (hij : i < j) (hx : l[i]? = some x) (hy : l[j]? = some y) (h1 : 0 ≤ x.took) (h2 : 0 ≤ y.took) : x.took ≠ y.took := by
  by_cases ht : x.th = y.th
  · have h := prec hb j i x y hij hx hy ht
    simp [bf] at h
    have := ans_ge hb hx h.1
    have := took_le hb hy h2
    omega
  · have h := (good_parts hb hy).2.2.2.2
    rw [apaF, List.all_eq_true] at h
    have h3 := h x (List.mem_of_getElem? (i := i) (by rw [List.getElem?_take, if_pos hij]; exact hx))
    have ht' : (x.th == y.th) = false := by simpa using ht
    rw [ht'] at h3
    simp only [Bool.false_or, Bool.not_eq_true', meetF] at h3
    rw [List.any_eq_false] at h3
    have h4 := h3 x.took (took_mem h1)
    intro e
    apply h4
    rw [List.any_eq_true]
    exact ⟨y.took, took_mem h2, by simp [e]⟩
def IsEff (l : List Cl) (ys : List Nat) : Prop := ys.Pairwise (fun i j => tk l i < tk l j) ∧ ∀ i, i ∈ ys ↔ ∃ x, l[i]? = some x ∧ 0 ≤ x.took
theorem sorted_eq {α : Type} {R : α → α → Prop} (hi : ∀ x, ¬ R x x) (ha : ∀ x y, R x y → ¬ R y x) : ∀ {a b : List α}, a.Pairwise R → b.Pairwise R → (∀ x, x ∈ a ↔ x ∈ b) → a = b
  | [], [], _, _, _ => rfl
  | [], y :: b, _, _, h => by have := (h y).2 (by simp); simp at this
  | x :: a, [], _, _, h => by have := (h x).1 (by simp); simp at this
  | x :: a, y :: b, h1, h2, h => by
    rw [List.pairwise_cons] at h1 h2
    have e : x = y := by
      have hx := (h x).1 (by simp)
      have hy := (h y).2 (by simp)
      rw [List.mem_cons] at hx hy
      rcases hx with rfl | hx
      · rfl
      · rcases hy with rfl | hy
        · rfl
        · exact absurd (h1.1 y hy) (ha _ _ (h2.1 x hx))
    subst e
    refine congrArg _ (sorted_eq hi ha h1.2 h2.2 fun z => ?_)
    have hz := h z
    rw [List.mem_cons, List.mem_cons] at hz
    constructor
    · intro q
      rcases hz.1 (.inr q) with rfl | r
      · exact absurd (h1.1 z q) (hi z)
      · exact r
    · intro q
      rcases hz.2 (.inr q) with rfl | r
      · exact absurd (h2.1 z q) (hi z)
      · exact r
theorem IsEff.unique {l : List Cl} {a b : List Nat} (ha : IsEff l a) (hb : IsEff l b) : a = b :=
  sorted_eq (R := fun i j => tk l i < tk l j) (fun _ => by omega) (fun _ _ h => by omega) ha.1 hb.1 fun x => (ha.2 x).trans (hb.2 x).symm
def idxK (l : List Cl) : Nat → List Nat
  | 0 => []
  | k + 1 => match l[k]? with
    | some x => if 0 ≤ x.took then idxK l k ++ [k] else idxK l k
    | none => idxK l k
theorem idxK_succ {l : List Cl} {k : Nat} {x : Cl} (h : l[k]? = some x) : idxK l (k + 1) = idxK l k ++ if 0 ≤ x.took then [k] else [] := by
  rw [idxK, h]; simp only; split <;> simp
theorem idxK_mem (l : List Cl) : ∀ (k i : Nat), i ∈ idxK l k ↔ i < k ∧ ∃ x, l[i]? = some x ∧ 0 ≤ x.took
  | 0, i => by simp [idxK]
  | k + 1, i => by
    rcases hx : l[k]? with _ | x
    · rw [idxK, hx]
      simp only
      rw [idxK_mem l k i]
      constructor
      · rintro ⟨h1, h2⟩; exact ⟨by omega, h2⟩
      · rintro ⟨h1, y, h2, h3⟩
        refine ⟨?_, y, h2, h3⟩
        rcases Nat.lt_succ_iff_lt_or_eq.1 h1 with h | rfl
        · exact h
        · rw [hx] at h2; cases h2
    · rw [idxK_succ hx, List.mem_append, idxK_mem l k i]
      constructor
      · rintro (⟨h1, h2⟩ | h)
        · exact ⟨by omega, h2⟩
        · split at h
          · simp at h; subst h; exact ⟨by omega, x, hx, by assumption⟩
          · simp at h
      · rintro ⟨h1, y, h2, h3⟩
        rcases Nat.lt_succ_iff_lt_or_eq.1 h1 with h | rfl
        · exact .inl ⟨h, y, h2, h3⟩
        · rw [hx] at h2; injection h2 with h2; subst h2
          rw [if_pos h3]; exact .inr (by simp)
theorem idxK_nodup (l : List Cl) : ∀ k : Nat, (idxK l k).Nodup
  | 0 => by simp [idxK]
  | k + 1 => by
    rw [idxK]; split
    · split
      · rw [List.nodup_append]
        refine ⟨idxK_nodup l k, by simp, fun a ha b hb => ?_⟩
        simp at hb; subst hb
        have := ((idxK_mem l _ a).1 ha).1
        omega
      · exact idxK_nodup l k
    · exact idxK_nodup l k
theorem idxK_len (l : List Cl) : ∀ k, (idxK l k).length ≤ k
  | 0 => by simp [idxK]
  | k + 1 => by
    have := idxK_len l k
    rw [idxK]; split
    · split <;> simp <;> omega
    · omega
theorem tk_of {l : List Cl} {i : Nat} {x : Cl} (h : l[i]? = some x) : tk l i = x.took := by rw [tk, h]
theorem eff_of {l : List Cl} (hb : bad l = none) {ys : List Nat} (hp : ys.Perm (idxK l l.length)) (hs : ys.Pairwise fun i j => tk l i ≤ tk l j) : IsEff l ys := by
  have hm : ∀ i, i ∈ ys ↔ ∃ x, l[i]? = some x ∧ 0 ≤ x.took := fun i => by
    rw [hp.mem_iff, idxK_mem]
    constructor
    · exact fun h => h.2
    · rintro ⟨x, h1, h2⟩; exact ⟨(List.getElem?_eq_some_iff.1 h1).1, x, h1, h2⟩
  have hn : ys.Nodup := hp.nodup_iff.2 (idxK_nodup l _)
  refine ⟨?_, hm⟩
  have h2 := hs.and hn
  refine List.Pairwise.imp_of_mem (fun {i j} hi hj h => ?_) h2
  obtain ⟨x, hx, x0⟩ := (hm i).1 hi
  obtain ⟨y, hy, y0⟩ := (hm j).1 hj
  have hne : tk l i ≠ tk l j := by
    rw [tk_of hx, tk_of hy]
    rcases Nat.lt_trichotomy i j with q | q | q
    · exact took_ne hb q hx hy x0 y0
    · exact absurd q h.2
    · exact fun e => took_ne hb q hy hx y0 x0 e.symm
  have := h.1
  omega
end Go.Proofs.YtkikdpdainmlcaaGreat
namespace Go.Proofs.YtkikdpdainmlcaaGreat
open Go.RowKit Go.Xt Go.Shelf Go.Sort
def natI (l : List Nat) : List Int := l.map fun i : Nat => (i : Int)
theorem natI_app (a b : List Nat) : natI (a ++ b) = natI a ++ natI b := by simp [natI]
def chkE (l : List Cl) : Int := if bad l = none then 0 else 15
def EffP (l : List Cl) (ys : List Nat) : Prop := (bad l = none → IsEff l ys) ∧ (bad l ≠ none → ys = [])
set_option maxRecDepth 20000 in
set_option maxHeartbeats 4000000 in
theorem effects_any (A : Option Addr) (n c : Nat) (l : List Cl) (w : World) (hn : n ≤ 1000) (hc : n ≤ c) (hcm : c ≤ 9223372036854775807) (hl : Cs w A n l) (hw : ∀ y ∈ l, WfC y) :
    Calls Tryz.prog 54 #[.slice A n c] w fun e w' => ∃ v ys, e = .returned (.tuple #[v, .int .i64 (chkE l)]) ∧ EffP l ys ∧ OwnI w' w.heap.size v (natI ys) ∧ Nw w w' := by
  obtain ⟨W1, hW1⟩ : ∃ W1, W1 = (w.alloc (.cells #[.slice A n c] 28)) := ⟨_, rfl⟩
  have hnw : Nw w W1 := by rw [hW1]; exact nwa
  have hcell : W1.cell? ⟨w.heap.size, 0, none⟩ = some (.slice A n c) := by rw [hW1]; simp [go_sem]
  have hsz : W1.heap.size = w.heap.size + 1 := by rw [hW1]; simp
  have hB : ∀ b o, A = some ⟨b, o, none⟩ → 0 < n → b < w.heap.size := fun b o e hp => by
    obtain ⟨b', o', rfl, hb, _⟩ := hl.2 hp
    injection e with e; injection e with e1 e2; omega
  have HK := Lib.hid (hcheck_any A n c l W1 hn hc hcm (hl.nw hnw) hw)
  have HL := Lib.hid (hl.nw hnw)
  have hlen := hl.1
  have HW := Lib.hid hw
  have HB := Lib.hid hB
  have HW1 := Lib.hid hW1
  have HN := Lib.hid hnw
  have HS := Lib.hid hsz
  clear hl hw hW1 hnw hB hsz
  haveI : In w.heap.size W1 := ⟨by have := HS.out; omega⟩
  rcases chk_cases l with ⟨hb, hv⟩ | ⟨i, hb, hv⟩
  · rw [hv] at HK
    have HBD := Lib.hid hb
    have hE : chkE l = 0 := by simp [chkE, hb]
    rw [hE]
    clear hb hv hE
    go_enter Tryz.func54, Tryz.ntmps54
    go_wp2_with (go_at_call 18; rw [← HW1.out]; refine (HK.out).mono ?_; rintro e w' ⟨rfl, dW, rfl⟩)
    go_loopw [6, 7, 8, 19] (fun a _ _ i wr => ∃ k : Nat, k ≤ n ∧ i = .int .i64 k ∧ OwnI wr W1.heap.size a (natI (idxK l k)) ∧ Nw W1 wr) (fun _ _ _ i _ => n - (intOf i).toNat)
    case atStart => exact ⟨0, by omega, rfl, World.ownsRow_nil _ _ _ _, nwa⟩
    case round =>
      obtain ⟨k, hk, rfl, hown, d, rfl⟩ := hrel
      by_cases hlt : k < n
      · obtain ⟨b, o, x, rfl, hb, hx, hcx⟩ := HL.out.get hlt
        haveI : CallAt W1 b (o + k * 18) x := ⟨hcx, hb⟩
        have hP := Lib.hid (idxK_succ hx)
        have hle : (natI (idxK l k)).length ≤ k := by rw [natI, List.length_map]; exact idxK_len l k
        have hkn : (k : Int) < (n : Int) := by omega
        clear hx hcx
        by_cases h0 : 0 ≤ x.took
        · have hd : decide (0 ≤ x.took) = true := by simpa using h0
          go_wp2_with (at_builtin; refine wpList_app1 rfl _ _ 46 rfl 3 (.int .i64 0) 1 8 Tryz.underlying46 intInfo rfl (by decide) (W1) _ nwa _ _ _ rfl (by first | assumption | exact own_nw (by assumption) nwa) _ 1 1 _ _ rfl (by first | rfl | simp) rfl (by intro u hu; simp at hu; (repeat' rcases hu with rfl | hu) <;> first | rfl | (subst hu; rfl)) (by unfold maxLen; omega) (by omega) ?_; intro vA dA hownA)
          refine ⟨⟨k + 1, by omega, by go_num, OwnI.cast hownA (by rw [hP.out]; simp [h0, natI]) (by rw [hP.out, if_pos h0, natI_app]; simp [ints, natI]), ⟨_, rfl⟩⟩, by simp [intOf]; omega⟩
        · have hd : decide (0 ≤ x.took) = false := by simpa using h0
          go_wp2
          refine ⟨⟨k + 1, by omega, by go_num, OwnI.cast (own_nw hown (nwa)) (by rw [hP.out]; simp [h0, natI]) (by rw [hP.out]; simp [h0]), nwa⟩, by simp [intOf]; omega⟩
      · have hkn : k = n := by omega
        subst hkn
        have hcl := HL.out.ext d
        have hcell' : (W1.ext none d).cell? ⟨w.heap.size, 0, none⟩ = some (.slice A k c) := by rw [cell_ext]; exact hcell
        rcases hown.2 with ⟨rfl, h0⟩ | ⟨g, cap, cur, hu, hgb, hgg, hgn, hgm, _, _⟩
        · have hnil : idxK l k = [] := by rw [← List.length_eq_zero_iff, ← h0]; simp [natI]
          have hE : IsEff l [] := by
            have h1 := eff_of HBD.out (ys := []) (by rw [hlen, hnil]) (by simp)
            exact h1
          have HE := Lib.hid (show EffP l [] from ⟨fun _ => hE, fun h => absurd HBD.out h⟩)
          clear hown h0 hnil hE hcl
          go_wp2_with (go_at_call 69; refine (sort_nil _ _ _ _).mono ?_; rintro e w' ⟨rfl, rfl⟩)
          refine bodyPost_ret (results_tmp2 rfl _ _ _) rfl ⟨.slice none 0 0, [], rfl, HE.out, World.ownsRow_nil _ _ _ _, HN.out.trans ⟨_, rfl⟩⟩
        · obtain ⟨m, hm⟩ : ∃ m, (natI (idxK l k)).length = m := ⟨_, rfl⟩
          have hml : (idxK l k).length = m := by rw [← hm]; simp [natI]
          have hmk : m ≤ k := by rw [← hml]; exact idxK_len l k
          have hown' : (W1.ext none d).ownsRow W1.heap.size 3 1 u6 m (ints (natI (idxK l k))) := by rw [← hm]; exact hown
          rw [hm] at hu
          subst hu
          have hns := HS.out
          have hfin : ∀ ys : List Nat, ys.Perm (idxK l k) → ys.Pairwise (fun i j => tk l i ≤ tk l j) → EffP l ys := fun ys h1 h2 => ⟨fun _ => eff_of HBD.out (by rw [hlen]; exact h1) h2, fun h => absurd HBD.out h⟩
          have HF := Lib.hid hfin
          by_cases hm0 : m = 0
          · subst hm0
            have hnil : idxK l k = [] := List.eq_nil_of_length_eq_zero hml
            have hown2 : OwnI (W1.ext none d) W1.heap.size (.slice (some ⟨g, 0, none⟩) 0 cap) (natI []) := OwnI.cast hown' (by simp [natI]) (by rw [hnil])
            have hP : EffP l [] := hfin [] (by rw [hnil]) (by simp)
            have HP2 := Lib.hid hP
            have HSZ := Lib.hid HN.out.grown.size
            clear hown hown' hgg hcl hfin hnil hP
            go_wp2_with (go_at_call 69; refine (sort_nil _ _ _ _).mono ?_; rintro e w' ⟨rfl, rfl⟩)
            refine bodyPost_ret (results_tmp2 rfl _ _ _) rfl ⟨_, [], rfl, HP2.out, own_le hown2 HSZ.out, HN.out.trans ⟨_, rfl⟩⟩
          · obtain ⟨b, o, rfl, hb, hc0⟩ := hcl.2 (by omega)
            have hbw := HB.out b o rfl (by omega)
            have hsrt := sort_any W1.heap.size g m cap w.heap.size b o k c l (idxK l k) (W1.ext none d) hn hcl HW.out (fun i hi => ((idxK_mem l k i).1 hi).2) (fun h => hm0 (by rw [← hml, h]; rfl)) hml (by omega) hcell' (by omega) (by omega) hown'
            have HSR := Lib.hid hsrt
            have HSZ := Lib.hid HN.out.grown.size
            clear hown hown' hgg hcl hc0 hfin hsrt
            go_wp2_with (go_at_call 69; refine HSR.out.mono ?_; rintro e w' ⟨rfl, ys, hp, hs, hown2, hgrow⟩)
            have hP := HF.out ys hp hs
            obtain ⟨d2, rfl⟩ : Nw W1 w' := (show Nw W1 (W1.ext none d) from ⟨_, rfl⟩).row hgrow (fun q hq => by injection hq with hq; subst hq; exact hgb)
            have hown3 : OwnI (W1.ext none d2) W1.heap.size (.slice (some ⟨g, 0, none⟩) m cap) (natI ys) := OwnI.cast hown2 (by rw [natI, List.length_map, hp.length_eq, hml]) rfl
            clear hown2 hgrow
            have HP2 := Lib.hid hP
            clear hp hs hP
            go_wp2
            refine bodyPost_ret (results_tmp2 rfl _ _ _) rfl ⟨_, ys, rfl, HP2.out, own_le hown3 HSZ.out, HN.out.trans ⟨_, rfl⟩⟩
  · rw [hv] at HK
    have hE : chkE l = 15 := by simp [chkE, hb]
    have hP : EffP l [] := ⟨fun h => absurd (hb.symm.trans h) (by simp), fun _ => rfl⟩
    rw [hE]
    have HP := Lib.hid hP
    clear hb hv hE hP
    go_enter Tryz.func54, Tryz.ntmps54
    go_wp2_with (go_at_call 18; rw [← HW1.out]; refine (HK.out).mono ?_; rintro e w' ⟨rfl, dW, rfl⟩)
    refine bodyPost_ret (results_tmp2 rfl _ _ _) rfl ⟨.slice none 0 0, [], rfl, HP.out, World.ownsRow_nil _ _ _ _, HN.out.trans ⟨_, rfl⟩⟩
end Go.Proofs.YtkikdpdainmlcaaGreat
