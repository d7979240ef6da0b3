import Derived.Test.YtjpgechcfkhoaaaX
import Derived.Shelf.SlSortCmp.NoneTotal
import Derived.Sort.Grow
namespace Go.Proofs.Ytjpgechcfkhoaaa
open Go.RowKit Go.Xt Go.Shelf Go.Sort
def sortL_ren : Go.Shelf.Ren := ⟨fun | 6 => 40 | 15 => 50 | 14 => 49 | 28 => 60 | 29 => 61 | 20 => 52 | 21 => 53 | 22 => 54 | 23 => 55 | 24 => 56 | 25 => 57 | 26 => 58 | 27 => 59 | 46 => 62 | 47 => 63 | 48 => 64 | 49 => 65 | 50 => 66 | 57 => 67 | n => n, fun | 22 => 30 | 24 => 3 | 25 => 72 | 3 => 3 | 39 => 81 | 0 => 0 | 53 => 91 | 55 => 41 | 4 => 4 | 46 => 85 | 45 => 84 | 50 => 74 | 5 => 5 | 9 => 9 | 66 => 93 | 70 => 97 | 76 => 99 | 77 => 76 | n => n, fun | n => n⟩
theorem sortL : Go.Proofs.SlLaysF.n6 Try.prog sortL_ren := {
  mixed := by kernel_rfl,
  f6 := ⟨Try.f40.name, by decide, Try.func40.trans (congrArg some (by kernel_rfl))⟩,
  f14 := ⟨Try.f49.name, by decide, Try.func49.trans (congrArg some (by kernel_rfl))⟩,
  f15 := Try.func50.trans (congrArg some (by kernel_rfl)),
  f20 := ⟨Try.f52.name, by decide, Try.func52.trans (congrArg some (by kernel_rfl))⟩,
  f21 := ⟨Try.f53.name, by decide, Try.func53.trans (congrArg some (by kernel_rfl))⟩,
  f22 := ⟨Try.f54.name, by decide, Try.func54.trans (congrArg some (by kernel_rfl))⟩,
  f23 := ⟨Try.f55.name, by decide, Try.func55.trans (congrArg some (by kernel_rfl))⟩,
  f24 := ⟨Try.f56.name, by decide, Try.func56.trans (congrArg some (by kernel_rfl))⟩,
  f25 := ⟨Try.f57.name, by decide, Try.func57.trans (congrArg some (by kernel_rfl))⟩,
  f26 := ⟨Try.f58.name, by decide, Try.func58.trans (congrArg some (by kernel_rfl))⟩,
  f27 := ⟨Try.f59.name, by decide, Try.func59.trans (congrArg some (by kernel_rfl))⟩,
  f28 := Try.func60.trans (congrArg some (by kernel_rfl)),
  f29 := Try.func61.trans (congrArg some (by kernel_rfl)),
  f46 := ⟨Try.f62.name, by decide, Try.func62.trans (congrArg some (by kernel_rfl))⟩,
  f47 := Try.func63.trans (congrArg some (by kernel_rfl)),
  f48 := Try.func64.trans (congrArg some (by kernel_rfl)),
  f49 := ⟨Try.f65.name, by decide, Try.func65.trans (congrArg some (by kernel_rfl))⟩,
  f50 := ⟨Try.f66.name, by decide, Try.func66.trans (congrArg some (by kernel_rfl))⟩,
  f57 := ⟨Try.f67.name, by decide, Try.func67.trans (congrArg some (by kernel_rfl))⟩,
  t0 := Try.underlying0,
  a0 := Try.isAgg0,
  z0 := Try.sizeOf0,
  v0 := Try.zeroValue0,
  t3 := Try.underlying3,
  a3 := Try.isAgg3,
  z3 := Try.sizeOf3,
  v3 := Try.zeroValue3,
  t4 := Try.underlying4,
  a4 := Try.isAgg4,
  z4 := Try.sizeOf4,
  v4 := Try.zeroValue4,
  t5 := Try.underlying5,
  a5 := Try.isAgg5,
  z5 := Try.sizeOf5,
  v5 := Try.zeroValue5,
  t9 := Try.underlying9,
  a9 := Try.isAgg9,
  z9 := Try.sizeOf9,
  v9 := Try.zeroValue9,
  t22 := Try.underlying30,
  a22 := Try.isAgg30,
  z22 := Try.sizeOf30,
  v22 := Try.zeroValue30,
  a24 := Try.isAgg3,
  z24 := Try.sizeOf3,
  t25 := Try.underlying72,
  a25 := Try.isAgg72,
  z25 := Try.sizeOf72,
  v25 := Try.zeroValue72,
  t39 := Try.underlying81,
  a39 := Try.isAgg81,
  z39 := Try.sizeOf81,
  v39 := Try.zeroValue81,
  t45 := Try.underlying84,
  a45 := Try.isAgg84,
  z45 := Try.sizeOf84,
  v45 := Try.zeroValue84,
  t46 := Try.underlying85,
  a46 := Try.isAgg85,
  z46 := Try.sizeOf85,
  v46 := Try.zeroValue85,
  t50 := Try.underlying74,
  a50 := Try.isAgg74,
  z50 := Try.sizeOf74,
  v50 := Try.zeroValue74,
  t53 := Try.underlying91,
  a53 := Try.isAgg91,
  z53 := Try.sizeOf91,
  v53 := Try.zeroValue91,
  t55 := Try.underlying41,
  a55 := Try.isAgg41,
  z55 := Try.sizeOf41,
  v55 := Try.zeroValue41,
  t66 := Try.underlying93,
  a66 := Try.isAgg93,
  z66 := Try.sizeOf93,
  v66 := Try.zeroValue93,
  t70 := Try.underlying97,
  a70 := Try.isAgg97,
  z70 := Try.sizeOf97,
  v70 := Try.zeroValue97,
  t76 := Try.underlying99,
  a76 := Try.isAgg99,
  z76 := Try.sizeOf99,
  v76 := Try.zeroValue99,
  t77 := Try.underlying76,
  a77 := Try.isAgg76,
  z77 := Try.sizeOf76,
  v77 := Try.zeroValue76 }

theorem own_of_sort1 {α : Type} {enc : α → Value} [Inhabited α] {w : World} {base : Nat} {e : TypeId} {g n cap : Nat} {xs : List Value}
    (h : w.ownsRow base e 1 (.slice (some ⟨g, 0, none⟩) n cap) n xs) (m : Nat) (d : Array α) (os : Array Obj) (hd : d.size = n) :
    (sortWorld enc w g 0 m d os).ownsRow base e 1 (.slice (some ⟨g, 0, none⟩) n cap) n (d.toList.map enc) ∧ w.grownBy (sortWorld enc w g 0 m d os) (some g) := by
  rcases h.2 with ⟨h', _⟩ | ⟨g', cap', cur, h', hb, hg, hnc, hcm, hcs, htake⟩
  · simp at h'
  · simp only [Value.slice.injEq, Option.some.injEq, Addr.mk.injEq, and_true, true_and] at h'
    obtain ⟨rfl, rfl⟩ := h'
    have hlt : g < w.heap.size := (Array.getElem?_eq_some_iff.1 hg).1
    have hheap : ∀ i : Nat, (sortWorld enc w g 0 m d os).heap[i]? = ((w.heap.modify g (onCells (putCells enc 0 d))) ++ os)[i]? := fun _ => rfl
    refine ⟨⟨by simp [hd], .inr ⟨g, cap, putCells enc 0 d cur, rfl, hb, ?_, hnc, hcm, by simpa [putCells] using hcs, ?_⟩⟩, ⟨rfl, rfl, rfl, ?_, fun i hi hne => ?_⟩⟩
    · rw [hheap, Array.getElem?_append_left (by simpa using hlt), Array.getElem?_modify, if_pos rfl, hg]; rfl
    · have hsz : n * 1 ≤ cur.size := by rw [hcs]; exact Nat.mul_le_mul_right _ hnc
      apply List.ext_getElem?
      intro t
      by_cases ht : t < n * 1
      · rw [List.getElem?_take_of_lt ht]
        have h1 : t < d.size := by omega
        have h2 : t < cur.size := by omega
        simp only [putCells, Array.getElem?_toList, Array.getElem?_mapIdx, List.getElem?_map]
        rw [Array.getElem?_eq_getElem h2]
        simp only [Option.map_some]
        rw [if_pos ⟨by omega, by omega⟩, Nat.sub_zero, getElem!_pos d t h1, Array.getElem?_eq_getElem h1]; rfl
      · rw [List.getElem?_eq_none (by rw [List.length_take]; omega), List.getElem?_eq_none (by simp; omega)]
    · show w.heap.size ≤ ((w.heap.modify g _) ++ os).size
      simp
    · rw [hheap, Array.getElem?_append_left (by simpa using hi), Array.getElem?_modify, if_neg (fun h => hne (by rw [h]))]
/-- The step at which a call took effect. -/
def tk (l : List Cl) (i : Nat) : Int := match l[i]? with | some x => x.took | none => 0
/-- An index of a call that took effect. -/
abbrev Ix (l : List Cl) : Type := { i : Nat // ∃ x, l[i]? = some x ∧ 0 ≤ x.took ∧ x.took ≤ 9223372036854775807 }
def encI {l : List Cl} (i : Ix l) : Value := .int .i64 (i.1 : Int)
def cfI {l : List Cl} (i j : Ix l) : Int := tk l i.1 - tk l j.1
theorem ltI {l : List Cl} (i j : Ix l) : ltOf cfI i j = decide (tk l i.1 < tk l j.1) := by
  unfold ltOf cfI
  by_cases h : tk l i.1 < tk l j.1
  · simp [h]; omega
  · simp [h]; omega
theorem swoI {l : List Cl} : SWO (ltOf (cfI (l := l))) where
  irrefl x := by rw [ltI]; simp
  trans x y z h1 h2 := by rw [ltI] at *; simp at *; omega
  ntrans x y z h1 h2 := by rw [ltI] at *; simp at *; omega
set_option maxHeartbeats 1000000 in
theorem closure_any (Bl b o n c i j : Nat) (p q : Int) (W : World) (hs : W.cell? ⟨Bl, 0, none⟩ = some (.slice (some ⟨b, o, none⟩) n c)) (hi : i < n) (hj : j < n) (hn : n ≤ 1000)
    (ci : W.cell? ⟨b, o + i * 18 + 10, none⟩ = some (.int .i64 p)) (cj : W.cell? ⟨b, o + j * 18 + 10, none⟩ = some (.int .i64 q)) (p0 : 0 ≤ p) (p1 : p ≤ 9223372036854775807) (q0 : 0 ≤ q) (q1 : q ≤ 9223372036854775807) :
    Calls Try.prog 41 #[.int .i64 (i : Int), .int .i64 (j : Int), .pointer (some ⟨Bl, 0, none⟩)] W fun e w' => e = .returned (.int .i64 (p - q)) ∧ ∃ k, w' = W.drewN k := by
  go_enter Try.func41, Try.ntmps41
  go_wp2
  go_quiet (fail)
  go_wp2
  go_ret
  exact ⟨rfl, nq, rfl⟩
theorem cell_sort {α : Type} [Inhabited α] (enc : α → Value) (w : World) (g m : Nat) (d : Array α) (os : Array Obj) (a : Addr) (h : a.block ≠ g) (ha : a.block < w.heap.size) : (sortWorld enc w g 0 m d os).cell? a = w.cell? a := by
  show (grow (putRow enc (Sort.ahead w m) g 0 d) os).cell? a = _
  rw [cell?_grow _ _ _ (by simpa [putRow, mapBlock, Sort.ahead] using ha), cell?_putRow_other _ _ g 0 d _ (.inl h)]
  rfl
/-- The library's sort, at a row of indices of the call's own. -/
theorem sort_any (base g m cap Bl b o n c : Nat) (l : List Cl) (xs : List Nat) (w : World) (hn : n ≤ 1000) (hl : Cs w (some ⟨b, o, none⟩) n l) (hw : ∀ y ∈ l, WfC y) (hxs : ∀ i ∈ xs, ∃ x, l[i]? = some x ∧ 0 ≤ x.took) (hx0 : xs ≠ []) (hm : xs.length = m) (hm1 : m ≤ 1000)
    (hBl : w.cell? ⟨Bl, 0, none⟩ = some (.slice (some ⟨b, o, none⟩) n c)) (hgB : Bl ≠ g) (hgb : b ≠ g) (hown : w.ownsRow base 3 1 (.slice (some ⟨g, 0, none⟩) m cap) m (ints (xs.map fun i : Nat => (i : Int)))) :
    Calls Try.prog 40 #[.slice (some ⟨g, 0, none⟩) m cap, .func (.func 41) #[] #[.pointer (some ⟨Bl, 0, none⟩)]] w fun e w' => e = .returned (.tuple #[]) ∧
      ∃ ys : List Nat, ys.Perm xs ∧ ys.Pairwise (fun i j => tk l i ≤ tk l j) ∧ w'.ownsRow base 3 1 (.slice (some ⟨g, 0, none⟩) m cap) m (ints (ys.map fun i : Nat => (i : Int))) ∧ w.grownBy w' (some g) := by
  have hxs' : ∀ i ∈ xs, ∃ x, l[i]? = some x ∧ 0 ≤ x.took ∧ x.took ≤ 9223372036854775807 := fun i hi => by
    obtain ⟨x, h1, h2⟩ := hxs i hi
    exact ⟨x, h1, h2, (hw x (List.mem_of_getElem? h1)).took.2⟩
  obtain ⟨zs, hzs⟩ : ∃ zs : List (Ix l), zs.map (·.1) = xs := ⟨xs.attach.map fun i => ⟨i.1, hxs' i.1 i.2⟩, by simp⟩
  haveI : Inhabited (Ix l) := ⟨by
    cases hzs' : zs with
    | nil => exact absurd (by rw [← hzs, hzs']; rfl) hx0
    | cons a _ => exact a⟩
  have hal : zs.length = m := by rw [← hm, ← hzs, List.length_map]
  have heq : ints (xs.map fun i : Nat => (i : Int)) = zs.map encI := by rw [← hzs]; simp [ints, encI]
  rw [heq] at hown
  have eg : ∀ args w, (callFunc 41 args).run Try.prog w = .ok (.enter 41 args) w := enters_of Try.func41 (by kernel_rfl) rfl
  have hg : g < w.heap.size := (hown.lt g rfl).2
  have hbB := World.block_lt_of_cell? w _ hBl
  have hH : Holds encI w g 0 zs.toArray := fun j hj => by
    have hj' : j < m := by simpa [hal] using hj
    rw [Nat.zero_add]
    refine ⟨?_, hown.frozenAt j⟩
    rw [hown.cellAt j (by omega), List.getElem?_map]
    simp at hj
    rw [getElem!_pos _ _ (by simpa using hj)]
    simp [hj]
  have hcmp : CmpLays1 Try.prog 41 #[.pointer (some ⟨Bl, 0, none⟩)] encI (cfI (l := l)) g 0 zs.toArray.size w := by
    refine CmpReads.lays fun q os dk hs x y => ?_
    obtain ⟨i, xi, hi, hi0, hi1⟩ := x
    obtain ⟨j, xj, hj, hj0, hj1⟩ := y
    have hil : i < n := by rw [← hl.1]; exact (List.getElem?_eq_some_iff.1 hi).1
    have hjl : j < n := by rw [← hl.1]; exact (List.getElem?_eq_some_iff.1 hj).1
    obtain ⟨b', o', e, hb, hc⟩ := hl.2 (by omega)
    obtain ⟨rfl, rfl⟩ : b = b' ∧ o = o' := by simpa using e
    obtain ⟨_, _, _, _, _, _, _, _, _, _, ci, _⟩ := hc i xi hi
    obtain ⟨_, _, _, _, _, _, _, _, _, _, cj, _⟩ := hc j xj hj
    have hc1 := closure_any Bl b o n c i j xi.took xj.took (sortWorld encI w g 0 q dk os) ((cell_sort _ _ _ _ _ _ _ hgB hbB).trans hBl) hil hjl hn ((cell_sort _ _ _ _ _ _ _ hgb hb).trans ci) ((cell_sort _ _ _ _ _ _ _ hgb hb).trans cj) hi0 hi1 hj0 hj1
    have e1 : cfI (l := l) ⟨i, xi, hi, hi0, hi1⟩ ⟨j, xj, hj, hj0, hj1⟩ = xi.took - xj.took := by simp [cfI, tk, hi, hj]
    rw [e1]
    exact hc1
  have hcon := Any.slices_SortFunc sortL encI (fun _ => rfl) cfI swoI 41 #[.pointer (some ⟨Bl, 0, none⟩)] g 0 cap zs.toArray w eg hcmp hH hg (by simp; omega)
  simp only [List.size_toArray, hal] at hcon
  refine Calls.mono (P := Try.prog) hcon ?_
  rintro e w' ⟨rfl, d', k, os, hp, hs, rfl⟩
  obtain ⟨h1, _, h3⟩ := hp
  have hd : d'.size = m := by simpa [hal] using h1
  obtain ⟨o1, o2⟩ := own_of_sort1 (enc := encI) hown k d' os hd
  have hperm : d'.toList.Perm zs := by
    have e1 : d'.extract 0 m = d' := by rw [← hd]; exact Array.extract_size
    have e2 : zs.toArray.extract 0 m = zs.toArray := by rw [← hal]; exact Array.extract_size
    rw [e1, e2] at h3
    exact h3
  refine ⟨rfl, d'.toList.map (·.1), ?_, ?_, ?_, o2⟩
  · rw [← hzs]; exact hperm.map _
  · rw [List.pairwise_map, List.pairwise_iff_getElem]
    intro i j hi hj hij
    have hj' : j < d'.size := by simpa using hj
    have := hs i j (Nat.zero_le _) hij (by omega)
    rw [ltI, decide_eq_false_iff_not] at this
    rw [getElem!_pos d' j hj', getElem!_pos d' i (by omega)] at this
    simp only [Array.getElem_toList]
    omega
  · have e3 : ints ((d'.toList.map (·.1)).map fun i : Nat => (i : Int)) = d'.toList.map encI := by simp [ints, encI]
    rw [e3]; exact o1
theorem sort_nil (p : Option Addr) (cap : Nat) (fv : Value) (w : World) :
    Calls Try.prog 40 #[.slice p 0 cap, fv] w fun e w' => e = .returned (.tuple #[]) ∧ w' = w := AnyF.slices_SortFunc_none { sortL with } p cap fv w
end Go.Proofs.Ytjpgechcfkhoaaa
