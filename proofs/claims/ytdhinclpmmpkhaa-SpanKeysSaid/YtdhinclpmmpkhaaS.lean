import Derived.Test.YtdhinclpmmpkhaaF
import Derived.Test.YtdhinclpmmpkhaaSortK
namespace Go.Proofs.Ytdhinclpmmpkhaa
open Go.RowKit Go.Xt Go.Shelf Go.Sort
def sortL_ren : Go.Shelf.Ren := ⟨fun | 6 => 37 | 15 => 46 | 14 => 45 | 28 => 57 | 29 => 58 | 20 => 49 | 21 => 50 | 22 => 51 | 23 => 52 | 24 => 53 | 25 => 54 | 26 => 55 | 27 => 56 | 46 => 59 | 47 => 60 | 48 => 61 | 49 => 62 | 50 => 63 | 57 => 64 | n => n, fun | 22 => 37 | 24 => 24 | 25 => 59 | 3 => 3 | 39 => 65 | 0 => 0 | 53 => 77 | 55 => 22 | 4 => 4 | 46 => 70 | 45 => 69 | 50 => 74 | 5 => 5 | 9 => 9 | 66 => 79 | 70 => 83 | 76 => 85 | 77 => 86 | n => n, fun | n => n⟩
theorem sortL : Go.Proofs.SlLaysF0.n6 Try.prog sortL_ren := {
  mixed := by kernel_rfl,
  f6 := ⟨Try.f37.name, by decide, Try.func37.trans (congrArg some (by kernel_rfl))⟩,
  f14 := ⟨Try.f45.name, by decide, Try.func45.trans (congrArg some (by kernel_rfl))⟩,
  f15 := Try.func46.trans (congrArg some (by kernel_rfl)),
  f20 := ⟨Try.f49.name, by decide, Try.func49.trans (congrArg some (by kernel_rfl))⟩,
  f21 := ⟨Try.f50.name, by decide, Try.func50.trans (congrArg some (by kernel_rfl))⟩,
  f22 := ⟨Try.f51.name, by decide, Try.func51.trans (congrArg some (by kernel_rfl))⟩,
  f23 := ⟨Try.f52.name, by decide, Try.func52.trans (congrArg some (by kernel_rfl))⟩,
  f24 := ⟨Try.f53.name, by decide, Try.func53.trans (congrArg some (by kernel_rfl))⟩,
  f25 := ⟨Try.f54.name, by decide, Try.func54.trans (congrArg some (by kernel_rfl))⟩,
  f26 := ⟨Try.f55.name, by decide, Try.func55.trans (congrArg some (by kernel_rfl))⟩,
  f27 := ⟨Try.f56.name, by decide, Try.func56.trans (congrArg some (by kernel_rfl))⟩,
  f28 := Try.func57.trans (congrArg some (by kernel_rfl)),
  f29 := Try.func58.trans (congrArg some (by kernel_rfl)),
  f46 := ⟨Try.f59.name, by decide, Try.func59.trans (congrArg some (by kernel_rfl))⟩,
  f47 := Try.func60.trans (congrArg some (by kernel_rfl)),
  f48 := Try.func61.trans (congrArg some (by kernel_rfl)),
  f49 := ⟨Try.f62.name, by decide, Try.func62.trans (congrArg some (by kernel_rfl))⟩,
  f50 := ⟨Try.f63.name, by decide, Try.func63.trans (congrArg some (by kernel_rfl))⟩,
  f57 := ⟨Try.f64.name, by decide, Try.func64.trans (congrArg some (by kernel_rfl))⟩,
  t0 := Try.underlying0,
  a0 := Try.isAgg0,
  z0 := Try.sizeOf0,
  v0 := Try.zeroValue0,
  t3 := Try.underlying3,
  a3 := Try.isAgg3,
  z3 := Try.sizeOf3,
  v3 := Try.zeroValue3,
  t4 := Try.underlying4,
  a4 := Try.isAgg4,
  z4 := Try.sizeOf4,
  v4 := Try.zeroValue4,
  t5 := Try.underlying5,
  a5 := Try.isAgg5,
  z5 := Try.sizeOf5,
  v5 := Try.zeroValue5,
  t9 := Try.underlying9,
  a9 := Try.isAgg9,
  z9 := Try.sizeOf9,
  v9 := Try.zeroValue9,
  t22 := Try.underlying37,
  a22 := Try.isAgg37,
  z22 := Try.sizeOf37,
  v22 := Try.zeroValue37,
  t25 := Try.underlying59,
  a25 := Try.isAgg59,
  z25 := Try.sizeOf59,
  v25 := Try.zeroValue59,
  t39 := Try.underlying65,
  a39 := Try.isAgg65,
  z39 := Try.sizeOf65,
  v39 := Try.zeroValue65,
  t45 := Try.underlying69,
  a45 := Try.isAgg69,
  z45 := Try.sizeOf69,
  v45 := Try.zeroValue69,
  t46 := Try.underlying70,
  a46 := Try.isAgg70,
  z46 := Try.sizeOf70,
  v46 := Try.zeroValue70,
  t50 := Try.underlying74,
  a50 := Try.isAgg74,
  z50 := Try.sizeOf74,
  v50 := Try.zeroValue74,
  t53 := Try.underlying77,
  a53 := Try.isAgg77,
  z53 := Try.sizeOf77,
  v53 := Try.zeroValue77,
  t55 := Try.underlying22,
  a55 := Try.isAgg22,
  z55 := Try.sizeOf22,
  v55 := Try.zeroValue22,
  t66 := Try.underlying79,
  a66 := Try.isAgg79,
  z66 := Try.sizeOf79,
  v66 := Try.zeroValue79,
  t70 := Try.underlying83,
  a70 := Try.isAgg83,
  z70 := Try.sizeOf83,
  v70 := Try.zeroValue83,
  t76 := Try.underlying85,
  a76 := Try.isAgg85,
  z76 := Try.sizeOf85,
  v76 := Try.zeroValue85,
  t77 := Try.underlying86,
  a77 := Try.isAgg86,
  z77 := Try.sizeOf86,
  v77 := Try.zeroValue86 }

def cmpI (x y : Int) : Int := if x < y then -1 else if y < x then 1 else 0
set_option maxHeartbeats 400000 in
theorem isNaN_any (a : Int) (w : World) : Calls Try.prog 47 #[.int .u64 a] w fun e w' => e = .returned (.bool false) ∧ w = w' := by
  go_enter Try.func47, Try.ntmps47
  go_wp2
  go_ret
  exact ⟨ret_bool (by simp), rfl⟩
set_option maxHeartbeats 400000 in
theorem compare_any (a b : Int) (w : World) : Calls Try.prog 39 #[.int .u64 a, .int .u64 b] w fun e w' => e = .returned (.int .i64 (cmpI a b)) ∧ w = w' := by
  by_cases h1 : a < b
  · go_enter Try.func39, Try.ntmps39
    go_wp2_with (go_at_call 47; refine (isNaN_any _ _).mono ?_; rintro e w' ⟨rfl, rfl⟩)
    go_ret
    exact ⟨ret_int (by simp [cmpI, h1]), rfl⟩
  · by_cases h2 : b < a
    · go_enter Try.func39, Try.ntmps39
      go_wp2_with (go_at_call 47; refine (isNaN_any _ _).mono ?_; rintro e w' ⟨rfl, rfl⟩)
      go_ret
      exact ⟨ret_int (by rw [cmpI, if_neg (by omega), if_pos h2]), rfl⟩
    · go_enter Try.func39, Try.ntmps39
      go_wp2_with (go_at_call 47; refine (isNaN_any _ _).mono ?_; rintro e w' ⟨rfl, rfl⟩)
      go_ret
      exact ⟨ret_int (by rw [cmpI, if_neg (by omega), if_neg (by omega)]), rfl⟩
def encS (x : Int × Int) : List Value := [.int .u64 x.1, .int .u64 x.2]
set_option maxHeartbeats 400000 in
theorem closure (x y : Int × Int) (W : World) : Calls Try.prog 38 #[sp x.1 x.2, sp y.1 y.2] W fun e w' => e = .returned (.int .i64 (cmpI x.1 y.1)) ∧ ∃ q os', w' = grow (W.drewN q) os' := by
  go_enter Try.func38, Try.ntmps38
  go_wp2_with (go_at_call 39; refine (compare_any _ _ _).mono ?_; rintro e w' ⟨rfl, rfl⟩)
  go_ret
  exact ⟨rfl, 0, _, by rw [alloc_eq_grow, alloc_eq_grow, grow_grow]; rfl⟩
theorem ltLo (x y : Int × Int) : ltOf (fun x y : Int × Int => cmpI x.1 y.1) x y = decide (x.1 < y.1) := by
  unfold ltOf cmpI
  by_cases h1 : x.1 < y.1
  · simp [h1]
  · by_cases h2 : y.1 < x.1 <;> simp [h1, h2]
theorem swoLo : SWO (ltOf fun x y : Int × Int => cmpI x.1 y.1) where
  irrefl x := by rw [ltLo]; simp
  trans x y z h1 h2 := by rw [ltLo] at *; simp at *; omega
  ntrans x y z h1 h2 := by rw [ltLo] at *; simp at *; omega
theorem encS_one (x : Int × Int) : ∀ v ∈ encS x, v.oneCell' = true := by
  intro v hv
  simp [encS] at hv
  rcases hv with rfl | rfl <;> rfl
/-- The library's sort, at a row of the call's own. -/
theorem sort_any (base g n cap : Nat) (l : List (Int × Int)) (w : World) (hl : l.length = n) (hn : n < 4611686018427387904) (hown : w.ownsRow base 24 2 (.slice (some ⟨g, 0, none⟩) n cap) n (cells l)) :
    Calls Try.prog 37 #[.slice (some ⟨g, 0, none⟩) n cap, .func (.func 38) #[] #[]] w fun e w' => e = .returned (.tuple #[]) ∧
      ∃ d : List (Int × Int), d.Perm l ∧ d.Pairwise (fun x y => x.1 ≤ y.1) ∧ w'.ownsRow base 24 2 (.slice (some ⟨g, 0, none⟩) n cap) n (cells d) ∧ w.grownBy w' (some g) := by
  have eg : ∀ args w, (callFunc 38 args).run Try.prog w = .ok (.enter 38 args) w := enters_of Try.func38 (by kernel_rfl) rfl
  have hg : g < w.heap.size := (hown.lt g rfl).2
  have hH : HoldsK encS 2 w g 0 l.toArray := holds_of_own (fun _ => rfl) (by decide) hl hown
  have hcon := AnyQ.slices_SortFunc sortL 2 Try.isAgg24 Try.sizeOf24 encS (fun _ => rfl) encS_one (fun x y => cmpI x.1 y.1) swoLo 38 #[] g 0 cap l.toArray w eg (fun _ _ _ _ x y => closure x y _) hH hg (by simpa [hl] using hn)
  simp only [List.size_toArray, hl] at hcon
  refine Calls.mono (P := Try.prog) hcon ?_
  rintro e w' ⟨rfl, d', m, os, hp, hs, rfl⟩
  obtain ⟨h1, _, h3⟩ := hp
  have hd : d'.size = n := by simpa [hl] using h1
  obtain ⟨o1, o2⟩ := own_of_sort (enc := encS) (fun _ => rfl) (by decide) hown m d' os hd
  refine ⟨rfl, d'.toList, ?_, ?_, o1, o2⟩
  · have e1 : d'.extract 0 n = d' := by rw [← hd]; exact Array.extract_size
    have e2 : l.toArray.extract 0 n = l.toArray := by rw [← hl]; exact Array.extract_size
    rw [e1, e2] at h3
    exact h3
  · rw [List.pairwise_iff_getElem]
    intro i j hi hj hij
    have hj' : j < d'.size := by simpa using hj
    have := hs i j (Nat.zero_le _) hij (by omega)
    rw [ltLo, decide_eq_false_iff_not] at this
    rw [getElem!_pos d' j hj', getElem!_pos d' i (by omega)] at this
    simp only [Array.getElem_toList]
    omega
theorem sort_nil (p : Option Addr) (cap : Nat) (fv : Value) (w : World) :
    Calls Try.prog 37 #[.slice p 0 cap, fv] w fun e w' => e = .returned (.tuple #[]) ∧ w' = w := AnyF.slices_SortFunc_none sortL p cap fv w
end Go.Proofs.Ytdhinclpmmpkhaa
