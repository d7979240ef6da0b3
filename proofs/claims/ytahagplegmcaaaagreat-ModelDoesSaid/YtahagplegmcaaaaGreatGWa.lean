import Derived.Test.YtahagplegmcaaaaGreatGPm
import Derived.Test.YtahagplegmcaaaaGreatGVf
set_option linter.unusedVariables false
set_option linter.unusedSimpArgs false
namespace Go.Proofs.YtahagplegmcaaaaGreat
open Go.RowKit Go.Xt
/-! The reference's plan of a move, plain: the keys, the changes, how many are born. -/
theorem hasK_mem {k : Int} : ∀ {l : List (Int × Int)}, asc l → (hasK k l = true ↔ ∃ v, (k, v) ∈ l)
  | [], _ => by simp [hasK, pos]
  | y :: r, h => by
    rw [hasK_cons]
    obtain ⟨h1, h2⟩ := List.pairwise_cons.1 h
    by_cases hy : y.1 < k
    · rw [if_pos hy, hasK_mem h2]
      constructor
      · rintro ⟨v, hv⟩; exact ⟨v, List.mem_cons_of_mem _ hv⟩
      · rintro ⟨v, hv⟩
        rcases List.mem_cons.1 hv with rfl | hv
        · simp at hy
        · exact ⟨v, hv⟩
    · rw [if_neg hy, decide_eq_true_eq]
      constructor
      · rintro rfl; exact ⟨y.2, by simp⟩
      · rintro ⟨v, hv⟩
        rcases List.mem_cons.1 hv with rfl | hv
        · rfl
        · have := h1 _ hv; simp at this; omega
theorem put_mem_key {j k x : Int} : ∀ {l : List (Int × Int)}, ((∃ v, (j, v) ∈ l) ∨ j = k) → ∃ v, (j, v) ∈ putL k x l
  | [], h => by
    rcases h with ⟨v, hv⟩ | rfl
    · simp at hv
    · exact ⟨x, by simp [putL]⟩
  | y :: r, h => by
    rw [putL]
    by_cases hy : y.1 < k
    · rw [if_pos hy]
      rcases h with ⟨v, hv⟩ | rfl
      · rcases List.mem_cons.1 hv with rfl | hv
        · exact ⟨v, by simp⟩
        · obtain ⟨u, hu⟩ := put_mem_key (j := j) (k := k) (x := x) (l := r) (.inl ⟨v, hv⟩)
          exact ⟨u, List.mem_cons_of_mem _ hu⟩
      · obtain ⟨u, hu⟩ := put_mem_key (j := j) (k := j) (x := x) (l := r) (.inr rfl)
        exact ⟨u, List.mem_cons_of_mem _ hu⟩
    · rw [if_neg hy]
      by_cases he : y.1 = k
      · rw [if_pos he]
        rcases h with ⟨v, hv⟩ | rfl
        · rcases List.mem_cons.1 hv with rfl | hv
          · exact ⟨x, by simp at he; simp [he]⟩
          · exact ⟨v, List.mem_cons_of_mem _ hv⟩
        · exact ⟨x, by simp⟩
      · rw [if_neg he]
        rcases h with ⟨v, hv⟩ | rfl
        · exact ⟨v, List.mem_cons_of_mem _ hv⟩
        · exact ⟨x, by simp⟩
theorem mv_mem_key {b j : Int} : ∀ (r : List (Int × Int)) {l : List (Int × Int)}, ((∃ v, (j, v) ∈ l) ∨ ∃ p ∈ r, p.1 + b = j) → ∃ v, (j, v) ∈ mvL b r l
  | [], l, h => by
    rcases h with h | ⟨p, hp, _⟩
    · exact h
    · simp at hp
  | q :: r, l, h => by
    show ∃ v, (j, v) ∈ mvL b r (putL (q.1 + b) q.2 l)
    apply mv_mem_key r
    rcases h with h | ⟨p, hp, he⟩
    · exact .inl (put_mem_key (.inl h))
    · rcases List.mem_cons.1 hp with rfl | hp
      · exact .inl (put_mem_key (.inr he.symm))
      · exact .inr ⟨p, hp, he⟩
/-- Two ascending lists, merged, each key once. -/
def mg : List Int → List Int → List Int
  | [], b => b
  | x :: a, [] => x :: a
  | x :: a, y :: b => if x < y then x :: mg a (y :: b) else if x = y then y :: mg a b else y :: mg (x :: a) b
termination_by a b => a.length + b.length
theorem mg_nil (a : List Int) : mg a [] = a := by cases a <;> simp [mg]
theorem mg_lt {x y : Int} (a b : List Int) (h : x < y) : mg (x :: a) (y :: b) = x :: mg a (y :: b) := by rw [mg, if_pos h]
theorem mg_eq {x y : Int} (a b : List Int) (h : x = y) : mg (x :: a) (y :: b) = y :: mg a b := by rw [mg, if_neg (by omega), if_pos h]
theorem mg_gt {x y : Int} (a b : List Int) (h : y < x) : mg (x :: a) (y :: b) = y :: mg (x :: a) b := by rw [mg, if_neg (by omega), if_neg (by omega)]
theorem mg_mem {z : Int} (a b : List Int) : z ∈ mg a b ↔ z ∈ a ∨ z ∈ b := by
  induction a, b using mg.induct with
  | case1 b => simp [mg]
  | case2 x a => simp [mg]
  | case3 x a y b h ih => rw [mg_lt _ _ h, List.mem_cons, ih]; simp only [List.mem_cons, or_assoc]
  | case4 x a b h ih =>
    rw [mg_eq _ _ rfl, List.mem_cons, ih]; simp only [List.mem_cons]
    constructor
    · rintro (h | h | h) <;> simp [h]
    · rintro ((h | h) | (h | h)) <;> simp [h]
  | case5 x a y b h he ih =>
    rw [mg_gt _ _ (by omega), List.mem_cons, ih]; simp only [List.mem_cons]
    constructor
    · rintro (h | (h | h) | h) <;> simp [h]
    · rintro ((h | h) | (h | h)) <;> simp [h]
theorem mg_asc (a b : List Int) (ha : a.Pairwise (· < ·)) (hb : b.Pairwise (· < ·)) : (mg a b).Pairwise (· < ·) := by
  induction a, b using mg.induct with
  | case1 b => simpa [mg] using hb
  | case2 x a => simpa [mg] using ha
  | case3 x a y b h ih =>
    rw [mg_lt _ _ h]
    obtain ⟨h1, h2⟩ := List.pairwise_cons.1 ha
    obtain ⟨h3, h4⟩ := List.pairwise_cons.1 hb
    refine List.pairwise_cons.2 ⟨fun z hz => ?_, ih h2 hb⟩
    rcases (mg_mem _ _).1 hz with hz | hz
    · exact h1 z hz
    · rcases List.mem_cons.1 hz with rfl | hz
      · exact h
      · exact Int.lt_trans h (h3 z hz)
  | case4 x a b h ih =>
    rw [mg_eq _ _ rfl]
    obtain ⟨h1, h2⟩ := List.pairwise_cons.1 ha
    obtain ⟨h3, h4⟩ := List.pairwise_cons.1 hb
    refine List.pairwise_cons.2 ⟨fun z hz => ?_, ih h2 h4⟩
    rcases (mg_mem _ _).1 hz with hz | hz
    · exact h1 z hz
    · exact h3 z hz
  | case5 x a y b h he ih =>
    rw [mg_gt _ _ (by omega)]
    obtain ⟨h1, h2⟩ := List.pairwise_cons.1 ha
    obtain ⟨h3, h4⟩ := List.pairwise_cons.1 hb
    refine List.pairwise_cons.2 ⟨fun z hz => ?_, ih ha h4⟩
    rcases (mg_mem _ _).1 hz with hz | hz
    · rcases List.mem_cons.1 hz with rfl | hz
      · omega
      · have := h1 z hz; omega
    · exact h3 z hz
theorem mg_len (a b : List Int) : (mg a b).length ≤ a.length + b.length := by
  induction a, b using mg.induct with
  | case1 b => simp [mg]
  | case2 x a => simp [mg]
  | case3 x a y b h ih => rw [mg_lt _ _ h]; simp at ih ⊢; omega
  | case4 x a b h ih => rw [mg_eq _ _ rfl]; simp at ih ⊢; omega
  | case5 x a y b h he ih => rw [mg_gt _ _ (by omega)]; simp at ih ⊢; omega
/-- A change. -/
structure Cg where
  key : Int
  was : Bool
  old : Int
  is_ : Bool
  new : Int
def cgc (x : Cg) : List Value := [.int .u64 x.key, .bool x.was, .int .u64 x.old, .bool x.is_, .int .u64 x.new]
def cgcells (l : List Cg) : List Value := l.flatMap cgc
/-- The changes at keys. -/
def btL (l m : List (Int × Int)) (keys : List Int) : List Cg := keys.map fun k => ⟨k, hasK k l, valL k l, hasK k m, valL k m⟩
/-- What a plan must keep. -/
def cgOk (x : Cg) : Prop := (x.was = true ∨ x.is_ = true) ∧ (x.was = false → x.old = 0) ∧ (x.is_ = false → x.new = 0)
def PlanOk (l : List Cg) : Prop := l.Pairwise (fun a b => a.key < b.key) ∧ ∀ x ∈ l, cgOk x
def bornL (l : List Cg) : Nat := (l.filter fun x => !x.was).length
theorem bt_asc {l m : List (Int × Int)} {keys : List Int} (h : keys.Pairwise (· < ·)) : (btL l m keys).Pairwise (fun a b => a.key < b.key) := by
  unfold btL; rw [List.pairwise_map]; exact h
def fromL (lo hi : Int) (l : List (Int × Int)) : List Int := (inR lo hi l).map (·.1)
def toL (lo hi b : Int) (l : List (Int × Int)) : List Int := (inR lo hi l).map fun p => p.1 + b
theorem from_asc {lo hi : Int} {l : List (Int × Int)} (h : asc l) : (fromL lo hi l).Pairwise (· < ·) := by
  unfold fromL; rw [List.pairwise_map]; exact asc_sub h List.filter_sublist
theorem to_asc {lo hi b : Int} {l : List (Int × Int)} (h : asc l) : (toL lo hi b l).Pairwise (· < ·) := by
  unfold toL; rw [List.pairwise_map]; exact List.Pairwise.imp (fun h => by omega) (asc_sub h (List.filter_sublist : (inR lo hi l).Sublist l))
theorem plan_ok {lo hi b : Int} {l : List (Int × Int)} (h : asc l) : PlanOk (btL l (moveL lo hi b l) (mg (fromL lo hi l) (toL lo hi b l))) := by
  refine ⟨bt_asc (mg_asc _ _ (from_asc h) (to_asc h)), fun x hx => ?_⟩
  unfold btL at hx
  obtain ⟨k, hk, rfl⟩ := List.mem_map.1 hx
  refine ⟨?_, fun h1 => val_not h1, fun h1 => val_not h1⟩
  have hm : asc (moveL lo hi b l) := mvL_asc _ _ _ (asc_sub h (outR_sub lo hi l))
  rcases (mg_mem _ _).1 hk with h1 | h1
  · obtain ⟨p, hp, rfl⟩ := List.mem_map.1 h1
    left
    exact (hasK_mem h).2 ⟨p.2, (List.filter_sublist (l := l)).mem hp⟩
  · obtain ⟨p, hp, rfl⟩ := List.mem_map.1 h1
    right
    exact (hasK_mem hm).2 (mv_mem_key _ (.inr ⟨p, hp, rfl⟩))
theorem born_iff {lo hi b : Int} {l : List (Int × Int)} (h : asc l) : decide (0 < bornL (btL l (moveL lo hi b l) (mg (fromL lo hi l) (toL lo hi b l)))) = (inR lo hi l).any fun p => !hasK (p.1 + b) l := by
  rw [Bool.eq_iff_iff, decide_eq_true_eq, List.any_eq_true]
  unfold bornL
  constructor
  · intro h1
    obtain ⟨x, hx⟩ := List.exists_mem_of_length_pos h1
    obtain ⟨hx1, hx2⟩ := List.mem_filter.1 hx
    unfold btL at hx1
    obtain ⟨k, hk, rfl⟩ := List.mem_map.1 hx1
    simp only at hx2
    rcases (mg_mem _ _).1 hk with h2 | h2
    · obtain ⟨p, hp, rfl⟩ := List.mem_map.1 h2
      have : hasK p.1 l = true := (hasK_mem h).2 ⟨p.2, (List.filter_sublist (l := l)).mem hp⟩
      rw [this] at hx2; simp at hx2
    · obtain ⟨p, hp, rfl⟩ := List.mem_map.1 h2
      exact ⟨p, hp, hx2⟩
  · rintro ⟨p, hp, h2⟩
    apply List.length_pos_of_mem (a := (⟨p.1 + b, hasK (p.1 + b) l, valL (p.1 + b) l, hasK (p.1 + b) (moveL lo hi b l), valL (p.1 + b) (moveL lo hi b l)⟩ : Cg))
    refine List.mem_filter.2 ⟨List.mem_map.2 ⟨p.1 + b, (mg_mem _ _).2 (.inr (List.mem_map.2 ⟨p, hp, rfl⟩)), rfl⟩, h2⟩
end Go.Proofs.YtahagplegmcaaaaGreat
namespace Go.Proofs.YtahagplegmcaaaaGreat
open Go.RowKit Go.Xt
/-! The reference's plan of a move: Ascending, merged, between, Check, Counts. -/
set_option maxRecDepth 20000 in
set_option maxHeartbeats 4000000 in
theorem rascending (w : World) (A : Option Addr) (n c : Nat) (l : List (Int × Int)) (h : Rd w 2 A n (pcells l)) (hn : n ≤ 1000000) (ha : asc l) (hl : l.length = n) :
    Calls Tryz.prog 98 #[.slice A n c] w fun e w' => e = .returned (.bool true) ∧ Nw w w' := by
  have HR := Lib.hid h
  have HA := Lib.hid ha
  have HL := Lib.hid hl
  clear h ha hl
  go_enter Tryz.func98, Tryz.ntmps98
  go_wp2
  go_loopw [3] (fun i wr => ∃ k : Nat, i = .int .i64 (k + 1 : Nat) ∧ (k < n ∨ k = 0) ∧ Nw w wr) (fun i _ => n - (intOf i).toNat)
  case atStart => exact ⟨0, rfl, .inr rfl, Nw.refl _⟩
  case round =>
    obtain ⟨k, rfl, hk, hwr⟩ := hrel
    by_cases hlt : k + 1 < n
    · obtain ⟨g, o, rfl, hg, hc⟩ := (HR.out.nw hwr).2 (by omega)
      obtain ⟨x, hx⟩ : ∃ x, l[k]? = some x := ⟨_, List.getElem?_eq_getElem (by have := HL.out; omega)⟩
      obtain ⟨y, hy⟩ : ∃ y, l[k + 1]? = some y := ⟨_, List.getElem?_eq_getElem (by have := HL.out; omega)⟩
      have hxy : x.1 < y.1 := by
        obtain ⟨h1, h2⟩ := List.getElem?_eq_some_iff.1 hx
        obtain ⟨h3, h4⟩ := List.getElem?_eq_some_iff.1 hy
        have := List.pairwise_iff_getElem.1 HA.out k (k + 1) h1 h3 (by omega)
        rw [h2, h4] at this; exact this
      have c0 : wr.cell? ⟨g, o + k * 2, none⟩ = some (.int .u64 x.1) := hc _ _ (pcells_get l k _ hx).1
      have c1 : wr.cell? ⟨g, o + (k + 1) * 2, none⟩ = some (.int .u64 y.1) := hc _ _ (pcells_get l (k + 1) _ hy).1
      have d1 : decide (y.1 ≤ x.1) = false := by simp; omega
      have HWR := Lib.hid hwr
      have HX := Lib.hid hx
      haveI : In g wr := ⟨hg⟩
      have k1 : (k : Int) + 1 < (n : Int) := by omega
      have k0 : (0 : Int) ≤ (k : Int) := by omega
      have k2 : IntKind.i64.wrap ((k : Int) + 1 - 1) = (k : Int) := by rw [IntKind.wrap_i64]; omega
      have k3 : (k : Int) < (n : Int) := by omega
      clear hc hy hx hwr hk hlt hxy
      obtain ⟨x1, x2⟩ := x
      obtain ⟨y1, y2⟩ := y
      simp only at c0 c1 d1
      go_wp2
      (refine wp_region_nw (by kernel_rfl) (by kernel_rfl) ?_; (repeat (go_big_quiet_step (fail))); refine wpQuiet_nil ?_; intro _ hreg; obtain ⟨dW, rfl⟩ : Nw _ _ := hreg)
      go_wp2
      exact ⟨⟨k + 1, by go_num, .inl (by omega), HWR.out.trans (by repeat (first | exact Xt.Nw.refl _ | refine Xt.Nw.drew ?_ | refine Xt.Nw.drewN ?_ _ | refine Xt.Nw.alloc ?_ _ | refine Xt.Nw.joined ?_ | refine Xt.Nw.drewd ?_ | refine Xt.Nw.drewdN ?_ | refine Xt.Nw.ext ?_ | refine Xt.Nw.ext_some ?_ (by assumption) | refine Xt.Nw.setCell ?_ (by simp [go_sem] <;> omega) _))⟩, by simp [intOf]; omega⟩
    · have k1 : ¬ (k : Int) + 1 < (n : Int) := by omega
      go_wp2
      go_ret
      exact ⟨rfl, hwr⟩
/-- The cells of keys. -/
def kcells (l : List Int) : List Value := l.map fun x => .int .u64 x
theorem kcells_get {l : List Int} {i : Nat} {x : Int} (h : l[i]? = some x) : (kcells l)[i]? = some (.int .u64 x) := by simp [kcells, h]
theorem kcells_len (l : List Int) : (kcells l).length = l.length := by simp [kcells]
theorem kcells_snoc (l : List Int) (x : Int) : kcells (l ++ [x]) = kcells l ++ [.int .u64 x] := by simp [kcells]
/-- What a call collects of keys. -/
def CollK (W : World) (base : Nat) (v : Value) (o : List Int) : Prop := W.ownsRow base 38 1 v o.length (kcells o)
theorem CollK.nw {W W' : World} {base : Nat} {v : Value} {o : List Int} (h : CollK W base v o) (hn : Nw W W') : CollK W' base v o := own_nw h hn
theorem CollK.snoc {W : World} {base : Nat} {v : Value} {o : List Int} {a : Int} (h : W.ownsRow base 38 1 v (o.length + 1) (kcells o ++ [.int .u64 a])) : CollK W base v (o ++ [a]) := by
  unfold CollK; rw [kcells_snoc, List.length_append]; exact h
theorem CollK.rd {W : World} {base : Nat} {v : Value} {o : List Int} (h : CollK W base v o) : ∃ A c, v = .slice A o.length c ∧ Rd W 1 A o.length (kcells o) := by
  unfold CollK at h
  rcases own_forms h with ⟨rfl, h0⟩ | ⟨g, c, rfl, _, hin, _, _⟩
  · refine ⟨none, 0, by rw [h0], by rw [kcells_len, Nat.mul_one], fun h1 => by omega⟩
  · refine ⟨some ⟨g, 0, none⟩, c, rfl, by rw [kcells_len, Nat.mul_one], fun _ => ⟨g, 0, rfl, hin.lt, fun j u hu => ?_⟩⟩
    have hj := (List.getElem?_eq_some_iff.1 hu).1
    rw [kcells_len] at hj
    rw [Nat.zero_add, h.cellAt j (by omega)]; exact hu
theorem kInfo : (Tryz.prog.info? 38).map (fun i => (i.zero, i.size, i.bytes)) = some (some (.int .u64 0), 1, 8) := by kernel_rfl
theorem mg_drop_l {a b : List Int} {i k : Nat} {x : Int} (hx : a[i]? = some x) (h : k = b.length ∨ ∃ y, b[k]? = some y ∧ x < y) : mg (a.drop i) (b.drop k) = x :: mg (a.drop (i + 1)) (b.drop k) := by
  obtain ⟨h1, h2⟩ := List.getElem?_eq_some_iff.1 hx
  rw [List.drop_eq_getElem_cons h1, h2]
  rcases h with rfl | ⟨y, hy, hlt⟩
  · rw [List.drop_length, mg_nil, mg_nil]
  · obtain ⟨h3, h4⟩ := List.getElem?_eq_some_iff.1 hy
    rw [List.drop_eq_getElem_cons h3, h4, mg_lt _ _ hlt]
theorem mg_drop_e {a b : List Int} {i k : Nat} {x y : Int} (hx : a[i]? = some x) (hy : b[k]? = some y) (h : x = y) : mg (a.drop i) (b.drop k) = y :: mg (a.drop (i + 1)) (b.drop (k + 1)) := by
  obtain ⟨h1, h2⟩ := List.getElem?_eq_some_iff.1 hx
  obtain ⟨h3, h4⟩ := List.getElem?_eq_some_iff.1 hy
  rw [List.drop_eq_getElem_cons h1, h2, List.drop_eq_getElem_cons h3, h4, mg_eq _ _ h]
theorem mg_drop_r {a b : List Int} {i k : Nat} {y : Int} (hy : b[k]? = some y) (h : i = a.length ∨ ∃ x, a[i]? = some x ∧ y < x) : mg (a.drop i) (b.drop k) = y :: mg (a.drop i) (b.drop (k + 1)) := by
  obtain ⟨h3, h4⟩ := List.getElem?_eq_some_iff.1 hy
  rw [List.drop_eq_getElem_cons h3, h4]
  rcases h with rfl | ⟨x, hx, hlt⟩
  · rw [List.drop_length]; simp [mg]
  · obtain ⟨h1, h2⟩ := List.getElem?_eq_some_iff.1 hx
    rw [List.drop_eq_getElem_cons h1, h2, mg_gt _ _ hlt]
def MgP (w : World) (a b : List Int) (e : Ending) (w' : World) : Prop := ∃ v, e = .returned v ∧ CollK w' w.heap.size v (mg a b) ∧ Nw w w'
end Go.Proofs.YtahagplegmcaaaaGreat
