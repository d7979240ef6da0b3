import Derived.Test.YtahagplegmcaaaaDoorGPj
set_option linter.unusedVariables false
set_option linter.unusedSimpArgs false
set_option linter.unnecessarySimpa false
namespace Go.Proofs.YtahagplegmcaaaaDoor
open Go.RowKit Go.Xt
/-! The ordered map at any pairs: Next, Move. -/
theorem inR_head {lo hi : Int} (hlh : lo ≤ hi) {l : List (Int × Int)} (ha : asc l) : (inR lo hi l)[0]? = if pos lo l < posTo hi l then l[pos lo l]? else none := by
  rw [← (split_range hlh ha).1, List.getElem?_drop, List.getElem?_take]
  simp
/-- The first pair of a range. -/
def nextL (lo hi : Int) (l : List (Int × Int)) : Option (Int × Int) := (inR lo hi l)[0]?
set_option maxRecDepth 20000 in
set_option maxHeartbeats 4000000 in
theorem next_none {w : World} {gp : Nat} {v : Value} {l : List (Int × Int)} (h : OM w gp v l) (hn : l.length ≤ 1000000) (lo hi : Int) (hlh : lo ≤ hi) (hx : nextL lo hi l = none) :
    Calls Tryd.prog 62 #[.pointer (some ⟨gp, 0, none⟩), spV lo hi] w fun e w' => e = .returned (.tuple #[spV 0 0, .bool false, .int .i64 0]) ∧ Nw w w' := by
  haveI : In gp w := ⟨h.lt⟩
  have HE := Lib.hid (fun W (hw : Nw w W) => ends_om (h.nw hw) hn lo hi hlh)
  have hpe : posTo hi l = pos lo l := by
    have h1 := inR_head hlh h.asc
    have h2 := pos_le_to hlh h.asc
    have h3 := posTo_le hi l
    unfold nextL at hx
    rw [hx] at h1
    split at h1
    · rw [List.getElem?_eq_getElem (by omega)] at h1; cases h1
    · omega
  rw [hpe] at HE
  obtain ⟨i, hi'⟩ : ∃ i, i = pos lo l := ⟨_, rfl⟩
  simp only [← hi'] at HE
  unfold spV at HE ⊢
  clear h hlh hi' hpe hx
  go_enter Tryd.func62, Tryd.ntmps62
  go_wp2_with fail
  refine (HE.out _ ((by repeat (first | exact Xt.Nw.refl _ | refine Xt.Nw.drew ?_ | refine Xt.Nw.drewN ?_ _ | refine Xt.Nw.alloc ?_ _ | refine Xt.Nw.joined ?_ | refine Xt.Nw.drewd ?_ | refine Xt.Nw.drewdN ?_ | refine Xt.Nw.ext ?_ | refine Xt.Nw.ext_some ?_ (by assumption) | refine Xt.Nw.setCell ?_ (by simp [go_sem] <;> omega) _)))).mono ?_
  rintro e W2 ⟨rfl, d2, rfl⟩
  go_wp2
  refine bodyPost_ret (v := .tuple #[.agg #[.int .u64 0, .int .u64 0], .bool false, .int .i64 0]) ?_ rfl ⟨rfl, (by repeat (first | exact Xt.Nw.refl _ | refine Xt.Nw.drew ?_ | refine Xt.Nw.drewN ?_ _ | refine Xt.Nw.alloc ?_ _ | refine Xt.Nw.joined ?_ | refine Xt.Nw.drewd ?_ | refine Xt.Nw.drewdN ?_ | refine Xt.Nw.ext ?_ | refine Xt.Nw.ext_some ?_ (by assumption) | refine Xt.Nw.setCell ?_ (by simp [go_sem] <;> omega) _))⟩
  simp [results, Tryd.results62, go_sem]
set_option maxRecDepth 20000 in
set_option maxHeartbeats 4000000 in
theorem next_some {w : World} {gp : Nat} {v : Value} {l : List (Int × Int)} (h : OM w gp v l) (hn : l.length ≤ 1000000) (lo hi : Int) (hlh : lo ≤ hi) (k x : Int) (hx : nextL lo hi l = some (k, x)) :
    Calls Tryd.prog 62 #[.pointer (some ⟨gp, 0, none⟩), spV lo hi] w fun e w' => e = .returned (.tuple #[spV k x, .bool true, .int .i64 0]) ∧ Nw w w' := by
  haveI : In gp w := ⟨h.lt⟩
  have HE := Lib.hid (fun W (hw : Nw w W) => ends_om (h.nw hw) hn lo hi hlh)
  have hpe : pos lo l < posTo hi l ∧ l[pos lo l]? = some (k, x) := by
    have h1 := inR_head hlh h.asc
    unfold nextL at hx
    rw [hx] at h1
    split at h1
    · rename_i h2; exact ⟨h2, h1.symm⟩
    · cases h1
  have p0 := h.p0
  rcases h.form with ⟨rfl, rfl⟩ | ⟨g, c, rfl, -, -, -⟩
  · simp at hpe
  have c0 := (h.pat.at' _ _ hpe.2).1
  have c1 := (h.pat.at' _ _ hpe.2).2
  have hP := (List.getElem?_eq_some_iff.1 hpe.2).1
  haveI : In g w := ⟨World.block_lt_of_cell? w _ c0⟩
  obtain ⟨i, hi'⟩ : ∃ i, i = pos lo l := ⟨_, rfl⟩
  obtain ⟨j, hj'⟩ : ∃ j, j = posTo hi l := ⟨_, rfl⟩
  obtain ⟨n, hne⟩ : ∃ n, n = l.length := ⟨_, rfl⟩
  simp only [← hi', ← hj'] at HE hpe hP c0 c1
  rw [← hne] at hP p0
  have q0 : ((i : Int) == (j : Int)) = false := by simp; omega
  have q1 : (i : Int) < (n : Int) := by omega
  have q2 : (0 : Int) ≤ (i : Int) := by omega
  have q3 : ¬ i = j := by omega
  unfold spV at HE ⊢
  clear h hlh hi' hj' hne hpe hx
  go_enter Tryd.func62, Tryd.ntmps62
  go_wp2_with fail
  refine (HE.out _ ((by repeat (first | exact Xt.Nw.refl _ | refine Xt.Nw.drew ?_ | refine Xt.Nw.drewN ?_ _ | refine Xt.Nw.alloc ?_ _ | refine Xt.Nw.joined ?_ | refine Xt.Nw.drewd ?_ | refine Xt.Nw.drewdN ?_ | refine Xt.Nw.ext ?_ | refine Xt.Nw.ext_some ?_ (by assumption) | refine Xt.Nw.setCell ?_ (by simp [go_sem] <;> omega) _)))).mono ?_
  rintro e W2 ⟨rfl, d2, rfl⟩
  go_wp2
  refine bodyPost_ret (v := .tuple #[.agg #[.int .u64 k, .int .u64 x], .bool true, .int .i64 0]) ?_ rfl ⟨rfl, (by repeat (first | exact Xt.Nw.refl _ | refine Xt.Nw.drew ?_ | refine Xt.Nw.drewN ?_ _ | refine Xt.Nw.alloc ?_ _ | refine Xt.Nw.joined ?_ | refine Xt.Nw.drewd ?_ | refine Xt.Nw.drewdN ?_ | refine Xt.Nw.ext ?_ | refine Xt.Nw.ext_some ?_ (by assumption) | refine Xt.Nw.setCell ?_ (by simp [go_sem] <;> omega) _))⟩
  simp [results, Tryd.results62, go_sem]
/-- Pairs put, their keys moved. -/
def mvL (b : Int) (r l : List (Int × Int)) : List (Int × Int) := r.foldl (fun m p => putL (p.1 + b) p.2 m) l
/-- A map after a move. -/
def moveL (lo hi b : Int) (l : List (Int × Int)) : List (Int × Int) := mvL b (inR lo hi l) (outR lo hi l)
theorem mvL_snoc (b : Int) (r l : List (Int × Int)) (p : Int × Int) : mvL b (r ++ [p]) l = putL (p.1 + b) p.2 (mvL b r l) := by simp [mvL]
theorem mvL_len (b : Int) : ∀ (r l : List (Int × Int)), (mvL b r l).length ≤ l.length + r.length
  | [], l => Nat.le_refl _
  | p :: r, l => by
    have h1 := mvL_len b r (putL (p.1 + b) p.2 l)
    have h2 := put_le (p.1 + b) p.2 l
    show (mvL b r (putL (p.1 + b) p.2 l)).length ≤ _
    simp; omega
theorem mvL_asc (b : Int) : ∀ (r l : List (Int × Int)), asc l → asc (mvL b r l)
  | [], l, h => h
  | p :: r, l, h => mvL_asc b r _ (put_asc _ _ h)
theorem filter_two {α : Type} (p : α → Bool) (l : List α) : (l.filter fun x => !p x).length + (l.filter p).length = l.length := by
  induction l with
  | nil => rfl
  | cons x l ih => cases hp : p x <;> simp [List.filter_cons, hp] <;> omega
theorem outR_inR (lo hi : Int) (l : List (Int × Int)) : (outR lo hi l).length + (inR lo hi l).length = l.length := filter_two _ _
/-- Keys and values are numbers of 64 bits. -/
def U64s (l : List (Int × Int)) : Prop := ∀ p ∈ l, (0 ≤ p.1 ∧ p.1 < 18446744073709551616) ∧ 0 ≤ p.2 ∧ p.2 < 18446744073709551616
set_option maxRecDepth 20000 in
set_option maxHeartbeats 4000000 in
theorem move_nil {w : World} {gp : Nat} (h : OM w gp (.slice none 0 0) []) (lo hi by_ : Int) (hlh : lo ≤ hi) (hlo : 0 ≤ lo) (hb0 : 0 < by_) (hb1 : by_ ≤ 18446744073709551615 - hi) :
    Calls Tryd.prog 58 #[.pointer (some ⟨gp, 0, none⟩), spV lo hi, .int .u64 by_] w fun e w' => e = .returned (.tuple #[.int .i64 0, .int .i64 0]) ∧ ∃ v', Upd w gp (.slice none 0 0) [] v' w' := by
  haveI : In gp w := ⟨h.lt⟩
  have p0 := h.p0
  have z0 := h.pz
  have HE := Lib.hid (fun W (hw : Nw w W) => ends_om (h.nw hw) (by simp) lo hi hlh)
  have q1 : (by_ == 0) = false := by simp; omega
  have q2 : ¬ by_ = 0 := by omega
  have q3 : IntKind.u64.wrap (18446744073709551615 - hi) = 18446744073709551615 - hi := by rw [IntKind.wrap_u64]; omega
  have q4 : decide (18446744073709551615 - hi < by_) = false := by simp; omega
  have HH := Lib.hid h
  have HCN := Lib.hid (fun W => clone_any none 0 0 [] W ⟨rfl, fun h => by omega⟩ (by omega) (fun _ => ⟨rfl, rfl⟩))
  have HDN := Lib.hid delete_nil
  have e1 : pos lo [] = 0 := rfl
  have e2 : posTo hi [] = 0 := rfl
  rw [e1, e2] at HE
  unfold spV at HE ⊢
  clear h hlh hlo hb0 hb1 e1 e2
  go_enter Tryd.func58, Tryd.ntmps58
  go_wp2_with fail
  refine (HE.out _ ((by repeat (first | exact Xt.Nw.refl _ | refine Xt.Nw.drew ?_ | refine Xt.Nw.drewN ?_ _ | refine Xt.Nw.alloc ?_ _ | refine Xt.Nw.joined ?_ | refine Xt.Nw.drewd ?_ | refine Xt.Nw.drewdN ?_ | refine Xt.Nw.ext ?_ | refine Xt.Nw.ext_some ?_ (by assumption) | refine Xt.Nw.setCell ?_ (by simp [go_sem] <;> omega) _)))).mono ?_
  rintro e W2 ⟨rfl, d2, rfl⟩
  go_wp2_with fail
  refine (HCN.out _).mono ?_
  rintro e W3 ⟨vC, rfl, hown, d3, rfl⟩
  obtain ⟨A, cC, hvC⟩ : ∃ A cC, vC = .slice A 0 cC := by
    rcases own_forms hown with ⟨rfl, _⟩ | ⟨g, c, rfl, _⟩
    · exact ⟨_, _, rfl⟩
    · exact ⟨_, _, rfl⟩
  subst hvC
  clear hown
  go_wp2_with fail
  refine (HDN.out _).mono ?_
  rintro e W4 ⟨rfl, hn4⟩
  have hn4 : Nw w W4 := Nw.trans (by exact (by repeat (first | exact Xt.Nw.refl _ | refine Xt.Nw.drew ?_ | refine Xt.Nw.drewN ?_ _ | refine Xt.Nw.alloc ?_ _ | refine Xt.Nw.joined ?_ | refine Xt.Nw.drewd ?_ | refine Xt.Nw.drewdN ?_ | refine Xt.Nw.ext ?_ | refine Xt.Nw.ext_some ?_ (by assumption) | refine Xt.Nw.setCell ?_ (by simp [go_sem] <;> omega) _))) hn4
  have r0 := cell_nw p0 hn4
  have rz := (frozen_nw HH.out.lt hn4).trans z0
  have hu : Upd W4 gp (.slice none 0 0) [] (.slice none 0 0) (W4.setCell ⟨gp, 0, none⟩ (.slice none 0 0)) :=
    Upd.store r0 rz (World.ownsRow_nil _ _ _ _) (by simp [Value.ownBlock]) List.Pairwise.nil ((Chg.of_nw (Nw.refl W4) : Chg [] W4 W4).wide (by simp)) (.inl rfl)
  have HU := Lib.hid (hu.after hn4)
  clear hu hn4
  go_wp2
  go_loopw [54] (fun a wr => a = .int .i64 0 ∧ wr = W4.setCell ⟨gp, 0, none⟩ (.slice none 0 0)) (fun _ _ => 0)
  case atStart => exact ⟨rfl, rfl⟩
  case round =>
    obtain ⟨rfl, rfl⟩ := hrel
    go_wp2
    refine bodyPost_ret (v := .tuple #[.int .i64 0, .int .i64 0]) ?_ rfl ⟨rfl, _, HU.out⟩
    simp [results, Tryd.results58, go_sem]
end Go.Proofs.YtahagplegmcaaaaDoor
