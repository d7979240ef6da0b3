import Derived.Test.YtnfpicnigfmbdaaGreatDoorGPj
set_option linter.unusedVariables false
set_option linter.unusedSimpArgs false
set_option linter.unnecessarySimpa false
namespace Go.Proofs.YtnfpicnigfmbdaaGreatDoor
open Go.RowKit Go.Xt
/-! The ordered map at any pairs: Next, Move. -/
theorem inR_head {lo hi : Int} (hlh : lo ≤ hi) {l : List (Int × Int)} (ha : asc l) : (inR lo hi l)[0]? = if pos lo l < posTo hi l then l[pos lo l]? else none := by
  rw [← (split_range hlh ha).1, List.getElem?_drop, List.getElem?_take]
  simp
/-- The first pair of a range. -/
def nextL (lo hi : Int) (l : List (Int × Int)) : Option (Int × Int) := (inR lo hi l)[0]?
set_option maxRecDepth 20000 in
set_option maxHeartbeats 4000000 in
theorem next_none {w : World} {gp : Nat} {v : Value} {l : List (Int × Int)} (h : OM w gp v l) (hn : l.length ≤ 1000000) (lo hi : Int) (hlh : lo ≤ hi) (hx : nextL lo hi l = none) :
    Calls Tryz.prog 123 #[.pointer (some ⟨gp, 0, none⟩), spV lo hi] w fun e w' => e = .returned (.tuple #[spV 0 0, .bool false, .int .i64 0]) ∧ Nw w w' := by
  haveI : In gp w := ⟨h.lt⟩
  have HE := Lib.hid (fun W (hw : Nw w W) => ends_om (h.nw hw) hn lo hi hlh)
  have hpe : posTo hi l = pos lo l := by
    have h1 := inR_head hlh h.asc
    have h2 := pos_le_to hlh h.asc
    have h3 := posTo_le hi l
    unfold nextL at hx
    rw [hx] at h1
    split at h1
    · rw [List.getElem?_eq_getElem (by omega)] at h1; cases h1
    · omega
  rw [hpe] at HE
  obtain ⟨i, hi'⟩ : ∃ i, i = pos lo l := ⟨_, rfl⟩
  simp only [← hi'] at HE
  unfold spV at HE ⊢
  clear h hlh hi' hpe hx
  go_enter Tryz.func123, Tryz.ntmps123
  go_wp2_with fail
  refine (HE.out _ ((by repeat (first | exact Xt.Nw.refl _ | refine Xt.Nw.drew ?_ | refine Xt.Nw.drewN ?_ _ | refine Xt.Nw.alloc ?_ _ | refine Xt.Nw.joined ?_ | refine Xt.Nw.drewd ?_ | refine Xt.Nw.drewdN ?_ | refine Xt.Nw.ext ?_ | refine Xt.Nw.ext_some ?_ (by assumption) | refine Xt.Nw.setCell ?_ (by simp [go_sem] <;> omega) _)))).mono ?_
  rintro e W2 ⟨rfl, d2, rfl⟩
  go_wp2
  refine bodyPost_ret (v := .tuple #[.agg #[.int .u64 0, .int .u64 0], .bool false, .int .i64 0]) ?_ rfl ⟨rfl, (by repeat (first | exact Xt.Nw.refl _ | refine Xt.Nw.drew ?_ | refine Xt.Nw.drewN ?_ _ | refine Xt.Nw.alloc ?_ _ | refine Xt.Nw.joined ?_ | refine Xt.Nw.drewd ?_ | refine Xt.Nw.drewdN ?_ | refine Xt.Nw.ext ?_ | refine Xt.Nw.ext_some ?_ (by assumption) | refine Xt.Nw.setCell ?_ (by simp [go_sem] <;> omega) _))⟩
  simp [results, Tryz.results123, go_sem]
set_option maxRecDepth 20000 in
set_option maxHeartbeats 4000000 in
theorem next_some {w : World} {gp : Nat} {v : Value} {l : List (Int × Int)} (h : OM w gp v l) (hn : l.length ≤ 1000000) (lo hi : Int) (hlh : lo ≤ hi) (k x : Int) (hx : nextL lo hi l = some (k, x)) :
    Calls Tryz.prog 123 #[.pointer (some ⟨gp, 0, none⟩), spV lo hi] w fun e w' => e = .returned (.tuple #[spV k x, .bool true, .int .i64 0]) ∧ Nw w w' := by
  haveI : In gp w := ⟨h.lt⟩
  have HE := Lib.hid (fun W (hw : Nw w W) => ends_om (h.nw hw) hn lo hi hlh)
  have hpe : pos lo l < posTo hi l ∧ l[pos lo l]? = some (k, x) := by
    have h1 := inR_head hlh h.asc
    unfold nextL at hx
    rw [hx] at h1
    split at h1
    · rename_i h2; exact ⟨h2, h1.symm⟩
    · cases h1
  have p0 := h.p0
  rcases h.form with ⟨rfl, rfl⟩ | ⟨g, c, rfl, -, -, -⟩
  · simp at hpe
  have c0 := (h.pat.at' _ _ hpe.2).1
  have c1 := (h.pat.at' _ _ hpe.2).2
  have hP := (List.getElem?_eq_some_iff.1 hpe.2).1
  haveI : In g w := ⟨World.block_lt_of_cell? w _ c0⟩
  obtain ⟨i, hi'⟩ : ∃ i, i = pos lo l := ⟨_, rfl⟩
  obtain ⟨j, hj'⟩ : ∃ j, j = posTo hi l := ⟨_, rfl⟩
  obtain ⟨n, hne⟩ : ∃ n, n = l.length := ⟨_, rfl⟩
  simp only [← hi', ← hj'] at HE hpe hP c0 c1
  rw [← hne] at hP p0
  have q0 : ((i : Int) == (j : Int)) = false := by simp; omega
  have q1 : (i : Int) < (n : Int) := by omega
  have q2 : (0 : Int) ≤ (i : Int) := by omega
  have q3 : ¬ i = j := by omega
  unfold spV at HE ⊢
  clear h hlh hi' hj' hne hpe hx
  go_enter Tryz.func123, Tryz.ntmps123
  go_wp2_with fail
  refine (HE.out _ ((by repeat (first | exact Xt.Nw.refl _ | refine Xt.Nw.drew ?_ | refine Xt.Nw.drewN ?_ _ | refine Xt.Nw.alloc ?_ _ | refine Xt.Nw.joined ?_ | refine Xt.Nw.drewd ?_ | refine Xt.Nw.drewdN ?_ | refine Xt.Nw.ext ?_ | refine Xt.Nw.ext_some ?_ (by assumption) | refine Xt.Nw.setCell ?_ (by simp [go_sem] <;> omega) _)))).mono ?_
  rintro e W2 ⟨rfl, d2, rfl⟩
  go_wp2
  refine bodyPost_ret (v := .tuple #[.agg #[.int .u64 k, .int .u64 x], .bool true, .int .i64 0]) ?_ rfl ⟨rfl, (by repeat (first | exact Xt.Nw.refl _ | refine Xt.Nw.drew ?_ | refine Xt.Nw.drewN ?_ _ | refine Xt.Nw.alloc ?_ _ | refine Xt.Nw.joined ?_ | refine Xt.Nw.drewd ?_ | refine Xt.Nw.drewdN ?_ | refine Xt.Nw.ext ?_ | refine Xt.Nw.ext_some ?_ (by assumption) | refine Xt.Nw.setCell ?_ (by simp [go_sem] <;> omega) _))⟩
  simp [results, Tryz.results123, go_sem]
/-- Pairs put, their keys moved. -/
def mvL (b : Int) (r l : List (Int × Int)) : List (Int × Int) := r.foldl (fun m p => putL (p.1 + b) p.2 m) l
/-- A map after a move. -/
def moveL (lo hi b : Int) (l : List (Int × Int)) : List (Int × Int) := mvL b (inR lo hi l) (outR lo hi l)
theorem mvL_snoc (b : Int) (r l : List (Int × Int)) (p : Int × Int) : mvL b (r ++ [p]) l = putL (p.1 + b) p.2 (mvL b r l) := by simp [mvL]
theorem mvL_len (b : Int) : ∀ (r l : List (Int × Int)), (mvL b r l).length ≤ l.length + r.length
  | [], l => Nat.le_refl _
  | p :: r, l => by
    have h1 := mvL_len b r (putL (p.1 + b) p.2 l)
    have h2 := put_le (p.1 + b) p.2 l
    show (mvL b r (putL (p.1 + b) p.2 l)).length ≤ _
    simp; omega
theorem mvL_asc (b : Int) : ∀ (r l : List (Int × Int)), asc l → asc (mvL b r l)
  | [], l, h => h
  | p :: r, l, h => mvL_asc b r _ (put_asc _ _ h)
theorem filter_two {α : Type} (p : α → Bool) (l : List α) : (l.filter fun x => !p x).length + (l.filter p).length = l.length := by
  induction l with
  | nil => rfl
  | cons x l ih => cases hp : p x <;> simp [List.filter_cons, hp] <;> omega
theorem outR_inR (lo hi : Int) (l : List (Int × Int)) : (outR lo hi l).length + (inR lo hi l).length = l.length := filter_two _ _
/-- Keys and values are numbers of 64 bits. -/
def U64s (l : List (Int × Int)) : Prop := ∀ p ∈ l, (0 ≤ p.1 ∧ p.1 < 18446744073709551616) ∧ 0 ≤ p.2 ∧ p.2 < 18446744073709551616
set_option maxRecDepth 20000 in
set_option maxHeartbeats 4000000 in
theorem move_nil {w : World} {gp : Nat} (h : OM w gp (.slice none 0 0) []) (lo hi by_ : Int) (hlh : lo ≤ hi) (hlo : 0 ≤ lo) (hb0 : 0 < by_) (hb1 : by_ ≤ 18446744073709551615 - hi) :
    Calls Tryz.prog 119 #[.pointer (some ⟨gp, 0, none⟩), spV lo hi, .int .u64 by_] w fun e w' => e = .returned (.tuple #[.int .i64 0, .int .i64 0]) ∧ ∃ v', Upd w gp (.slice none 0 0) [] v' w' := by
  haveI : In gp w := ⟨h.lt⟩
  have p0 := h.p0
  have z0 := h.pz
  have HE := Lib.hid (fun W (hw : Nw w W) => ends_om (h.nw hw) (by simp) lo hi hlh)
  have q1 : (by_ == 0) = false := by simp; omega
  have q2 : ¬ by_ = 0 := by omega
  have q3 : IntKind.u64.wrap (18446744073709551615 - hi) = 18446744073709551615 - hi := by rw [IntKind.wrap_u64]; omega
  have q4 : decide (18446744073709551615 - hi < by_) = false := by simp; omega
  have HH := Lib.hid h
  have HCN := Lib.hid (fun W => clone_any none 0 0 [] W ⟨rfl, fun h => by omega⟩ (by omega) (fun _ => ⟨rfl, rfl⟩))
  have HDN := Lib.hid delete_nil
  have e1 : pos lo [] = 0 := rfl
  have e2 : posTo hi [] = 0 := rfl
  rw [e1, e2] at HE
  unfold spV at HE ⊢
  clear h hlh hlo hb0 hb1 e1 e2
  go_enter Tryz.func119, Tryz.ntmps119
  go_wp2_with fail
  refine (HE.out _ ((by repeat (first | exact Xt.Nw.refl _ | refine Xt.Nw.drew ?_ | refine Xt.Nw.drewN ?_ _ | refine Xt.Nw.alloc ?_ _ | refine Xt.Nw.joined ?_ | refine Xt.Nw.drewd ?_ | refine Xt.Nw.drewdN ?_ | refine Xt.Nw.ext ?_ | refine Xt.Nw.ext_some ?_ (by assumption) | refine Xt.Nw.setCell ?_ (by simp [go_sem] <;> omega) _)))).mono ?_
  rintro e W2 ⟨rfl, d2, rfl⟩
  go_wp2_with fail
  refine (HCN.out _).mono ?_
  rintro e W3 ⟨vC, rfl, hown, d3, rfl⟩
  obtain ⟨A, cC, hvC⟩ : ∃ A cC, vC = .slice A 0 cC := by
    rcases own_forms hown with ⟨rfl, _⟩ | ⟨g, c, rfl, _⟩
    · exact ⟨_, _, rfl⟩
    · exact ⟨_, _, rfl⟩
  subst hvC
  clear hown
  go_wp2_with fail
  refine (HDN.out _).mono ?_
  rintro e W4 ⟨rfl, hn4⟩
  have hn4 : Nw w W4 := Nw.trans (by exact (by repeat (first | exact Xt.Nw.refl _ | refine Xt.Nw.drew ?_ | refine Xt.Nw.drewN ?_ _ | refine Xt.Nw.alloc ?_ _ | refine Xt.Nw.joined ?_ | refine Xt.Nw.drewd ?_ | refine Xt.Nw.drewdN ?_ | refine Xt.Nw.ext ?_ | refine Xt.Nw.ext_some ?_ (by assumption) | refine Xt.Nw.setCell ?_ (by simp [go_sem] <;> omega) _))) hn4
  have r0 := cell_nw p0 hn4
  have rz := (frozen_nw HH.out.lt hn4).trans z0
  have hu : Upd W4 gp (.slice none 0 0) [] (.slice none 0 0) (W4.setCell ⟨gp, 0, none⟩ (.slice none 0 0)) :=
    Upd.store r0 rz (World.ownsRow_nil _ _ _ _) (by simp [Value.ownBlock]) List.Pairwise.nil ((Chg.of_nw (Nw.refl W4) : Chg [] W4 W4).wide (by simp)) (.inl rfl)
  have HU := Lib.hid (hu.after hn4)
  clear hu hn4
  go_wp2
  go_loopw [54] (fun a wr => a = .int .i64 0 ∧ wr = W4.setCell ⟨gp, 0, none⟩ (.slice none 0 0)) (fun _ _ => 0)
  case atStart => exact ⟨rfl, rfl⟩
  case round =>
    obtain ⟨rfl, rfl⟩ := hrel
    go_wp2
    refine bodyPost_ret (v := .tuple #[.int .i64 0, .int .i64 0]) ?_ rfl ⟨rfl, _, HU.out⟩
    simp [results, Tryz.results119, go_sem]
end Go.Proofs.YtnfpicnigfmbdaaGreatDoor
namespace Go.Proofs.YtnfpicnigfmbdaaGreatDoor
open Go.RowKit Go.Xt
/-! The ordered map at any pairs: Move. -/
theorem take_get {α : Type} {l : List α} {i : Nat} {x : α} (h : l[i]? = some x) : l.take (i + 1) = l.take i ++ [x] := by
  rw [List.take_add_one, h]; rfl
set_option maxRecDepth 20000 in
set_option maxHeartbeats 8000000 in
theorem move_some {w : World} {gp g c : Nat} {l : List (Int × Int)} (h : OM w gp (.slice (some ⟨g, 0, none⟩) l.length c) l) (hn : l.length ≤ 500000) (lo hi by_ : Int) (hlh : lo ≤ hi) (hlo : 0 ≤ lo) (hb0 : 0 < by_) (hb1 : by_ ≤ 18446744073709551615 - hi) :
    Calls Tryz.prog 119 #[.pointer (some ⟨gp, 0, none⟩), spV lo hi, .int .u64 by_] w fun e w' => e = .returned (.tuple #[.int .i64 (inR lo hi l).length, .int .i64 0]) ∧ ∃ v', Upd w gp (.slice (some ⟨g, 0, none⟩) l.length c) (moveL lo hi by_ l) v' w' := by
  haveI : In gp w := ⟨h.lt⟩
  have hgl := h.rlt rfl
  haveI : In g w := ⟨hgl⟩
  have p0 := h.p0
  have HE := Lib.hid (fun W (hw : Nw w W) => ends_om (h.nw hw) (by omega) lo hi hlh)
  have HIL := Lib.hid (inR_len hlh h.asc)
  have HOL := Lib.hid (outR_len hlh h.asc)
  have HSP := Lib.hid (split_range hlh h.asc)
  have hle := pos_le_to hlh h.asc
  have hto := posTo_le hi l
  have hin : ∀ p ∈ inR lo hi l, lo ≤ p.1 ∧ p.1 ≤ hi := fun p hp => by
    have := (List.mem_filter.1 hp).2
    simpa using this
  obtain ⟨i, hi'⟩ : ∃ i, i = pos lo l := ⟨_, rfl⟩
  obtain ⟨j, hj'⟩ : ∃ j, j = posTo hi l := ⟨_, rfl⟩
  simp only [← hi', ← hj'] at HE HIL HOL HSP hle hto
  have q1 : (by_ == 0) = false := by simp; omega
  have q2 : ¬ by_ = 0 := by omega
  have q3 : IntKind.u64.wrap (18446744073709551615 - hi) = 18446744073709551615 - hi := by rw [IntKind.wrap_u64]; omega
  have q4 : decide (18446744073709551615 - hi < by_) = false := by simp; omega
  have HH := Lib.hid h
  have HLE := Lib.hid hle
  have HTO := Lib.hid hto
  have HIN := Lib.hid hin
  have HLO := Lib.hid hlo
  have HHI := Lib.hid hb1
  have HB0 := Lib.hid hb0
  have HN := Lib.hid hn
  have HOI := Lib.hid (outR_inR lo hi l)
  unfold moveL
  obtain ⟨R, hR⟩ : ∃ R, R = inR lo hi l := ⟨_, rfl⟩
  obtain ⟨O, hO⟩ : ∃ O, O = outR lo hi l := ⟨_, rfl⟩
  simp only [← hR, ← hO] at HIL HOL HSP HIN HOI ⊢
  have HOS := Lib.hid (hO ▸ outR_sub lo hi l : O.Sublist l)
  obtain ⟨m, hm⟩ : ∃ m, m = R.length := ⟨_, rfl⟩
  rw [← hm] at HIL HOI ⊢
  have HM := Lib.hid hm
  have HGL := Lib.hid hgl
  clear hgl
  have hlc : l.length ≤ c := by
    obtain ⟨_, _, _, _, h5⟩ := own_full h.row
    exact h5
  have HRD : ∀ (W : World) (A : Option Addr) (k : Nat), Nw w W → k = m → (A = some ⟨g, i * 2, none⟩ ∨ m = 0) → Rd W 2 A k (pcells R) := by
    rintro W A k hw rfl hA
    refine ⟨by rw [pcells_len, HM.out], fun h0 => ?_⟩
    rcases hA with rfl | h1
    · have hwh := HH.out.nw hw
      refine ⟨g, i * 2, rfl, hwh.rlt rfl, fun q u hu => ?_⟩
      have hq := (List.getElem?_eq_some_iff.1 hu).1
      rw [pcells_len, ← HM.out, HIL.out] at hq
      have ht := HTO.out
      rw [hwh.row.cellAt _ (by omega)]
      have e1 : pcells l = pcells (l.take i) ++ (pcells R ++ pcells (l.drop j)) := by
        rw [← HSP.out.1, ← pcells_app, ← pcells_app]
        congr 1
        have e2 : l.take i = (l.take j).take i := by rw [List.take_take, Nat.min_eq_left HLE.out]
        rw [e2, ← List.append_assoc, List.take_append_drop, List.take_append_drop]
      rw [e1, List.getElem?_append_right (by rw [pcells_len, List.length_take]; omega), pcells_len, List.length_take, Nat.min_eq_left (by have := HLE.out; omega), show i * 2 + q - i * 2 = q by omega, List.getElem?_append_left (by rw [pcells_len, ← HM.out, HIL.out]; omega)]
      exact hu
    · omega
  have HRDh := Lib.hid HRD
  obtain ⟨n, hne⟩ : ∃ n, n = l.length := ⟨_, rfl⟩
  have HNE := Lib.hid hne
  rw [← hne] at HH HTO HOL hlc p0 HN hto ⊢
  have b1 : (i : Int) ≤ (j : Int) := by omega
  have b2 : (j : Int) ≤ (n : Int) := by omega
  have b3 : (n : Int) ≤ (c : Int) := by omega
  have b4 : (j : Int) ≤ (c : Int) := by omega
  have b5 : i ≤ j := by omega
  have b6 : j ≤ c := by omega
  unfold spV at HE ⊢
  clear h hlh hi' hj' hle hto hin hlo hb0 hb1 hn hR hO hne hm HRD
  have fin : ∀ (W2 W3 W4 : World) (k : Nat) (vC v' : Value) (ops : Nat), True := fun _ _ _ _ _ _ _ => trivial
  clear fin
  by_cases hci : c ≤ i
  · go_enter Tryz.func119, Tryz.ntmps119
    go_wp2_with fail
    refine (HE.out _ ((by repeat (first | exact Xt.Nw.refl _ | refine Xt.Nw.drew ?_ | refine Xt.Nw.drewN ?_ _ | refine Xt.Nw.alloc ?_ _ | refine Xt.Nw.joined ?_ | refine Xt.Nw.drewd ?_ | refine Xt.Nw.drewdN ?_ | refine Xt.Nw.ext ?_ | refine Xt.Nw.ext_some ?_ (by assumption) | refine Xt.Nw.setCell ?_ (by simp [go_sem] <;> omega) _)))).mono ?_
    rintro e W2 ⟨rfl, d2, rfl⟩
    go_wp2_with fail
    refine (clone_any _ _ _ R _ (HRDh.out _ _ _ ((by repeat (first | exact Xt.Nw.refl _ | refine Xt.Nw.drew ?_ | refine Xt.Nw.drewN ?_ _ | refine Xt.Nw.alloc ?_ _ | refine Xt.Nw.joined ?_ | refine Xt.Nw.drewd ?_ | refine Xt.Nw.drewdN ?_ | refine Xt.Nw.ext ?_ | refine Xt.Nw.ext_some ?_ (by assumption) | refine Xt.Nw.setCell ?_ (by simp [go_sem] <;> omega) _))) HIL.out.symm (by first | exact .inl rfl | exact .inr (by have := HIL.out; have := HTO.out; omega))) (by have := HN.out; have := HTO.out; omega) (by intro h; cases h)).mono ?_
    rintro e W3 ⟨vC, rfl, hown, hn3⟩
    have hn3 : Nw w W3 := Nw.trans (by exact (by repeat (first | exact Xt.Nw.refl _ | refine Xt.Nw.drew ?_ | refine Xt.Nw.drewN ?_ _ | refine Xt.Nw.alloc ?_ _ | refine Xt.Nw.joined ?_ | refine Xt.Nw.drewd ?_ | refine Xt.Nw.drewdN ?_ | refine Xt.Nw.ext ?_ | refine Xt.Nw.ext_some ?_ (by assumption) | refine Xt.Nw.setCell ?_ (by simp [go_sem] <;> omega) _))) hn3
    obtain ⟨A, cC, hvC⟩ : ∃ A cC, vC = .slice A m cC := by
      rcases own_forms hown with ⟨rfl, h0⟩ | ⟨g, c, rfl, _⟩
      · rw [HIL.out, h0]; exact ⟨_, _, rfl⟩
      · rw [HIL.out]; exact ⟨_, _, rfl⟩
    rw [← HIL.out] at hown
    have h3 := HH.out.nw hn3
    have hown' : W3.ownsRow w.heap.size 99 2 (.slice A m cC) m (pcells R) := hvC ▸ own_le hown (Nw.grown (by exact (by repeat (first | exact Xt.Nw.refl _ | refine Xt.Nw.drew ?_ | refine Xt.Nw.drewN ?_ _ | refine Xt.Nw.alloc ?_ _ | refine Xt.Nw.joined ?_ | refine Xt.Nw.drewd ?_ | refine Xt.Nw.drewdN ?_ | refine Xt.Nw.ext ?_ | refine Xt.Nw.ext_some ?_ (by assumption) | refine Xt.Nw.setCell ?_ (by simp [go_sem] <;> omega) _)))).size
    have p3 := cell_nw p0 hn3
    haveI : In gp W3 := ⟨h3.lt⟩
    haveI : In g W3 := ⟨h3.rlt rfl⟩
    have H3 := Lib.hid h3
    have HN3 := Lib.hid hn3
    have HOW := Lib.hid hown'
    subst hvC
    clear h3 hn3 hown hown'
    go_wp2_with fail
    refine (delete_any _ l i j (i + (n - j)) W3 H3.out.row HLE.out (by have := HTO.out; have := HNE.out; omega) (by have := HN.out; have := HNE.out; omega) (by rw [HNE.out])).mono ?_
    rintro e W4 ⟨v4, rfl, hown4, hch4, hvb⟩
    have hgp : gp ∉ (Value.slice (some ⟨g, 0, none⟩) n c).ownBlock.toList := by rw [Option.mem_toList]; exact H3.out.ne
    have r4 := hch4.cell H3.out.p0 hgp
    have z4 := (hch4.frozen H3.out.lt hgp).trans H3.out.pz
    obtain ⟨A4, n4, c4, hv4⟩ : ∃ A n' c', v4 = .slice A n' c' := by
      rcases own_forms hown4 with ⟨rfl, _⟩ | ⟨g, c, rfl, _⟩
      · exact ⟨_, _, _, rfl⟩
      · exact ⟨_, _, _, rfl⟩
    have hst := Upd.store (v := (Value.slice (some ⟨g, 0, none⟩) n c)) (w := W3) r4 z4 (l := O) (by rw [HOL.out, ← HSP.out.2]; exact hown4) (by rw [hvb]; exact H3.out.ne) (asc_sub H3.out.asc HOS.out) hch4 (.inl hvb)
    have hdis : ∀ q, (Value.slice A m cC).ownBlock = some q → q ≠ gp ∧ v4.ownBlock ≠ some q := fun q hq => by
      have h1 := (HOW.out.lt q hq).1
      have h2 := HH.out.lt
      have h3 := HGL.out
      refine ⟨by omega, fun h => ?_⟩
      rw [hvb] at h; cases h; simp at h1; omega
    have hrow5 := own_chg HOW.out hst.chg (fun q hq hx => by
      rcases mem_foot.1 hx with h | h
      · exact (hdis q hq).1 h
      · cases h; have h1 := (HOW.out.lt _ hq).1; have h3 := HGL.out; simp at h1; omega)
    have HST := Lib.hid (⟨hst.after HN3.out, hrow5, hdis⟩ : Upd w gp (Value.slice (some ⟨g, 0, none⟩) n c) O v4 (W4.setCell ⟨gp, 0, none⟩ v4) ∧ (W4.setCell ⟨gp, 0, none⟩ v4).ownsRow w.heap.size 99 2 (.slice A m cC) m (pcells R) ∧ ∀ q, (Value.slice A m cC).ownBlock = some q → q ≠ gp ∧ v4.ownBlock ≠ some q)
    subst hv4
    clear hown4 hch4 hvb hgp hst hdis hrow5
    go_wp2_with fail
    go_loopw [13, 54] (fun _ a wr => ∃ (q : Nat) (v' : Value), q ≤ m ∧ a = .int .i64 q ∧ Hid (Upd w gp (Value.slice (some ⟨g, 0, none⟩) n c) (mvL by_ (R.take q) O) v' wr ∧ wr.ownsRow w.heap.size 99 2 (.slice A m cC) m (pcells R) ∧ ∀ b, (Value.slice A m cC).ownBlock = some b → b ≠ gp ∧ v'.ownBlock ≠ some b)) (fun _ a _ => m - (intOf a).toNat)
    case atStart => exact ⟨0, _, Nat.zero_le _, rfl, HST⟩
    case round =>
      obtain ⟨q, v', hq, rfl, HU⟩ := hrel
      by_cases hqm : q < m
      · obtain ⟨⟨pk, px⟩, hp⟩ : ∃ p, R[q]? = some p := ⟨_, List.getElem?_eq_getElem (by have := HM.out; omega)⟩
        rcases own_forms HU.out.2.1 with ⟨hA, h0⟩ | ⟨gC, cC', hA, _, hin, _, _⟩
        · omega
        injection hA with a1 a2 a3
        subst a1 a3
        obtain ⟨y0, y1⟩ := pcells_get R q _ hp
        have hl := (List.getElem?_eq_some_iff.1 y1).1
        rw [pcells_len, ← HM.out] at hl
        have c0 : wr.cell? ⟨gC, q * 2, none⟩ = some (.int .u64 pk) := (HU.out.2.1.cellAt _ (by omega)).trans y0
        have c1 : wr.cell? ⟨gC, q * 2 + 1, none⟩ = some (.int .u64 px) := (HU.out.2.1.cellAt _ (by omega)).trans y1
        haveI : In gC wr := ⟨World.block_lt_of_cell? wr _ c0⟩
        haveI : In gp wr := ⟨HU.out.1.om.lt⟩
        have hpk := HIN.out _ (List.mem_of_getElem? hp)
        have qk : IntKind.u64.wrap (pk + by_) = pk + by_ := by
          have h1 := HLO.out; have h2 := HHI.out; have h3 := HB0.out
          simp at hpk
          rw [IntKind.wrap_u64]; omega
        have i1 : (q : Int) < (m : Int) := by omega
        have i2 : (0 : Int) ≤ (q : Int) := by omega
        have i3 : q < 1000000 := by have := HN.out; have := HTO.out; have := HIL.out; omega
        have HP := Lib.hid (take_get hp)
        have HQM := Lib.hid hqm
        clear y0 y1 hl hpk hp hin
        go_wp2_with fail
        refine (set_upd (HU.out.1.om.nw ((by repeat (first | exact Xt.Nw.refl _ | refine Xt.Nw.drew ?_ | refine Xt.Nw.drewN ?_ _ | refine Xt.Nw.alloc ?_ _ | refine Xt.Nw.joined ?_ | refine Xt.Nw.drewd ?_ | refine Xt.Nw.drewdN ?_ | refine Xt.Nw.ext ?_ | refine Xt.Nw.ext_some ?_ (by assumption) | refine Xt.Nw.setCell ?_ (by simp [go_sem] <;> omega) _)))) (by have h1 := mvL_len by_ (R.take q) O; have h2 := HN.out; have h3 := HOI.out; have h4 := HNE.out; have h5 : (R.take q).length ≤ q := List.length_take_le _ _; omega) _ _).mono ?_
        rintro e W7 ⟨rfl, v2, hu2⟩
        have hu2 : Upd wr gp v' _ v2 W7 := Upd.after ((by repeat (first | exact Xt.Nw.refl _ | refine Xt.Nw.drew ?_ | refine Xt.Nw.drewN ?_ _ | refine Xt.Nw.alloc ?_ _ | refine Xt.Nw.joined ?_ | refine Xt.Nw.drewd ?_ | refine Xt.Nw.drewdN ?_ | refine Xt.Nw.ext ?_ | refine Xt.Nw.ext_some ?_ (by assumption) | refine Xt.Nw.setCell ?_ (by simp [go_sem] <;> omega) _))) hu2
        have hrow7 := own_chg HU.out.2.1 hu2.chg (fun b hb hx => by
          have h1 := HU.out.2.2 b hb
          rcases mem_foot.1 hx with h | h
          · exact h1.1 h
          · exact h1.2 h)
        have hdis7 : ∀ b, (Value.slice (some ⟨gC, 0, none⟩) m cC).ownBlock = some b → b ≠ gp ∧ v2.ownBlock ≠ some b := fun b hb => by
          have h1 := HU.out.2.2 b hb
          have h2 := (HU.out.2.1.lt b hb).2
          refine ⟨h1.1, fun h => ?_⟩
          rcases hu2.moved with e | ⟨r, e, hr⟩
          · exact h1.2 (e ▸ h)
          · rw [e] at h; cases h; omega
        have HR := Lib.hid (⟨by rw [HP.out, mvL_snoc]; exact HU.out.1.trans hu2, hrow7, hdis7⟩ : Upd w gp (Value.slice (some ⟨g, 0, none⟩) n c) (mvL by_ (R.take (q + 1)) O) v2 W7 ∧ W7.ownsRow w.heap.size 99 2 (.slice (some ⟨gC, 0, none⟩) m cC) m (pcells R) ∧ ∀ b, (Value.slice (some ⟨gC, 0, none⟩) m cC).ownBlock = some b → b ≠ gp ∧ v2.ownBlock ≠ some b)
        clear hu2 hrow7 hdis7
        go_wp2
        exact ⟨⟨q + 1, v2, by have := HQM.out; omega, by go_num, HR⟩, by have := HQM.out; simp [intOf]; omega⟩
      · obtain rfl : q = m := by omega
        have hfull : R.take q = R := List.take_of_length_le (by rw [← HM.out]; exact Nat.le_refl _)
        rw [hfull] at HU
        clear hfull
        go_wp2
        refine bodyPost_ret (v := .tuple #[.int .i64 q, .int .i64 0]) ?_ rfl ⟨rfl, _, HU.out.1⟩
        simp [results, Tryz.results119, go_sem]
  · have hci2 : ¬ c = i := by omega
    go_enter Tryz.func119, Tryz.ntmps119
    go_wp2_with fail
    refine (HE.out _ ((by repeat (first | exact Xt.Nw.refl _ | refine Xt.Nw.drew ?_ | refine Xt.Nw.drewN ?_ _ | refine Xt.Nw.alloc ?_ _ | refine Xt.Nw.joined ?_ | refine Xt.Nw.drewd ?_ | refine Xt.Nw.drewdN ?_ | refine Xt.Nw.ext ?_ | refine Xt.Nw.ext_some ?_ (by assumption) | refine Xt.Nw.setCell ?_ (by simp [go_sem] <;> omega) _)))).mono ?_
    rintro e W2 ⟨rfl, d2, rfl⟩
    go_wp2_with fail
    refine (clone_any _ _ _ R _ (HRDh.out _ _ _ ((by repeat (first | exact Xt.Nw.refl _ | refine Xt.Nw.drew ?_ | refine Xt.Nw.drewN ?_ _ | refine Xt.Nw.alloc ?_ _ | refine Xt.Nw.joined ?_ | refine Xt.Nw.drewd ?_ | refine Xt.Nw.drewdN ?_ | refine Xt.Nw.ext ?_ | refine Xt.Nw.ext_some ?_ (by assumption) | refine Xt.Nw.setCell ?_ (by simp [go_sem] <;> omega) _))) HIL.out.symm (by first | exact .inl rfl | exact .inr (by have := HIL.out; have := HTO.out; omega))) (by have := HN.out; have := HTO.out; omega) (by intro h; cases h)).mono ?_
    rintro e W3 ⟨vC, rfl, hown, hn3⟩
    have hn3 : Nw w W3 := Nw.trans (by exact (by repeat (first | exact Xt.Nw.refl _ | refine Xt.Nw.drew ?_ | refine Xt.Nw.drewN ?_ _ | refine Xt.Nw.alloc ?_ _ | refine Xt.Nw.joined ?_ | refine Xt.Nw.drewd ?_ | refine Xt.Nw.drewdN ?_ | refine Xt.Nw.ext ?_ | refine Xt.Nw.ext_some ?_ (by assumption) | refine Xt.Nw.setCell ?_ (by simp [go_sem] <;> omega) _))) hn3
    obtain ⟨A, cC, hvC⟩ : ∃ A cC, vC = .slice A m cC := by
      rcases own_forms hown with ⟨rfl, h0⟩ | ⟨g, c, rfl, _⟩
      · rw [HIL.out, h0]; exact ⟨_, _, rfl⟩
      · rw [HIL.out]; exact ⟨_, _, rfl⟩
    rw [← HIL.out] at hown
    have h3 := HH.out.nw hn3
    have hown' : W3.ownsRow w.heap.size 99 2 (.slice A m cC) m (pcells R) := hvC ▸ own_le hown (Nw.grown (by exact (by repeat (first | exact Xt.Nw.refl _ | refine Xt.Nw.drew ?_ | refine Xt.Nw.drewN ?_ _ | refine Xt.Nw.alloc ?_ _ | refine Xt.Nw.joined ?_ | refine Xt.Nw.drewd ?_ | refine Xt.Nw.drewdN ?_ | refine Xt.Nw.ext ?_ | refine Xt.Nw.ext_some ?_ (by assumption) | refine Xt.Nw.setCell ?_ (by simp [go_sem] <;> omega) _)))).size
    have p3 := cell_nw p0 hn3
    haveI : In gp W3 := ⟨h3.lt⟩
    haveI : In g W3 := ⟨h3.rlt rfl⟩
    have H3 := Lib.hid h3
    have HN3 := Lib.hid hn3
    have HOW := Lib.hid hown'
    subst hvC
    clear h3 hn3 hown hown'
    go_wp2_with fail
    refine (delete_any _ l i j (i + (n - j)) W3 H3.out.row HLE.out (by have := HTO.out; have := HNE.out; omega) (by have := HN.out; have := HNE.out; omega) (by rw [HNE.out])).mono ?_
    rintro e W4 ⟨v4, rfl, hown4, hch4, hvb⟩
    have hgp : gp ∉ (Value.slice (some ⟨g, 0, none⟩) n c).ownBlock.toList := by rw [Option.mem_toList]; exact H3.out.ne
    have r4 := hch4.cell H3.out.p0 hgp
    have z4 := (hch4.frozen H3.out.lt hgp).trans H3.out.pz
    obtain ⟨A4, n4, c4, hv4⟩ : ∃ A n' c', v4 = .slice A n' c' := by
      rcases own_forms hown4 with ⟨rfl, _⟩ | ⟨g, c, rfl, _⟩
      · exact ⟨_, _, _, rfl⟩
      · exact ⟨_, _, _, rfl⟩
    have hst := Upd.store (v := (Value.slice (some ⟨g, 0, none⟩) n c)) (w := W3) r4 z4 (l := O) (by rw [HOL.out, ← HSP.out.2]; exact hown4) (by rw [hvb]; exact H3.out.ne) (asc_sub H3.out.asc HOS.out) hch4 (.inl hvb)
    have hdis : ∀ q, (Value.slice A m cC).ownBlock = some q → q ≠ gp ∧ v4.ownBlock ≠ some q := fun q hq => by
      have h1 := (HOW.out.lt q hq).1
      have h2 := HH.out.lt
      have h3 := HGL.out
      refine ⟨by omega, fun h => ?_⟩
      rw [hvb] at h; cases h; simp at h1; omega
    have hrow5 := own_chg HOW.out hst.chg (fun q hq hx => by
      rcases mem_foot.1 hx with h | h
      · exact (hdis q hq).1 h
      · cases h; have h1 := (HOW.out.lt _ hq).1; have h3 := HGL.out; simp at h1; omega)
    have HST := Lib.hid (⟨hst.after HN3.out, hrow5, hdis⟩ : Upd w gp (Value.slice (some ⟨g, 0, none⟩) n c) O v4 (W4.setCell ⟨gp, 0, none⟩ v4) ∧ (W4.setCell ⟨gp, 0, none⟩ v4).ownsRow w.heap.size 99 2 (.slice A m cC) m (pcells R) ∧ ∀ q, (Value.slice A m cC).ownBlock = some q → q ≠ gp ∧ v4.ownBlock ≠ some q)
    subst hv4
    clear hown4 hch4 hvb hgp hst hdis hrow5
    go_wp2_with fail
    go_loopw [13, 54] (fun _ a wr => ∃ (q : Nat) (v' : Value), q ≤ m ∧ a = .int .i64 q ∧ Hid (Upd w gp (Value.slice (some ⟨g, 0, none⟩) n c) (mvL by_ (R.take q) O) v' wr ∧ wr.ownsRow w.heap.size 99 2 (.slice A m cC) m (pcells R) ∧ ∀ b, (Value.slice A m cC).ownBlock = some b → b ≠ gp ∧ v'.ownBlock ≠ some b)) (fun _ a _ => m - (intOf a).toNat)
    case atStart => exact ⟨0, _, Nat.zero_le _, rfl, HST⟩
    case round =>
      obtain ⟨q, v', hq, rfl, HU⟩ := hrel
      by_cases hqm : q < m
      · obtain ⟨⟨pk, px⟩, hp⟩ : ∃ p, R[q]? = some p := ⟨_, List.getElem?_eq_getElem (by have := HM.out; omega)⟩
        rcases own_forms HU.out.2.1 with ⟨hA, h0⟩ | ⟨gC, cC', hA, _, hin, _, _⟩
        · omega
        injection hA with a1 a2 a3
        subst a1 a3
        obtain ⟨y0, y1⟩ := pcells_get R q _ hp
        have hl := (List.getElem?_eq_some_iff.1 y1).1
        rw [pcells_len, ← HM.out] at hl
        have c0 : wr.cell? ⟨gC, q * 2, none⟩ = some (.int .u64 pk) := (HU.out.2.1.cellAt _ (by omega)).trans y0
        have c1 : wr.cell? ⟨gC, q * 2 + 1, none⟩ = some (.int .u64 px) := (HU.out.2.1.cellAt _ (by omega)).trans y1
        haveI : In gC wr := ⟨World.block_lt_of_cell? wr _ c0⟩
        haveI : In gp wr := ⟨HU.out.1.om.lt⟩
        have hpk := HIN.out _ (List.mem_of_getElem? hp)
        have qk : IntKind.u64.wrap (pk + by_) = pk + by_ := by
          have h1 := HLO.out; have h2 := HHI.out; have h3 := HB0.out
          simp at hpk
          rw [IntKind.wrap_u64]; omega
        have i1 : (q : Int) < (m : Int) := by omega
        have i2 : (0 : Int) ≤ (q : Int) := by omega
        have i3 : q < 1000000 := by have := HN.out; have := HTO.out; have := HIL.out; omega
        have HP := Lib.hid (take_get hp)
        have HQM := Lib.hid hqm
        clear y0 y1 hl hpk hp hin
        go_wp2_with fail
        refine (set_upd (HU.out.1.om.nw ((by repeat (first | exact Xt.Nw.refl _ | refine Xt.Nw.drew ?_ | refine Xt.Nw.drewN ?_ _ | refine Xt.Nw.alloc ?_ _ | refine Xt.Nw.joined ?_ | refine Xt.Nw.drewd ?_ | refine Xt.Nw.drewdN ?_ | refine Xt.Nw.ext ?_ | refine Xt.Nw.ext_some ?_ (by assumption) | refine Xt.Nw.setCell ?_ (by simp [go_sem] <;> omega) _)))) (by have h1 := mvL_len by_ (R.take q) O; have h2 := HN.out; have h3 := HOI.out; have h4 := HNE.out; have h5 : (R.take q).length ≤ q := List.length_take_le _ _; omega) _ _).mono ?_
        rintro e W7 ⟨rfl, v2, hu2⟩
        have hu2 : Upd wr gp v' _ v2 W7 := Upd.after ((by repeat (first | exact Xt.Nw.refl _ | refine Xt.Nw.drew ?_ | refine Xt.Nw.drewN ?_ _ | refine Xt.Nw.alloc ?_ _ | refine Xt.Nw.joined ?_ | refine Xt.Nw.drewd ?_ | refine Xt.Nw.drewdN ?_ | refine Xt.Nw.ext ?_ | refine Xt.Nw.ext_some ?_ (by assumption) | refine Xt.Nw.setCell ?_ (by simp [go_sem] <;> omega) _))) hu2
        have hrow7 := own_chg HU.out.2.1 hu2.chg (fun b hb hx => by
          have h1 := HU.out.2.2 b hb
          rcases mem_foot.1 hx with h | h
          · exact h1.1 h
          · exact h1.2 h)
        have hdis7 : ∀ b, (Value.slice (some ⟨gC, 0, none⟩) m cC).ownBlock = some b → b ≠ gp ∧ v2.ownBlock ≠ some b := fun b hb => by
          have h1 := HU.out.2.2 b hb
          have h2 := (HU.out.2.1.lt b hb).2
          refine ⟨h1.1, fun h => ?_⟩
          rcases hu2.moved with e | ⟨r, e, hr⟩
          · exact h1.2 (e ▸ h)
          · rw [e] at h; cases h; omega
        have HR := Lib.hid (⟨by rw [HP.out, mvL_snoc]; exact HU.out.1.trans hu2, hrow7, hdis7⟩ : Upd w gp (Value.slice (some ⟨g, 0, none⟩) n c) (mvL by_ (R.take (q + 1)) O) v2 W7 ∧ W7.ownsRow w.heap.size 99 2 (.slice (some ⟨gC, 0, none⟩) m cC) m (pcells R) ∧ ∀ b, (Value.slice (some ⟨gC, 0, none⟩) m cC).ownBlock = some b → b ≠ gp ∧ v2.ownBlock ≠ some b)
        clear hu2 hrow7 hdis7
        go_wp2
        exact ⟨⟨q + 1, v2, by have := HQM.out; omega, by go_num, HR⟩, by have := HQM.out; simp [intOf]; omega⟩
      · obtain rfl : q = m := by omega
        have hfull : R.take q = R := List.take_of_length_le (by rw [← HM.out]; exact Nat.le_refl _)
        rw [hfull] at HU
        clear hfull
        go_wp2
        refine bodyPost_ret (v := .tuple #[.int .i64 q, .int .i64 0]) ?_ rfl ⟨rfl, _, HU.out.1⟩
        simp [results, Tryz.results119, go_sem]
/-- Move: the pairs of the range are moved. -/
theorem move_om {w : World} {gp : Nat} {v : Value} {l : List (Int × Int)} (h : OM w gp v l) (hn : l.length ≤ 500000) (lo hi by_ : Int) (hlh : lo ≤ hi) (hlo : 0 ≤ lo) (hb0 : 0 < by_) (hb1 : by_ ≤ 18446744073709551615 - hi) :
    Calls Tryz.prog 119 #[.pointer (some ⟨gp, 0, none⟩), spV lo hi, .int .u64 by_] w fun e w' => e = .returned (.tuple #[.int .i64 (inR lo hi l).length, .int .i64 0]) ∧ ∃ v', Upd w gp v (moveL lo hi by_ l) v' w' := by
  rcases h.form with ⟨rfl, rfl⟩ | ⟨g, c, rfl, -, -, -⟩
  · exact move_nil h lo hi by_ hlh hlo hb0 hb1
  · exact move_some h hn lo hi by_ hlh hlo hb0 hb1
end Go.Proofs.YtnfpicnigfmbdaaGreatDoor
