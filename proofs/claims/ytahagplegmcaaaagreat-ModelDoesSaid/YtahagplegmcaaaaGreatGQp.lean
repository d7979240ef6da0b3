import Derived.Test.YtahagplegmcaaaaGreatGVt
set_option linter.unusedVariables false
set_option linter.unusedSimpArgs false
namespace Go.Proofs.YtahagplegmcaaaaGreat
open Go.RowKit Go.Xt
/-! A model of the law's own beside a row of pairs. -/
def LSR (w : World) (gm : Nat) (s : Md) (N : Nat) (W : World) (v : Value) (l : List (Int × Int)) : Prop :=
  ∃ p : Pl, p.gm = gm ∧ MAt W p s ∧ s.Ok N ∧ (∀ g ∈ p.foot, w.heap.size ≤ g) ∧ Nw w W ∧ W.ownsRow 0 104 2 v l.length (pcells l) ∧ ∀ b, v.ownBlock = some b → b ∉ p.foot
theorem LSR.row {w W : World} {gm : Nat} {s : Md} {N : Nat} {v : Value} {l : List (Int × Int)} (h : LSR w gm s N W v l) : W.ownsRow 0 104 2 v l.length (pcells l) := by
  obtain ⟨p, h1, h2, h3, h4, h5, h6, _⟩ := h; exact h6
theorem LSR.grow {w W W' : World} {gm : Nat} {s : Md} {N : Nat} {v : Value} {l : List (Int × Int)} (h : LSR w gm s N W v l) (hn : Nw W W') : LSR w gm s N W' v l := by
  obtain ⟨p, h1, h2, h3, h4, h5, h6, h7⟩ := h
  exact ⟨p, h1, h2.nw hn, h3, h4, h5.trans hn, own_nw h6 hn, h7⟩
set_option maxRecDepth 20000 in
@[go_sem high] theorem eqSpan (a b c d : Int) (w : World) : (Op.equalIn 10000 69 (.agg #[.int .u64 a, .int .u64 b]) (.agg #[.int .u64 c, .int .u64 d])).run Tryz.prog w = .ok (decide (a = c) && decide (b = d)) w := by
  have hS : Tryz.prog.underlying 69 = some (.struct (Tryz.prog.fieldsOf 69)) := by kernel_rfl
  have hp : Tryz.prog.stoodInHeld 69 = false := by kernel_rfl
  rw [show (10000 : Nat) = 9999 + 1 from rfl, run_equalIn_agg w 9999 69 _ _ hS hp]
  simp only [Program.fieldsOf, Tryz.underlying69]
  go_simp
  simp only [ite_ok0, ite_ok]
  simp only [Bool.decide_and]
end Go.Proofs.YtahagplegmcaaaaGreat
namespace Go.Proofs.YtahagplegmcaaaaGreat
open Go.RowKit Go.Xt
/-! Range and Copy of a map; births, gives. -/
/-- The pairs of a range, as a part of the map's row. -/
theorem rd_range {W : World} {gp g c : Nat} {l : List (Int × Int)} (h : OM W gp (.slice (some ⟨g, 0, none⟩) l.length c) l) {lo hi : Int} (hlh : lo ≤ hi) {A : Option Addr} (hA : A = some ⟨g, pos lo l * 2, none⟩ ∨ (inR lo hi l).length = 0) :
    Rd W 2 A (inR lo hi l).length (pcells (inR lo hi l)) := by
  refine ⟨pcells_len _, fun h0 => ?_⟩
  rcases hA with rfl | h1
  · have hle := pos_le_to hlh h.asc
    have hto := posTo_le hi l
    have hil := inR_len hlh h.asc
    have hsp := (split_range hlh h.asc).1
    obtain ⟨R, hR⟩ : ∃ R, R = inR lo hi l := ⟨_, rfl⟩
    rw [← hR] at hil hsp h0 ⊢
    obtain ⟨i, hi'⟩ : ∃ i, i = pos lo l := ⟨_, rfl⟩
    obtain ⟨j, hj'⟩ : ∃ j, j = posTo hi l := ⟨_, rfl⟩
    simp only [← hi', ← hj'] at hle hto hil hsp ⊢
    refine ⟨g, i * 2, rfl, h.rlt rfl, fun q u hu => ?_⟩
    have hq := (List.getElem?_eq_some_iff.1 hu).1
    rw [pcells_len] at hq
    rw [h.row.cellAt _ (by omega)]
    have e1 : pcells l = pcells (l.take i) ++ (pcells R ++ pcells (l.drop j)) := by
      rw [← hsp, ← pcells_app, ← pcells_app]
      congr 1
      have e2 : l.take i = (l.take j).take i := by rw [List.take_take, Nat.min_eq_left hle]
      rw [e2, ← List.append_assoc, List.take_append_drop, List.take_append_drop]
    rw [e1, List.getElem?_append_right (by rw [pcells_len, List.length_take]; omega), pcells_len, List.length_take, Nat.min_eq_left (by omega), show i * 2 + q - i * 2 = q by omega, List.getElem?_append_left (by rw [pcells_len]; omega)]
    exact hu
  · omega
set_option maxRecDepth 20000 in
set_option maxHeartbeats 4000000 in
theorem range_om {w : World} {gp : Nat} {v : Value} {l : List (Int × Int)} (h : OM w gp v l) (hn : l.length ≤ 1000000) (lo hi : Int) (hlh : lo ≤ hi) :
    Calls Tryz.prog 85 #[.pointer (some ⟨gp, 0, none⟩), spV lo hi] w fun e w' => ∃ v', e = .returned (.tuple #[v', .int .i64 0]) ∧ w'.ownsRow w.heap.size 104 2 v' (inR lo hi l).length (pcells (inR lo hi l)) ∧ Nw w w' := by
  haveI : In gp w := ⟨h.lt⟩
  have p0 := h.p0
  have HE := Lib.hid (fun W (hw : Nw w W) => ends_om (h.nw hw) hn lo hi hlh)
  have HIL := Lib.hid (inR_len hlh h.asc)
  have hle := pos_le_to hlh h.asc
  have hto := posTo_le hi l
  rcases h.form with ⟨rfl, rfl⟩ | ⟨g, c, rfl, hlc, -, hin⟩
  · have e1 : pos lo [] = 0 := rfl
    have e2 : posTo hi [] = 0 := rfl
    have e3 : inR lo hi [] = [] := rfl
    rw [e1, e2] at HE
    rw [e3]
    unfold spV at HE ⊢
    have HCN := Lib.hid (fun W => clone_any none 0 0 [] W ⟨rfl, fun h => by omega⟩ (by omega) (fun _ => ⟨rfl, rfl⟩))
    clear h hlh e1 e2 e3 HIL hle hto
    go_enter Tryz.func85, Tryz.ntmps85
    go_wp2_with fail
    refine (HE.out _ ((by repeat (first | exact Xt.Nw.refl _ | refine Xt.Nw.drew ?_ | refine Xt.Nw.drewN ?_ _ | refine Xt.Nw.alloc ?_ _ | refine Xt.Nw.joined ?_ | refine Xt.Nw.drewd ?_ | refine Xt.Nw.drewdN ?_ | refine Xt.Nw.ext ?_ | refine Xt.Nw.ext_some ?_ (by assumption) | refine Xt.Nw.setCell ?_ (by simp [go_sem] <;> omega) _)))).mono ?_
    rintro e w2 ⟨rfl, d2, rfl⟩
    go_wp2_with fail
    refine (HCN.out _).mono ?_
    rintro e w3 ⟨v', rfl, hown, hn3⟩
    have hn3 : Nw w w3 := Nw.trans (by exact (by repeat (first | exact Xt.Nw.refl _ | refine Xt.Nw.drew ?_ | refine Xt.Nw.drewN ?_ _ | refine Xt.Nw.alloc ?_ _ | refine Xt.Nw.joined ?_ | refine Xt.Nw.drewd ?_ | refine Xt.Nw.drewdN ?_ | refine Xt.Nw.ext ?_ | refine Xt.Nw.ext_some ?_ (by assumption) | refine Xt.Nw.setCell ?_ (by simp [go_sem] <;> omega) _))) hn3
    have HO := Lib.hid (show w3.ownsRow w.heap.size 104 2 v' 0 (pcells []) from own_le hown (Nw.grown (by exact (by repeat (first | exact Xt.Nw.refl _ | refine Xt.Nw.drew ?_ | refine Xt.Nw.drewN ?_ _ | refine Xt.Nw.alloc ?_ _ | refine Xt.Nw.joined ?_ | refine Xt.Nw.drewd ?_ | refine Xt.Nw.drewdN ?_ | refine Xt.Nw.ext ?_ | refine Xt.Nw.ext_some ?_ (by assumption) | refine Xt.Nw.setCell ?_ (by simp [go_sem] <;> omega) _)))).size)
    have HN := Lib.hid hn3
    clear hown hn3
    go_wp2
    refine bodyPost_ret (v := .tuple #[v', .int .i64 0]) ?_ rfl ⟨v', rfl, ?_⟩
    · simp [results, Tryz.results85, go_sem]
    · exact ⟨HO.out, HN.out⟩
  · haveI : In g w := hin
    have HRD := Lib.hid (fun W (hw : Nw w W) (A : Option Addr) (hA : A = some ⟨g, pos lo l * 2, none⟩ ∨ (inR lo hi l).length = 0) => rd_range (h.nw hw) hlh hA)
    obtain ⟨R, hR⟩ : ∃ R, R = inR lo hi l := ⟨_, rfl⟩
    simp only [← hR] at HIL HRD ⊢
    obtain ⟨i, hi'⟩ : ∃ i, i = pos lo l := ⟨_, rfl⟩
    obtain ⟨j, hj'⟩ : ∃ j, j = posTo hi l := ⟨_, rfl⟩
    simp only [← hi', ← hj'] at HE HIL hle hto HRD
    obtain ⟨n, hne⟩ : ∃ n, n = l.length := ⟨_, rfl⟩
    rw [← hne] at p0 hto hlc hn
    obtain ⟨m, hm⟩ : ∃ m, m = R.length := ⟨_, rfl⟩
    rw [← hm] at HIL HRD ⊢
    have b1 : (i : Int) ≤ (j : Int) := by omega
    have b4 : (j : Int) ≤ (c : Int) := by omega
    have b5 : i ≤ j := by omega
    have b6 : j ≤ c := by omega
    have HN1 := Lib.hid (show m ≤ 1000000 by have := HIL.out; omega)
    have HJC := Lib.hid (show j ≤ c ∧ i ≤ j by omega)
    unfold spV at HE ⊢
    clear h hlh hR hi' hj' hne hm hle hto hn hlc hin
    by_cases hci : c ≤ i
    · go_enter Tryz.func85, Tryz.ntmps85
      go_wp2_with fail
      refine (HE.out _ ((by repeat (first | exact Xt.Nw.refl _ | refine Xt.Nw.drew ?_ | refine Xt.Nw.drewN ?_ _ | refine Xt.Nw.alloc ?_ _ | refine Xt.Nw.joined ?_ | refine Xt.Nw.drewd ?_ | refine Xt.Nw.drewdN ?_ | refine Xt.Nw.ext ?_ | refine Xt.Nw.ext_some ?_ (by assumption) | refine Xt.Nw.setCell ?_ (by simp [go_sem] <;> omega) _)))).mono ?_
      rintro e w2 ⟨rfl, d2, rfl⟩
      go_wp2_with fail
      have HR2 := HRD.out _ ((by repeat (first | exact Xt.Nw.refl _ | refine Xt.Nw.drew ?_ | refine Xt.Nw.drewN ?_ _ | refine Xt.Nw.alloc ?_ _ | refine Xt.Nw.joined ?_ | refine Xt.Nw.drewd ?_ | refine Xt.Nw.drewdN ?_ | refine Xt.Nw.ext ?_ | refine Xt.Nw.ext_some ?_ (by assumption) | refine Xt.Nw.setCell ?_ (by simp [go_sem] <;> omega) _)) : Nw w ((w.alloc (.cells #[.int .u64 lo, .int .u64 hi] 69)).ext none d2))
      rw [HIL.out] at HR2
      refine (clone_any _ (j - i) _ R _ (HR2 _ (by first | exact .inl rfl | exact .inr (by have := HJC.out; omega))) (by have := HN1.out; have := HIL.out; omega) (by intro h; cases h)).mono ?_
      rintro e w3 ⟨v', rfl, hown, hn3⟩
      have hn3 : Nw w w3 := Nw.trans (by exact (by repeat (first | exact Xt.Nw.refl _ | refine Xt.Nw.drew ?_ | refine Xt.Nw.drewN ?_ _ | refine Xt.Nw.alloc ?_ _ | refine Xt.Nw.joined ?_ | refine Xt.Nw.drewd ?_ | refine Xt.Nw.drewdN ?_ | refine Xt.Nw.ext ?_ | refine Xt.Nw.ext_some ?_ (by assumption) | refine Xt.Nw.setCell ?_ (by simp [go_sem] <;> omega) _))) hn3
      rw [← HIL.out] at hown
      have HO := Lib.hid (show w3.ownsRow w.heap.size 104 2 v' m (pcells R) from own_le hown (Nw.grown (by exact (by repeat (first | exact Xt.Nw.refl _ | refine Xt.Nw.drew ?_ | refine Xt.Nw.drewN ?_ _ | refine Xt.Nw.alloc ?_ _ | refine Xt.Nw.joined ?_ | refine Xt.Nw.drewd ?_ | refine Xt.Nw.drewdN ?_ | refine Xt.Nw.ext ?_ | refine Xt.Nw.ext_some ?_ (by assumption) | refine Xt.Nw.setCell ?_ (by simp [go_sem] <;> omega) _)))).size)
      have HN := Lib.hid hn3
      clear hown hn3 HR2
      go_wp2
      refine bodyPost_ret (v := .tuple #[v', .int .i64 0]) ?_ rfl ⟨v', rfl, HO.out, HN.out⟩
      simp [results, Tryz.results85, go_sem]
    · have hci2 : ¬ c = i := by omega
      go_enter Tryz.func85, Tryz.ntmps85
      go_wp2_with fail
      refine (HE.out _ ((by repeat (first | exact Xt.Nw.refl _ | refine Xt.Nw.drew ?_ | refine Xt.Nw.drewN ?_ _ | refine Xt.Nw.alloc ?_ _ | refine Xt.Nw.joined ?_ | refine Xt.Nw.drewd ?_ | refine Xt.Nw.drewdN ?_ | refine Xt.Nw.ext ?_ | refine Xt.Nw.ext_some ?_ (by assumption) | refine Xt.Nw.setCell ?_ (by simp [go_sem] <;> omega) _)))).mono ?_
      rintro e w2 ⟨rfl, d2, rfl⟩
      go_wp2_with fail
      have HR2 := HRD.out _ ((by repeat (first | exact Xt.Nw.refl _ | refine Xt.Nw.drew ?_ | refine Xt.Nw.drewN ?_ _ | refine Xt.Nw.alloc ?_ _ | refine Xt.Nw.joined ?_ | refine Xt.Nw.drewd ?_ | refine Xt.Nw.drewdN ?_ | refine Xt.Nw.ext ?_ | refine Xt.Nw.ext_some ?_ (by assumption) | refine Xt.Nw.setCell ?_ (by simp [go_sem] <;> omega) _)) : Nw w ((w.alloc (.cells #[.int .u64 lo, .int .u64 hi] 69)).ext none d2))
      rw [HIL.out] at HR2
      refine (clone_any _ (j - i) _ R _ (HR2 _ (by first | exact .inl rfl | exact .inr (by have := HJC.out; omega))) (by have := HN1.out; have := HIL.out; omega) (by intro h; cases h)).mono ?_
      rintro e w3 ⟨v', rfl, hown, hn3⟩
      have hn3 : Nw w w3 := Nw.trans (by exact (by repeat (first | exact Xt.Nw.refl _ | refine Xt.Nw.drew ?_ | refine Xt.Nw.drewN ?_ _ | refine Xt.Nw.alloc ?_ _ | refine Xt.Nw.joined ?_ | refine Xt.Nw.drewd ?_ | refine Xt.Nw.drewdN ?_ | refine Xt.Nw.ext ?_ | refine Xt.Nw.ext_some ?_ (by assumption) | refine Xt.Nw.setCell ?_ (by simp [go_sem] <;> omega) _))) hn3
      rw [← HIL.out] at hown
      have HO := Lib.hid (show w3.ownsRow w.heap.size 104 2 v' m (pcells R) from own_le hown (Nw.grown (by exact (by repeat (first | exact Xt.Nw.refl _ | refine Xt.Nw.drew ?_ | refine Xt.Nw.drewN ?_ _ | refine Xt.Nw.alloc ?_ _ | refine Xt.Nw.joined ?_ | refine Xt.Nw.drewd ?_ | refine Xt.Nw.drewdN ?_ | refine Xt.Nw.ext ?_ | refine Xt.Nw.ext_some ?_ (by assumption) | refine Xt.Nw.setCell ?_ (by simp [go_sem] <;> omega) _)))).size)
      have HN := Lib.hid hn3
      clear hown hn3 HR2
      go_wp2
      refine bodyPost_ret (v := .tuple #[v', .int .i64 0]) ?_ rfl ⟨v', rfl, HO.out, HN.out⟩
      simp [results, Tryz.results85, go_sem]
set_option maxRecDepth 20000 in
set_option maxHeartbeats 4000000 in
theorem ocopy_M {w : World} {gp : Nat} {v : Value} {l : List (Int × Int)} (h : OM w gp v l) (hn : l.length ≤ 1000000) :
    Calls Tryz.prog 55 #[.pointer (some ⟨gp, 0, none⟩)] w fun e w' => ∃ gq, e = .returned (.pointer (some ⟨gq, 0, none⟩)) ∧ w.heap.size ≤ gq ∧ (∃ v', OM w' gq v' l ∧ ∀ b, v'.ownBlock = some b → w.heap.size ≤ b) ∧ Nw w w' := by
  have p0 := h.p0
  haveI : In gp w := ⟨h.lt⟩
  have HASC := Lib.hid h.asc
  have fin : ∀ (W : World) (v' : Value), W.ownsRow w.heap.size 104 2 v' l.length (pcells l) → Nw w W → w.heap.size ≤ W.heap.size ∧ (∃ v'', OM (W.alloc (.cells #[v'] 102)) W.heap.size v'' l ∧ ∀ b, v''.ownBlock = some b → w.heap.size ≤ b) ∧ Nw w (W.alloc (.cells #[v'] 102)) := fun W v' ho hw =>
    ⟨hw.grown.size, ⟨v', ⟨by simp [go_sem], own_le (own_nw ho ((Nw.refl W).alloc _)) (Nat.zero_le _), fun e => by have := (ho.lt _ e).2; omega, by simp [go_sem], HASC.out⟩, fun b hb => (ho.lt b hb).1⟩, hw.alloc _⟩
  have FIN := Lib.hid fin
  clear fin
  rcases h.form with ⟨rfl, rfl⟩ | ⟨g, c, rfl, -, -, hin⟩
  · clear h
    go_enter Tryz.func55, Tryz.ntmps55
    go_wp2_with fail
    refine (clone_any none 0 0 [] w ⟨rfl, fun h => by omega⟩ (by omega) (fun _ => ⟨rfl, rfl⟩)).mono ?_
    rintro e W2 ⟨v', rfl, hown, hn2⟩
    have HF := Lib.hid (FIN.out W2 v' hown hn2)
    obtain ⟨A, cC, hvC⟩ : ∃ A cC, v' = .slice A 0 cC := by
      rcases own_forms hown with ⟨rfl, _⟩ | ⟨g, c, rfl, _⟩
      · exact ⟨_, _, rfl⟩
      · exact ⟨_, _, rfl⟩
    subst hvC
    clear hown hn2
    go_wp2
    exact bodyPost_ret (results_tmp rfl _ _ _) rfl ⟨W2.heap.size, rfl, HF.out⟩
  · have HR := Lib.hid (⟨pcells_len l, fun hl => ⟨g, 0, rfl, hin.lt, fun j u hu => by
        have := (List.getElem?_eq_some_iff.1 hu).1
        rw [pcells_len] at this
        rw [Nat.zero_add, h.row.cellAt _ this]; exact hu⟩⟩ : Rd w 2 (some ⟨g, 0, none⟩) l.length (pcells l))
    clear h
    go_enter Tryz.func55, Tryz.ntmps55
    go_wp2_with fail
    refine (clone_any _ l.length c l w HR.out hn (fun h => by cases h)).mono ?_
    rintro e W2 ⟨v', rfl, hown, hn2⟩
    have HF := Lib.hid (FIN.out W2 v' hown hn2)
    obtain ⟨A, cC, hvC⟩ : ∃ A cC, v' = .slice A l.length cC := by
      rcases own_forms hown with ⟨rfl, h0⟩ | ⟨g, c, rfl, _⟩
      · rw [h0]; exact ⟨_, _, rfl⟩
      · exact ⟨_, _, rfl⟩
    subst hvC
    clear hown hn2
    go_wp2
    exact bodyPost_ret (results_tmp rfl _ _ _) rfl ⟨W2.heap.size, rfl, HF.out⟩
end Go.Proofs.YtahagplegmcaaaaGreat
namespace Go.Proofs.YtahagplegmcaaaaGreat
open Go.RowKit Go.Xt
/-! births, gives. -/
/-- Whether a move makes a key present that was absent. -/
def birthsM (s : Md) (o : Ox) : Bool := (inR o.key o.hi s.l).any fun p => !hasK (p.1 + o.by_) s.l
/-- Whether an operation may end with an error and change nothing. -/
def givesM (s : Md) (o : Ox) (e : Int) : Bool :=
  if e = 11 then (decide (3 ≤ o.k) && decide (o.k ≤ 10)) || decide (o.k = 12)
  else if e = 6 then ((decide (o.k = 4) || decide (o.k = 5)) && !hasK o.key s.l) || (decide (o.k = 8) && birthsM s o)
  else if e = 10 then decide (o.k = 1)
  else false
theorem any_take {α : Type} {p : α → Bool} {l : List α} {i : Nat} {x : α} (h : l[i]? = some x) : (l.take (i + 1)).any p = ((l.take i).any p || p x) := by
  rw [List.take_add_one, h]; simp
set_option maxRecDepth 20000 in
set_option maxHeartbeats 8000000 in
theorem births_M (w : World) (p : Pl) (s : Md) (h : MAt w p s) (hl : s.l.length ≤ 500000) (a b c d e f : Int) (hab : a ≤ b) (ha : 0 ≤ a) (he : 0 ≤ e) (hbe : b + e ≤ 18446744073709551615) :
    Calls Tryz.prog 53 #[.pointer (some ⟨p.gm, 0, none⟩), op7 8 a b c d e f] w fun q w' => q = .returned (.bool (birthsM s ⟨8, a, b, c, d, e, f⟩)) ∧ Nw w w' := by
  obtain ⟨gm, gt, gp, v⟩ := p
  have m1 : w.cell? ⟨gm, 1, none⟩ = some (.pointer (some ⟨gp, 0, none⟩)) := h.m1
  haveI : In gm w := ⟨h.im⟩
  have HG := Lib.hid (fun W (hw : Nw w W) k => get_om (h.om.nw hw : OM W gp v s.l) (by omega) k)
  have HR := Lib.hid (fun W (hw : Nw w W) => range_om (h.om.nw hw : OM W gp v s.l) (by omega) a b hab)
  unfold spV at HR
  unfold birthsM
  simp only
  obtain ⟨R, hR⟩ : ∃ R, R = inR a b s.l := ⟨_, rfl⟩
  have HIN := Lib.hid (fun p (hp : p ∈ R) => show a ≤ p.1 ∧ p.1 ≤ b by
    rw [hR] at hp
    have := (List.mem_filter.1 hp).2
    simpa using this)
  have HLEN := Lib.hid (show R.length ≤ 500000 by rw [hR]; exact Nat.le_trans (List.length_filter_le _ _) hl)
  simp only [← hR] at HR ⊢
  obtain ⟨l, hl'⟩ : ∃ l, l = s.l := ⟨_, rfl⟩
  simp only [← hl'] at HG ⊢
  obtain ⟨W2, hW2⟩ : ∃ W2, W2 = w.alloc (.cells #[.int .u8 8, .int .u64 a, .int .u64 b, .int .u64 c, .int .u64 d, .int .u64 e, .int .u64 f] 40) := ⟨_, rfl⟩
  have hn2 : Nw w W2 := by rw [hW2]; exact (by repeat (first | exact Xt.Nw.refl _ | refine Xt.Nw.drew ?_ | refine Xt.Nw.drewN ?_ _ | refine Xt.Nw.alloc ?_ _ | refine Xt.Nw.joined ?_ | refine Xt.Nw.drewd ?_ | refine Xt.Nw.drewdN ?_ | refine Xt.Nw.ext ?_ | refine Xt.Nw.ext_some ?_ (by assumption) | refine Xt.Nw.setCell ?_ (by simp [go_sem] <;> omega) _))
  have q0 : W2.cell? ⟨w.heap.size, 0, none⟩ = some (.int .u8 8) := by rw [hW2]; simp [go_sem]
  have q1 : W2.cell? ⟨w.heap.size, 1, none⟩ = some (.int .u64 a) := by rw [hW2]; simp [go_sem]
  have q2 : W2.cell? ⟨w.heap.size, 2, none⟩ = some (.int .u64 b) := by rw [hW2]; simp [go_sem]
  have q3 : W2.cell? ⟨w.heap.size, 3, none⟩ = some (.int .u64 c) := by rw [hW2]; simp [go_sem]
  have q4 : W2.cell? ⟨w.heap.size, 4, none⟩ = some (.int .u64 d) := by rw [hW2]; simp [go_sem]
  have q5 : W2.cell? ⟨w.heap.size, 5, none⟩ = some (.int .u64 e) := by rw [hW2]; simp [go_sem]
  have q6 : W2.cell? ⟨w.heap.size, 6, none⟩ = some (.int .u64 f) := by rw [hW2]; simp [go_sem]
  replace m1 := cell_nw m1 hn2
  have HN2 := Lib.hid hn2
  have HW2 := Lib.hid hW2
  have HA := Lib.hid (⟨ha, he, hbe⟩ : 0 ≤ a ∧ 0 ≤ e ∧ b + e ≤ 18446744073709551615)
  clear h hl hab ha he hbe hR hl' hn2 hW2
  go_enter Tryz.func53, Tryz.ntmps53
  go_upto_region 1 with (fail)
  rw [← HW2.out]
  go_region_held3 (fun w' => w'.cell? ⟨gm, 1, none⟩ = some (.pointer (some ⟨gp, 0, none⟩)) ∧ w'.cell? ⟨w.heap.size, 0, none⟩ = some (.int .u8 8) ∧ w'.cell? ⟨w.heap.size, 1, none⟩ = some (.int .u64 a) ∧ w'.cell? ⟨w.heap.size, 2, none⟩ = some (.int .u64 b) ∧ w'.cell? ⟨w.heap.size, 3, none⟩ = some (.int .u64 c) ∧ w'.cell? ⟨w.heap.size, 4, none⟩ = some (.int .u64 d) ∧ w'.cell? ⟨w.heap.size, 5, none⟩ = some (.int .u64 e) ∧ w'.cell? ⟨w.heap.size, 6, none⟩ = some (.int .u64 f)) (first | exact ⟨m1, q0, q1, q2, q3, q4, q5, q6⟩ | exact ⟨cell_nw m1 hnk, cell_nw q0 hnk, cell_nw q1 hnk, cell_nw q2 hnk, cell_nw q3 hnk, cell_nw q4 hnk, cell_nw q5 hnk, cell_nw q6 hnk⟩ | exact ⟨cell_nw m1 hnr, cell_nw q0 hnr, cell_nw q1 hnr, cell_nw q2 hnr, cell_nw q3 hnr, cell_nw q4 hnr, cell_nw q5 hnr, cell_nw q6 hnr⟩)
    ((first | (go_at_call 86; refine (keys_agg _ _ _ _ _ _ _ _).mono ?_; rintro r Wk ⟨rfl, hnk0⟩; have hnk : Nw W2 Wk := (Nw.drew (Nw.refl W2)).trans hnk0) | (go_at_call 85; refine (HR.out _ (HN2.out.trans hnk)).mono ?_; rintro r Wr ⟨vR, rfl, hown, hnr0⟩; have hnr : Nw W2 Wr := hnk.trans hnr0)))
  obtain ⟨m, hm⟩ : ∃ m, m = R.length := ⟨_, rfl⟩
  obtain ⟨AA, cA, hvA⟩ : ∃ A c, vR = .slice A m c := by
    rcases own_forms hown with ⟨rfl, h0⟩ | ⟨g, c, rfl, _⟩
    · rw [hm, h0]; exact ⟨_, _, rfl⟩
    · rw [hm]; exact ⟨_, _, rfl⟩
  subst hvA
  rw [← hm] at hown
  have HM := Lib.hid hm
  have HO := Lib.hid hown
  have HNR := Lib.hid (HN2.out.trans hnr)
  replace m1 := cell_nw m1 hnr
  replace q5 := cell_nw q5 hnr
  clear hown hnk hnk0 hnr hnr0 hm q0 q1 q2 q3 q4 q6
  go_wp2_with fail
  go_loopw [8, 9, 10, 23] (fun _ _ _ x wr => ∃ i : Nat, i ≤ m ∧ x = .int .i64 i ∧ Hid ((R.take i).any (fun p => !hasK (p.1 + e) l) = false) ∧ Nw Wr wr) (fun _ _ _ x _ => m - (intOf x).toNat)
  case atStart => exact ⟨0, Nat.zero_le _, rfl, Lib.hid rfl, Nw.refl _⟩
  case round =>
    obtain ⟨i, hi, rfl, HB, hnx⟩ := hrel
    have c1 := cell_nw m1 hnx
    have c5 := cell_nw q5 hnx
    haveI : In gm wr := ⟨World.block_lt_of_cell? wr _ c1⟩
    haveI : In w.heap.size wr := ⟨World.block_lt_of_cell? wr _ c5⟩
    by_cases him : i < m
    · obtain ⟨⟨pk, px⟩, hp⟩ : ∃ p, R[i]? = some p := ⟨_, List.getElem?_eq_getElem (by have := HM.out; omega)⟩
      obtain ⟨y0, y1⟩ := pcells_get R i _ hp
      have hrow := own_nw HO.out hnx
      rcases own_forms hrow with ⟨hA, h0⟩ | ⟨gC, cC', hA, _, hin, _, _⟩
      · omega
      injection hA with a1 a2 a3
      subst a1 a3
      have e0 : wr.cell? ⟨gC, i * 2, none⟩ = some (.int .u64 pk) := (hrow.cellAt _ (by omega)).trans y0
      have e1 : wr.cell? ⟨gC, i * 2 + 1, none⟩ = some (.int .u64 px) := (hrow.cellAt _ (by omega)).trans y1
      haveI : In gC wr := ⟨World.block_lt_of_cell? wr _ e0⟩
      have i1 : (i : Int) < (m : Int) := by omega
      have i0 : (0 : Int) ≤ (i : Int) := by omega
      have i3 : i < 1000000 := by have := HLEN.out; have := HM.out; omega
      have hpk := HIN.out _ (List.mem_of_getElem? hp)
      have qk : IntKind.u64.wrap (pk + e) = pk + e := by
        have := HA.out
        simp at hpk
        rw [IntKind.wrap_u64]; omega
      have HP := Lib.hid (any_take (p := fun p : Int × Int => !hasK (p.1 + e) l) hp)
      have HIM := Lib.hid him
      have HNX := Lib.hid hnx
      clear y0 y1 hrow hin hpk him hnx
      have HGK := Lib.hid (fun W (hw : Nw wr W) => HG.out W ((HNR.out.trans HNX.out).trans hw) (pk + e))
      obtain ⟨bb, hbb⟩ : ∃ bb, bb = hasK (pk + e) l := ⟨_, rfl⟩
      obtain ⟨yv, hyv⟩ : ∃ yv, yv = valL (pk + e) l := ⟨_, rfl⟩
      simp only [← hbb, ← hyv] at HGK HP
      have HMEM := Lib.hid (List.mem_of_getElem? hp)
      have HBB := Lib.hid hbb
      clear hbb hyv hp
      cases bb with
      | true =>
        go_upto_region 5 with (fail)
        (refine wp_region_nw (by kernel_rfl) (by kernel_rfl) ?_; (repeat (go_big_quiet_step ((go_at_call 52; exact quiet_of (HGK.out _ ((by repeat (first | exact Xt.Nw.refl _ | refine Xt.Nw.drew ?_ | refine Xt.Nw.drewN ?_ _ | refine Xt.Nw.alloc ?_ _ | refine Xt.Nw.joined ?_ | refine Xt.Nw.drewd ?_ | refine Xt.Nw.drewdN ?_ | refine Xt.Nw.ext ?_ | refine Xt.Nw.ext_some ?_ (by assumption) | refine Xt.Nw.setCell ?_ (by simp [go_sem] <;> omega) _)))))))); refine wpQuiet_nil ?_; intro _ hreg; obtain ⟨dW, rfl⟩ : Nw _ _ := hreg)
        go_wp2
        exact ⟨⟨i + 1, by have := HIM.out; omega, by go_num, Lib.hid (by rw [HP.out, HB.out]; rfl), HNX.out.trans ((by repeat (first | exact Xt.Nw.refl _ | refine Xt.Nw.drew ?_ | refine Xt.Nw.drewN ?_ _ | refine Xt.Nw.alloc ?_ _ | refine Xt.Nw.joined ?_ | refine Xt.Nw.drewd ?_ | refine Xt.Nw.drewdN ?_ | refine Xt.Nw.ext ?_ | refine Xt.Nw.ext_some ?_ (by assumption) | refine Xt.Nw.setCell ?_ (by simp [go_sem] <;> omega) _)))⟩, by have := HIM.out; simp [intOf]; omega⟩
      | false =>
        have HT := Lib.hid (show (R.any fun p => !hasK (p.1 + e) l) = true from List.any_eq_true.2 ⟨(pk, px), HMEM.out, by rw [← HBB.out]; rfl⟩)
        go_upto_region 5 with (fail)
        (refine wp_region_nw (by kernel_rfl) (by kernel_rfl) ?_; (repeat (go_big_quiet_step ((go_at_call 52; exact quiet_of (HGK.out _ ((by repeat (first | exact Xt.Nw.refl _ | refine Xt.Nw.drew ?_ | refine Xt.Nw.drewN ?_ _ | refine Xt.Nw.alloc ?_ _ | refine Xt.Nw.joined ?_ | refine Xt.Nw.drewd ?_ | refine Xt.Nw.drewdN ?_ | refine Xt.Nw.ext ?_ | refine Xt.Nw.ext_some ?_ (by assumption) | refine Xt.Nw.setCell ?_ (by simp [go_sem] <;> omega) _)))))))); refine wpQuiet_nil ?_; intro _ hreg; obtain ⟨dW, rfl⟩ : Nw _ _ := hreg)
        go_wp2
        go_ret
        exact ⟨by rw [HT.out]; rfl, (HNR.out.trans HNX.out).trans ((by repeat (first | exact Xt.Nw.refl _ | refine Xt.Nw.drew ?_ | refine Xt.Nw.drewN ?_ _ | refine Xt.Nw.alloc ?_ _ | refine Xt.Nw.joined ?_ | refine Xt.Nw.drewd ?_ | refine Xt.Nw.drewdN ?_ | refine Xt.Nw.ext ?_ | refine Xt.Nw.ext_some ?_ (by assumption) | refine Xt.Nw.setCell ?_ (by simp [go_sem] <;> omega) _)))⟩
    · obtain rfl : i = m := by omega
      have HF := Lib.hid (show (R.any fun p => !hasK (p.1 + e) l) = false by rw [← HB.out, HM.out, List.take_length])
      have HNX := Lib.hid hnx
      clear hnx
      go_wp2
      go_ret
      exact ⟨by rw [HF.out]; rfl, HNR.out.trans HNX.out⟩
end Go.Proofs.YtahagplegmcaaaaGreat
