import Derived.Test.YtkikdpdainmlcaaGreatGQj
set_option linter.unusedVariables false
set_option linter.unusedSimpArgs false
set_option linter.unnecessarySimpa false
namespace Go.Proofs.YtkikdpdainmlcaaGreat
open Go.RowKit Go.Xt
/-! A scan, plain. -/
abbrev oEnd : Ox := ⟨14, 0, 0, 0, 0, 0, 0⟩
abbrev oOpen : Ox := ⟨1, 0, 0, 0, 0, 0, 0⟩
abbrev oNext : Ox := ⟨12, 0, 0, 0, 0, 0, 0⟩
abbrev oScan (lo hi : Int) : Ox := ⟨11, lo, hi, 0, 0, 0, 0⟩
abbrev oSeek (k : Int) : Ox := ⟨13, k, 0, 0, 0, 0, 0⟩
abbrev r0 : Rs := ⟨0, false, 0, 0, 0⟩
abbrev rEnd : Rs := ⟨14, false, 0, 0, 0⟩
def Shut (s : Md) : Prop := ∃ x, s.th[0]? = some x ∧ x.op = false
def itAt (L hi : Int) : Th := if L ≤ hi then ⟨true, true, L, hi, true⟩ else ⟨true, false, 0, 0, true⟩
structure Sc (l : List (Int × Int)) (L0 hi : Int) (i : Nat) (L : Int) : Prop where
  ge : L0 ≤ L
  done : ∀ (j : Nat) (p : Int × Int), l[j]? = some p → j < i → ¬ (L ≤ p.1 ∧ p.1 ≤ hi)
  todo : ∀ (j : Nat) (p : Int × Int), l[j]? = some p → i ≤ j → L0 ≤ p.1 → p.1 ≤ hi → L ≤ p.1
theorem Sc.start (l : List (Int × Int)) (L0 hi : Int) : Sc l L0 hi 0 L0 := ⟨Int.le_refl _, fun j p _ h => by omega, fun j p _ _ h _ => h⟩
theorem Sc.skip {l : List (Int × Int)} {L0 hi L : Int} {i : Nat} (h : Sc l L0 hi i L) {p : Int × Int} (hp : l[i]? = some p) (hn : ¬ (L0 ≤ p.1 ∧ p.1 ≤ hi)) : Sc l L0 hi (i + 1) L :=
  ⟨h.ge, fun j q hq hj hc => by
    rcases (by omega : j < i ∨ j = i) with h1 | rfl
    · exact h.done j q hq h1 hc
    · rw [hp] at hq; cases hq
      exact hn ⟨by have := h.ge; omega, hc.2⟩, fun j q hq hj h1 h2 => h.todo j q hq (by omega) h1 h2⟩
theorem asc_lt {l : List (Int × Int)} (ha : asc l) {i j : Nat} {p q : Int × Int} (hp : l[i]? = some p) (hq : l[j]? = some q) (hij : i < j) : p.1 < q.1 := by
  obtain ⟨h1, rfl⟩ := List.getElem?_eq_some_iff.1 hp
  obtain ⟨h2, rfl⟩ := List.getElem?_eq_some_iff.1 hq
  exact List.pairwise_iff_getElem.1 ha i j h1 h2 hij
theorem Sc.take {l : List (Int × Int)} {L0 hi L : Int} {i : Nat} (ha : asc l) (h : Sc l L0 hi i L) {p : Int × Int} (hp : l[i]? = some p) (h0 : L0 ≤ p.1) : Sc l L0 hi (i + 1) (p.1 + 1) :=
  ⟨by omega, fun j q hq hj hc => by
    rcases (by omega : j < i ∨ j = i) with h1 | rfl
    · have := asc_lt ha hq hp h1; omega
    · rw [hp] at hq; cases hq; omega, fun j q hq hj h1 h2 => by have := asc_lt ha hp hq (by omega); omega⟩
abbrev itF : Th := ⟨true, false, 0, 0, true⟩
end Go.Proofs.YtkikdpdainmlcaaGreat
namespace Go.Proofs.YtkikdpdainmlcaaGreat
open Go.RowKit Go.Xt
/-! A model of the law's own: known. -/
def LS (w : World) (gm : Nat) (s : Md) (N : Nat) (W : World) : Prop := ∃ p : Pl, p.gm = gm ∧ MAt W p s ∧ s.Ok N ∧ (∀ g ∈ p.foot, w.heap.size ≤ g) ∧ Nw w W
theorem nw_chg2 {w W W' : World} {X : List Nat} (h : Nw w W) (hc : Chg X W W') (hx : ∀ k ∈ X, w.heap.size ≤ k) : Nw w W' :=
  .of ⟨hc.os.trans h.grown.os, hc.tape.trans h.grown.tape, hc.output.trans h.grown.output, Nat.le_trans h.grown.size hc.size, fun k hk _ => (hc.block k (Nat.lt_of_lt_of_le hk h.grown.size) (fun e => by have := hx k e; omega)).trans (h.grown.block k hk (by simp))⟩
theorem LS.nw {w W : World} {gm : Nat} {s : Md} {N : Nat} (h : LS w gm s N W) : Nw w W := by
  obtain ⟨p, _, _, _, _, h⟩ := h; exact h
theorem LS.ok {w W : World} {gm : Nat} {s : Md} {N : Nat} (h : LS w gm s N W) : s.Ok N := by
  obtain ⟨p, _, _, h, _, _⟩ := h; exact h
theorem LS.im {w W : World} {gm : Nat} {s : Md} {N : Nat} (h : LS w gm s N W) : gm < W.heap.size := by
  obtain ⟨p, rfl, h, _, _, _⟩ := h; exact h.im
theorem LS.grow {w W W' : World} {gm : Nat} {s : Md} {N : Nat} (h : LS w gm s N W) (hn : Nw W W') : LS w gm s N W' := by
  obtain ⟨p, rfl, h1, h2, h3, h4⟩ := h; exact ⟨p, rfl, h1.nw hn, h2, h3, h4.trans hn⟩
theorem LS.up {w W W' : World} {gm : Nat} {s' : Md} {N' : Nat} {p p' : Pl} (hp : p.gm = gm) (h3 : ∀ g ∈ p.foot, w.heap.size ≤ g) (h4 : Nw w W) (hu : MUp W p s' p' W') (hok : s'.Ok N') : LS w gm s' N' W' :=
  ⟨p', hu.gm.trans hp, hu.at', hok, fun g hg => by
    rcases hu.mv g hg with h | h
    · exact h3 g h
    · exact Nat.le_trans h4.grown.size h, nw_chg2 h4 hu.chg h3⟩
abbrev kn0 : Md := ⟨1, [], [Th0]⟩
abbrev oPut4 : Ox := ⟨4, 4, 0, 2, 0, 0, 0⟩
abbrev oDel4 : Ox := ⟨6, 4, 0, 0, 0, 0, 0⟩
abbrev oLen : Ox := ⟨10, 0, 0, 0, 0, 0, 0⟩
end Go.Proofs.YtkikdpdainmlcaaGreat
namespace Go.Proofs.YtkikdpdainmlcaaGreat
open Go.RowKit Go.Xt
/-! The deeds of a law; played. -/
structure Dd where
  t : Int
  o : Ox
  j : Bool
  by_ : Int
  r : Rs
def dc (d : Dd) : List Value := [.int .i64 d.t, .int .u8 d.o.k, .int .u64 d.o.key, .int .u64 d.o.hi, .int .u64 d.o.val, .int .u64 d.o.old, .int .u64 d.o.by_, .int .u64 d.o.draw, .bool d.j, .int .u8 d.by_, .int .i64 d.r.err, .bool d.r.fd, .int .u64 d.r.key, .int .u64 d.r.val, .int .i64 d.r.cnt]
def dcells (l : List Dd) : List Value := l.flatMap dc
def idxI (t : Int) : Int := Int.tmod (Int.tmod t 3 + 3) 3
end Go.Proofs.YtkikdpdainmlcaaGreat
namespace Go.Proofs.YtkikdpdainmlcaaGreat
open Go.RowKit Go.Xt
/-! A model of the law's own beside a row of pairs. -/
def LSR (w : World) (gm : Nat) (s : Md) (N : Nat) (W : World) (v : Value) (l : List (Int × Int)) : Prop :=
  ∃ p : Pl, p.gm = gm ∧ MAt W p s ∧ s.Ok N ∧ (∀ g ∈ p.foot, w.heap.size ≤ g) ∧ Nw w W ∧ W.ownsRow 0 51 2 v l.length (pcells l) ∧ ∀ b, v.ownBlock = some b → b ∉ p.foot
theorem LSR.row {w W : World} {gm : Nat} {s : Md} {N : Nat} {v : Value} {l : List (Int × Int)} (h : LSR w gm s N W v l) : W.ownsRow 0 51 2 v l.length (pcells l) := by
  obtain ⟨p, h1, h2, h3, h4, h5, h6, _⟩ := h; exact h6
theorem LSR.grow {w W W' : World} {gm : Nat} {s : Md} {N : Nat} {v : Value} {l : List (Int × Int)} (h : LSR w gm s N W v l) (hn : Nw W W') : LSR w gm s N W' v l := by
  obtain ⟨p, h1, h2, h3, h4, h5, h6, h7⟩ := h
  exact ⟨p, h1, h2.nw hn, h3, h4, h5.trans hn, own_nw h6 hn, h7⟩
set_option maxRecDepth 20000 in
@[go_sem high] theorem eqSpan (a b c d : Int) (w : World) : (Op.equalIn 10000 66 (.agg #[.int .u64 a, .int .u64 b]) (.agg #[.int .u64 c, .int .u64 d])).run Tryz.prog w = .ok (decide (a = c) && decide (b = d)) w := by
  have hS : Tryz.prog.underlying 66 = some (.struct (Tryz.prog.fieldsOf 66)) := by kernel_rfl
  have hp : Tryz.prog.stoodInHeld 66 = false := by kernel_rfl
  rw [show (10000 : Nat) = 9999 + 1 from rfl, run_equalIn_agg w 9999 66 _ _ hS hp]
  simp only [Program.fieldsOf, Tryz.underlying66]
  go_simp
  simp only [ite_ok0, ite_ok]
  simp only [Bool.decide_and]
end Go.Proofs.YtkikdpdainmlcaaGreat
namespace Go.Proofs.YtkikdpdainmlcaaGreat
open Go.RowKit Go.Xt
/-! Range and Copy of a map; births, gives. -/
theorem rd_range {W : World} {gp g c : Nat} {l : List (Int × Int)} (h : OM W gp (.slice (some ⟨g, 0, none⟩) l.length c) l) {lo hi : Int} (hlh : lo ≤ hi) {A : Option Addr} (hA : A = some ⟨g, pos lo l * 2, none⟩ ∨ (inR lo hi l).length = 0) :
    Rd W 2 A (inR lo hi l).length (pcells (inR lo hi l)) := by
  refine ⟨pcells_len _, fun h0 => ?_⟩
  rcases hA with rfl | h1
  · have hle := pos_le_to hlh h.asc
    have hto := posTo_le hi l
    have hil := inR_len hlh h.asc
    have hsp := (split_range hlh h.asc).1
    obtain ⟨R, hR⟩ : ∃ R, R = inR lo hi l := ⟨_, rfl⟩
    rw [← hR] at hil hsp h0 ⊢
    obtain ⟨i, hi'⟩ : ∃ i, i = pos lo l := ⟨_, rfl⟩
    obtain ⟨j, hj'⟩ : ∃ j, j = posTo hi l := ⟨_, rfl⟩
    simp only [← hi', ← hj'] at hle hto hil hsp ⊢
    refine ⟨g, i * 2, rfl, h.rlt rfl, fun q u hu => ?_⟩
    have hq := (List.getElem?_eq_some_iff.1 hu).1
    rw [pcells_len] at hq
    rw [h.row.cellAt _ (by omega)]
    have e1 : pcells l = pcells (l.take i) ++ (pcells R ++ pcells (l.drop j)) := by
      rw [← hsp, ← pcells_app, ← pcells_app]
      congr 1
      have e2 : l.take i = (l.take j).take i := by rw [List.take_take, Nat.min_eq_left hle]
      rw [e2, ← List.append_assoc, List.take_append_drop, List.take_append_drop]
    rw [e1, List.getElem?_append_right (by rw [pcells_len, List.length_take]; omega), pcells_len, List.length_take, Nat.min_eq_left (by omega), show i * 2 + q - i * 2 = q by omega, List.getElem?_append_left (by rw [pcells_len]; omega)]
    exact hu
  · omega
set_option maxRecDepth 20000 in
set_option maxHeartbeats 4000000 in
theorem range_om {w : World} {gp : Nat} {v : Value} {l : List (Int × Int)} (h : OM w gp v l) (hn : l.length ≤ 1000000) (lo hi : Int) (hlh : lo ≤ hi) :
    Calls Tryz.prog 152 #[.pointer (some ⟨gp, 0, none⟩), spV lo hi] w fun e w' => ∃ v', e = .returned (.tuple #[v', .int .i64 0]) ∧ w'.ownsRow w.heap.size 51 2 v' (inR lo hi l).length (pcells (inR lo hi l)) ∧ Nw w w' := by
  haveI : In gp w := ⟨h.lt⟩
  have p0 := h.p0
  have HE := Lib.hid (fun W (hw : Nw w W) => ends_om (h.nw hw) hn lo hi hlh)
  have HIL := Lib.hid (inR_len hlh h.asc)
  have hle := pos_le_to hlh h.asc
  have hto := posTo_le hi l
  rcases h.form with ⟨rfl, rfl⟩ | ⟨g, c, rfl, hlc, -, hin⟩
  · have e1 : pos lo [] = 0 := rfl
    have e2 : posTo hi [] = 0 := rfl
    have e3 : inR lo hi [] = [] := rfl
    rw [e1, e2] at HE
    rw [e3]
    unfold spV at HE ⊢
    have HCN := Lib.hid (fun W => clone_any none 0 0 [] W ⟨rfl, fun h => by omega⟩ (by omega) (fun _ => ⟨rfl, rfl⟩))
    clear h hlh e1 e2 e3 HIL hle hto
    go_enter Tryz.func152, Tryz.ntmps152
    go_wp2_with fail
    refine (HE.out _ (nwa)).mono ?_
    rintro e w2 ⟨rfl, d2, rfl⟩
    go_wp2_with fail
    refine (HCN.out _).mono ?_
    rintro e w3 ⟨v', rfl, hown, hn3⟩
    have hn3 : Nw w w3 := Nw.trans (by exact nwa) hn3
    have HO := Lib.hid (show w3.ownsRow w.heap.size 51 2 v' 0 (pcells []) from own_le hown (Nw.grown (by exact nwa)).size)
    have HN := Lib.hid hn3
    clear hown hn3
    go_wp2
    refine bodyPost_ret (v := .tuple #[v', .int .i64 0]) ?_ rfl ⟨v', rfl, ?_⟩
    · simp [results, Tryz.results152, go_sem]
    · exact ⟨HO.out, HN.out⟩
  · haveI : In g w := hin
    have HRD := Lib.hid (fun W (hw : Nw w W) (A : Option Addr) (hA : A = some ⟨g, pos lo l * 2, none⟩ ∨ (inR lo hi l).length = 0) => rd_range (h.nw hw) hlh hA)
    obtain ⟨R, hR⟩ : ∃ R, R = inR lo hi l := ⟨_, rfl⟩
    simp only [← hR] at HIL HRD ⊢
    obtain ⟨i, hi'⟩ : ∃ i, i = pos lo l := ⟨_, rfl⟩
    obtain ⟨j, hj'⟩ : ∃ j, j = posTo hi l := ⟨_, rfl⟩
    simp only [← hi', ← hj'] at HE HIL hle hto HRD
    obtain ⟨n, hne⟩ : ∃ n, n = l.length := ⟨_, rfl⟩
    rw [← hne] at p0 hto hlc hn
    obtain ⟨m, hm⟩ : ∃ m, m = R.length := ⟨_, rfl⟩
    rw [← hm] at HIL HRD ⊢
    have b1 : (i : Int) ≤ (j : Int) := by omega
    have b4 : (j : Int) ≤ (c : Int) := by omega
    have b5 : i ≤ j := by omega
    have b6 : j ≤ c := by omega
    have HN1 := Lib.hid (show m ≤ 1000000 by have := HIL.out; omega)
    have HJC := Lib.hid (show j ≤ c ∧ i ≤ j by omega)
    unfold spV at HE ⊢
    clear h hlh hR hi' hj' hne hm hle hto hn hlc hin
    by_cases hci : c ≤ i
    · go_enter Tryz.func152, Tryz.ntmps152
      go_wp2_with fail
      refine (HE.out _ (nwa)).mono ?_
      rintro e w2 ⟨rfl, d2, rfl⟩
      go_wp2_with fail
      have HR2 := HRD.out _ (nwa : Nw w ((w.alloc (.cells #[.int .u64 lo, .int .u64 hi] 66)).ext none d2))
      rw [HIL.out] at HR2
      refine (clone_any _ (j - i) _ R _ (HR2 _ (by first | exact .inl rfl | exact .inr (by have := HJC.out; omega))) (by have := HN1.out; have := HIL.out; omega) (by intro h; cases h)).mono ?_
      rintro e w3 ⟨v', rfl, hown, hn3⟩
      have hn3 : Nw w w3 := Nw.trans (by exact nwa) hn3
      rw [← HIL.out] at hown
      have HO := Lib.hid (show w3.ownsRow w.heap.size 51 2 v' m (pcells R) from own_le hown (Nw.grown (by exact nwa)).size)
      have HN := Lib.hid hn3
      clear hown hn3 HR2
      go_wp2
      refine bodyPost_ret (v := .tuple #[v', .int .i64 0]) ?_ rfl ⟨v', rfl, HO.out, HN.out⟩
      simp [results, Tryz.results152, go_sem]
    · have hci2 : ¬ c = i := by omega
      go_enter Tryz.func152, Tryz.ntmps152
      go_wp2_with fail
      refine (HE.out _ (nwa)).mono ?_
      rintro e w2 ⟨rfl, d2, rfl⟩
      go_wp2_with fail
      have HR2 := HRD.out _ (nwa : Nw w ((w.alloc (.cells #[.int .u64 lo, .int .u64 hi] 66)).ext none d2))
      rw [HIL.out] at HR2
      refine (clone_any _ (j - i) _ R _ (HR2 _ (by first | exact .inl rfl | exact .inr (by have := HJC.out; omega))) (by have := HN1.out; have := HIL.out; omega) (by intro h; cases h)).mono ?_
      rintro e w3 ⟨v', rfl, hown, hn3⟩
      have hn3 : Nw w w3 := Nw.trans (by exact nwa) hn3
      rw [← HIL.out] at hown
      have HO := Lib.hid (show w3.ownsRow w.heap.size 51 2 v' m (pcells R) from own_le hown (Nw.grown (by exact nwa)).size)
      have HN := Lib.hid hn3
      clear hown hn3 HR2
      go_wp2
      refine bodyPost_ret (v := .tuple #[v', .int .i64 0]) ?_ rfl ⟨v', rfl, HO.out, HN.out⟩
      simp [results, Tryz.results152, go_sem]
set_option maxRecDepth 20000 in
set_option maxHeartbeats 4000000 in
theorem ocopy_M {w : World} {gp : Nat} {v : Value} {l : List (Int × Int)} (h : OM w gp v l) (hn : l.length ≤ 1000000) :
    Calls Tryz.prog 137 #[.pointer (some ⟨gp, 0, none⟩)] w fun e w' => ∃ gq, e = .returned (.pointer (some ⟨gq, 0, none⟩)) ∧ w.heap.size ≤ gq ∧ (∃ v', OM w' gq v' l ∧ ∀ b, v'.ownBlock = some b → w.heap.size ≤ b) ∧ Nw w w' := by
  have p0 := h.p0
  haveI : In gp w := ⟨h.lt⟩
  have HASC := Lib.hid h.asc
  have fin : ∀ (W : World) (v' : Value), W.ownsRow w.heap.size 51 2 v' l.length (pcells l) → Nw w W → w.heap.size ≤ W.heap.size ∧ (∃ v'', OM (W.alloc (.cells #[v'] 154)) W.heap.size v'' l ∧ ∀ b, v''.ownBlock = some b → w.heap.size ≤ b) ∧ Nw w (W.alloc (.cells #[v'] 154)) := fun W v' ho hw =>
    ⟨hw.grown.size, ⟨v', ⟨by simp [go_sem], own_le (own_nw ho ((Nw.refl W).alloc _)) (Nat.zero_le _), fun e => by have := (ho.lt _ e).2; omega, by simp [go_sem], HASC.out⟩, fun b hb => (ho.lt b hb).1⟩, hw.alloc _⟩
  have FIN := Lib.hid fin
  clear fin
  rcases h.form with ⟨rfl, rfl⟩ | ⟨g, c, rfl, -, -, hin⟩
  · clear h
    go_enter Tryz.func137, Tryz.ntmps137
    go_wp2_with fail
    refine (clone_any none 0 0 [] w ⟨rfl, fun h => by omega⟩ (by omega) (fun _ => ⟨rfl, rfl⟩)).mono ?_
    rintro e W2 ⟨v', rfl, hown, hn2⟩
    have HF := Lib.hid (FIN.out W2 v' hown hn2)
    obtain ⟨A, cC, hvC⟩ : ∃ A cC, v' = .slice A 0 cC := by
      rcases own_forms hown with ⟨rfl, _⟩ | ⟨g, c, rfl, _⟩
      · exact ⟨_, _, rfl⟩
      · exact ⟨_, _, rfl⟩
    subst hvC
    clear hown hn2
    go_wp2
    exact bodyPost_ret (results_tmp rfl _ _ _) rfl ⟨W2.heap.size, rfl, HF.out⟩
  · have HR := Lib.hid (⟨pcells_len l, fun hl => ⟨g, 0, rfl, hin.lt, fun j u hu => by
        have := (List.getElem?_eq_some_iff.1 hu).1
        rw [pcells_len] at this
        rw [Nat.zero_add, h.row.cellAt _ this]; exact hu⟩⟩ : Rd w 2 (some ⟨g, 0, none⟩) l.length (pcells l))
    clear h
    go_enter Tryz.func137, Tryz.ntmps137
    go_wp2_with fail
    refine (clone_any _ l.length c l w HR.out hn (fun h => by cases h)).mono ?_
    rintro e W2 ⟨v', rfl, hown, hn2⟩
    have HF := Lib.hid (FIN.out W2 v' hown hn2)
    obtain ⟨A, cC, hvC⟩ : ∃ A cC, v' = .slice A l.length cC := by
      rcases own_forms hown with ⟨rfl, h0⟩ | ⟨g, c, rfl, _⟩
      · rw [h0]; exact ⟨_, _, rfl⟩
      · exact ⟨_, _, rfl⟩
    subst hvC
    clear hown hn2
    go_wp2
    exact bodyPost_ret (results_tmp rfl _ _ _) rfl ⟨W2.heap.size, rfl, HF.out⟩
end Go.Proofs.YtkikdpdainmlcaaGreat
