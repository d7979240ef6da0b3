import Derived.Test.YtahagplegmcaaaaGreatGWa
set_option linter.unusedVariables false
set_option linter.unusedSimpArgs false
namespace Go.Proofs.YtahagplegmcaaaaGreat
open Go.RowKit Go.Xt
/-! The reference's plan: Check, Counts, between. -/
theorem cgInfo : (Tryz.prog.info? 138).map (fun i => (i.zero, i.size, i.bytes)) = some (some (.agg #[.int .u64 0, .bool false, .int .u64 0, .bool false, .int .u64 0]), 5, 40) := by kernel_rfl
theorem cgcells_len (l : List Cg) : (cgcells l).length = l.length * 5 := by
  induction l with
  | nil => rfl
  | cons x l ih => rw [cgcells, List.flatMap_cons, List.length_append, ← cgcells, ih, List.length_cons]; simp [cgc]; omega
theorem cgcells_cons (x : Cg) (l : List Cg) (k j : Nat) : (cgcells (x :: l))[(k + 1) * 5 + j]? = (cgcells l)[k * 5 + j]? := by
  rw [show (k + 1) * 5 + j = (k * 5 + j) + 5 by omega]; rfl
theorem cgcells_get : ∀ (l : List Cg) (k : Nat) (x : Cg), l[k]? = some x → (cgcells l)[k * 5]? = some (.int .u64 x.key) ∧ (cgcells l)[k * 5 + 1]? = some (.bool x.was) ∧ (cgcells l)[k * 5 + 2]? = some (.int .u64 x.old) ∧ (cgcells l)[k * 5 + 3]? = some (.bool x.is_) ∧ (cgcells l)[k * 5 + 4]? = some (.int .u64 x.new)
  | [], k, s, h => by simp at h
  | x :: b, 0, s, h => by simp at h; subst h; exact ⟨rfl, rfl, rfl, rfl, rfl⟩
  | x :: b, k + 1, s, h => by
    have h2 := cgcells_get b k s (by simpa using h)
    exact ⟨(cgcells_cons x b k 0).trans h2.1, (cgcells_cons x b k 1).trans h2.2.1, (cgcells_cons x b k 2).trans h2.2.2.1, (cgcells_cons x b k 3).trans h2.2.2.2.1, (cgcells_cons x b k 4).trans h2.2.2.2.2⟩
theorem cgcells_snoc (l : List Cg) (x : Cg) : cgcells (l ++ [x]) = cgcells l ++ [.int .u64 x.key, .bool x.was, .int .u64 x.old, .bool x.is_, .int .u64 x.new] := by simp [cgcells, cgc]
def CollG (W : World) (base : Nat) (v : Value) (o : List Cg) : Prop := W.ownsRow base 138 5 v o.length (cgcells o)
theorem CollG.nw {W W' : World} {base : Nat} {v : Value} {o : List Cg} (h : CollG W base v o) (hn : Nw W W') : CollG W' base v o := own_nw h hn
theorem CollG.snoc {W : World} {base : Nat} {v : Value} {o : List Cg} {x : Cg} (h : W.ownsRow base 138 5 v (o.length + 1) (cgcells o ++ [.int .u64 x.key, .bool x.was, .int .u64 x.old, .bool x.is_, .int .u64 x.new])) : CollG W base v (o ++ [x]) := by
  unfold CollG; rw [cgcells_snoc, List.length_append]; exact h
theorem CollG.rd {W : World} {base : Nat} {v : Value} {o : List Cg} (h : CollG W base v o) : ∃ A c, v = .slice A o.length c ∧ Rd W 5 A o.length (cgcells o) := by
  unfold CollG at h
  rcases own_forms h with ⟨rfl, h0⟩ | ⟨g, c, rfl, _, hin, _, _⟩
  · refine ⟨none, 0, by rw [h0], cgcells_len o, fun h1 => by omega⟩
  · refine ⟨some ⟨g, 0, none⟩, c, rfl, cgcells_len o, fun _ => ⟨g, 0, rfl, hin.lt, fun j u hu => ?_⟩⟩
    have hj := (List.getElem?_eq_some_iff.1 hu).1
    rw [cgcells_len] at hj
    rw [Nat.zero_add, h.cellAt j (by omega)]; exact hu
set_option maxRecDepth 20000 in
set_option maxHeartbeats 8000000 in
theorem rpcheck (w : World) (A : Option Addr) (n c : Nat) (l : List Cg) (h : Rd w 5 A n (cgcells l)) (hn : n ≤ 1000000) (hl : l.length = n) (hp : PlanOk l) :
    Calls Tryz.prog 101 #[.slice A n c] w fun e w' => e = .returned (.int .i64 0) ∧ Nw w w' := by
  have HR := Lib.hid h
  have HL := Lib.hid hl
  have HP := Lib.hid hp
  clear h hl hp
  go_enter Tryz.func101, Tryz.ntmps101
  go_wp2
  go_loopw [3] (fun i wr => ∃ k : Nat, k ≤ n ∧ i = .int .i64 k ∧ Nw w wr) (fun i _ => n - (intOf i).toNat)
  case atStart => exact ⟨0, Nat.zero_le _, rfl, Nw.refl _⟩
  case round =>
    obtain ⟨k, hk, rfl, d, rfl⟩ := hrel
    by_cases hlt : k < n
    · obtain ⟨g, o, rfl, hg, hc⟩ := HR.out.2 (by omega)
      obtain ⟨x, hx⟩ : ∃ x, l[k]? = some x := ⟨_, List.getElem?_eq_getElem (by have := HL.out; omega)⟩
      obtain ⟨g0, g1, g2, g3, g4⟩ := cgcells_get l k x hx
      have c0 : w.cell? ⟨g, o + k * 5, none⟩ = some (.int .u64 x.key) := hc _ _ g0
      have c1 : w.cell? ⟨g, o + k * 5 + 1, none⟩ = some (.bool x.was) := by have := hc _ _ g1; rwa [← Nat.add_assoc] at this
      have c2 : w.cell? ⟨g, o + k * 5 + 2, none⟩ = some (.int .u64 x.old) := by have := hc _ _ g2; rwa [← Nat.add_assoc] at this
      have c3 : w.cell? ⟨g, o + k * 5 + 3, none⟩ = some (.bool x.is_) := by have := hc _ _ g3; rwa [← Nat.add_assoc] at this
      have c4 : w.cell? ⟨g, o + k * 5 + 4, none⟩ = some (.int .u64 x.new) := by have := hc _ _ g4; rwa [← Nat.add_assoc] at this
      obtain ⟨o1, o2, o3⟩ := HP.out.2 x (List.mem_of_getElem? hx)
      haveI : In g w := ⟨hg⟩
      have k1 : (k : Int) < (n : Int) := by omega
      have k0 : (0 : Int) ≤ (k : Int) := by omega
      have k9 : k < 1000000 := by omega
      have HK := Lib.hid hlt
      rcases k with _ | j
      · clear hc g0 g1 g2 g3 g4 hx hlt hk
        obtain ⟨key, was, old, is_, new⟩ := x
        simp only [Nat.zero_mul, Nat.add_zero] at c0 c1 c2 c3 c4 o1 o2 o3
        have e1 : was = false → (old != 0) = false := fun h => by simp [o2 h]
        have e2 : is_ = false → (new != 0) = false := fun h => by simp [o3 h]
        rcases was with _ | _ <;> rcases is_ with _ | _
        · simp at o1
        · have e3 := e1 rfl
          clear e1 e2 o1 o2 o3
          go_wp2
          (refine wp_region_nw (by kernel_rfl) (by kernel_rfl) ?_; (repeat (go_big_quiet_step (fail))); refine wpQuiet_nil ?_; intro _ hreg; obtain ⟨dW, rfl⟩ : Nw _ _ := hreg)
          go_wp2
          exact ⟨⟨1, by have := HK.out; omega, rfl, (by repeat (first | exact Xt.Nw.refl _ | refine Xt.Nw.drew ?_ | refine Xt.Nw.drewN ?_ _ | refine Xt.Nw.alloc ?_ _ | refine Xt.Nw.joined ?_ | refine Xt.Nw.drewd ?_ | refine Xt.Nw.drewdN ?_ | refine Xt.Nw.ext ?_ | refine Xt.Nw.ext_some ?_ (by assumption) | refine Xt.Nw.setCell ?_ (by simp [go_sem] <;> omega) _))⟩, by have := HK.out; simp [intOf]; omega⟩
        · have e3 := e2 rfl
          clear e1 e2 o1 o2 o3
          go_wp2
          (refine wp_region_nw (by kernel_rfl) (by kernel_rfl) ?_; (repeat (go_big_quiet_step (fail))); refine wpQuiet_nil ?_; intro _ hreg; obtain ⟨dW, rfl⟩ : Nw _ _ := hreg)
          go_wp2
          exact ⟨⟨1, by have := HK.out; omega, rfl, (by repeat (first | exact Xt.Nw.refl _ | refine Xt.Nw.drew ?_ | refine Xt.Nw.drewN ?_ _ | refine Xt.Nw.alloc ?_ _ | refine Xt.Nw.joined ?_ | refine Xt.Nw.drewd ?_ | refine Xt.Nw.drewdN ?_ | refine Xt.Nw.ext ?_ | refine Xt.Nw.ext_some ?_ (by assumption) | refine Xt.Nw.setCell ?_ (by simp [go_sem] <;> omega) _))⟩, by have := HK.out; simp [intOf]; omega⟩
        · clear e1 e2 o1 o2 o3
          go_wp2
          (refine wp_region_nw (by kernel_rfl) (by kernel_rfl) ?_; (repeat (go_big_quiet_step (fail))); refine wpQuiet_nil ?_; intro _ hreg; obtain ⟨dW, rfl⟩ : Nw _ _ := hreg)
          go_wp2
          exact ⟨⟨1, by have := HK.out; omega, rfl, (by repeat (first | exact Xt.Nw.refl _ | refine Xt.Nw.drew ?_ | refine Xt.Nw.drewN ?_ _ | refine Xt.Nw.alloc ?_ _ | refine Xt.Nw.joined ?_ | refine Xt.Nw.drewd ?_ | refine Xt.Nw.drewdN ?_ | refine Xt.Nw.ext ?_ | refine Xt.Nw.ext_some ?_ (by assumption) | refine Xt.Nw.setCell ?_ (by simp [go_sem] <;> omega) _))⟩, by have := HK.out; simp [intOf]; omega⟩
      · obtain ⟨y, hy⟩ : ∃ y, l[j]? = some y := ⟨_, List.getElem?_eq_getElem (by have := HL.out; omega)⟩
        have c5 : w.cell? ⟨g, o + j * 5, none⟩ = some (.int .u64 y.key) := hc _ _ (cgcells_get l j y hy).1
        have hyx : y.key < x.key := by
          obtain ⟨h1, h2⟩ := List.getElem?_eq_some_iff.1 hy
          obtain ⟨h3, h4⟩ := List.getElem?_eq_some_iff.1 hx
          have := List.pairwise_iff_getElem.1 HP.out.1 j (j + 1) h1 h3 (by omega)
          rw [h2, h4] at this; exact this
        obtain ⟨z, hz⟩ : ∃ z, z = y.key := ⟨_, rfl⟩
        rw [← hz] at c5 hyx
        clear hc g0 g1 g2 g3 g4 hx hy hlt hk hz
        obtain ⟨key, was, old, is_, new⟩ := x
        simp only at c0 c1 c2 c3 c4 o1 o2 o3 hyx
        have e0 : decide (key ≤ z) = false := by simp; omega
        have e1 : was = false → (old != 0) = false := fun h => by simp [o2 h]
        have e2 : is_ = false → (new != 0) = false := fun h => by simp [o3 h]
        have j1 : (j : Int) + 1 < (n : Int) := by omega
        have j2 : (j : Int) < (n : Int) := by omega
        have j0 : (0 : Int) ≤ (j : Int) := by omega
        have jw : IntKind.i64.wrap ((j : Int) + 1 - 1) = (j : Int) := by rw [IntKind.wrap_i64]; omega
        have jp : (0 : Int) < (j : Int) + 1 := by omega
        clear k1 k0 hyx
        rcases was with _ | _ <;> rcases is_ with _ | _
        · simp at o1
        · have e3 := e1 rfl
          clear e1 e2 o1 o2 o3
          go_wp2
          (refine wp_region_nw (by kernel_rfl) (by kernel_rfl) ?_; (repeat (go_big_quiet_step (fail))); refine wpQuiet_nil ?_; intro _ hreg; obtain ⟨dW, rfl⟩ : Nw _ _ := hreg)
          go_wp2
          exact ⟨⟨j + 2, by have := HK.out; omega, by go_num, (by repeat (first | exact Xt.Nw.refl _ | refine Xt.Nw.drew ?_ | refine Xt.Nw.drewN ?_ _ | refine Xt.Nw.alloc ?_ _ | refine Xt.Nw.joined ?_ | refine Xt.Nw.drewd ?_ | refine Xt.Nw.drewdN ?_ | refine Xt.Nw.ext ?_ | refine Xt.Nw.ext_some ?_ (by assumption) | refine Xt.Nw.setCell ?_ (by simp [go_sem] <;> omega) _))⟩, by have := HK.out; simp [intOf]; omega⟩
        · have e3 := e2 rfl
          clear e1 e2 o1 o2 o3
          go_wp2
          (refine wp_region_nw (by kernel_rfl) (by kernel_rfl) ?_; (repeat (go_big_quiet_step (fail))); refine wpQuiet_nil ?_; intro _ hreg; obtain ⟨dW, rfl⟩ : Nw _ _ := hreg)
          go_wp2
          exact ⟨⟨j + 2, by have := HK.out; omega, by go_num, (by repeat (first | exact Xt.Nw.refl _ | refine Xt.Nw.drew ?_ | refine Xt.Nw.drewN ?_ _ | refine Xt.Nw.alloc ?_ _ | refine Xt.Nw.joined ?_ | refine Xt.Nw.drewd ?_ | refine Xt.Nw.drewdN ?_ | refine Xt.Nw.ext ?_ | refine Xt.Nw.ext_some ?_ (by assumption) | refine Xt.Nw.setCell ?_ (by simp [go_sem] <;> omega) _))⟩, by have := HK.out; simp [intOf]; omega⟩
        · clear e1 e2 o1 o2 o3
          go_wp2
          (refine wp_region_nw (by kernel_rfl) (by kernel_rfl) ?_; (repeat (go_big_quiet_step (fail))); refine wpQuiet_nil ?_; intro _ hreg; obtain ⟨dW, rfl⟩ : Nw _ _ := hreg)
          go_wp2
          exact ⟨⟨j + 2, by have := HK.out; omega, by go_num, (by repeat (first | exact Xt.Nw.refl _ | refine Xt.Nw.drew ?_ | refine Xt.Nw.drewN ?_ _ | refine Xt.Nw.alloc ?_ _ | refine Xt.Nw.joined ?_ | refine Xt.Nw.drewd ?_ | refine Xt.Nw.drewdN ?_ | refine Xt.Nw.ext ?_ | refine Xt.Nw.ext_some ?_ (by assumption) | refine Xt.Nw.setCell ?_ (by simp [go_sem] <;> omega) _))⟩, by have := HK.out; simp [intOf]; omega⟩
    · have k1 : ¬ (k : Int) < (n : Int) := by omega
      go_wp2
      go_ret
      exact ⟨rfl, (by repeat (first | exact Xt.Nw.refl _ | refine Xt.Nw.drew ?_ | refine Xt.Nw.drewN ?_ _ | refine Xt.Nw.alloc ?_ _ | refine Xt.Nw.joined ?_ | refine Xt.Nw.drewd ?_ | refine Xt.Nw.drewdN ?_ | refine Xt.Nw.ext ?_ | refine Xt.Nw.ext_some ?_ (by assumption) | refine Xt.Nw.setCell ?_ (by simp [go_sem] <;> omega) _))⟩
def CtP (w : World) (l : List Cg) (e : Ending) (w' : World) : Prop := ∃ G S : Int, e = .returned (.tuple #[.int .i64 (bornL l : Nat), .int .i64 G, .int .i64 S, .int .i64 0]) ∧ Nw w w'
theorem born_snoc (l : List Cg) (k : Nat) (x : Cg) (h : l[k]? = some x) : bornL (l.take (k + 1)) = bornL (l.take k) + if x.was then 0 else 1 := by
  unfold bornL
  rw [take_get h, List.filter_append, List.length_append]
  cases hw : x.was <;> simp [List.filter_cons, hw]
set_option maxRecDepth 20000 in
set_option maxHeartbeats 8000000 in
theorem rcounts (w : World) (A : Option Addr) (n c : Nat) (l : List Cg) (h : Rd w 5 A n (cgcells l)) (hn : n ≤ 1000000) (hl : l.length = n) (hp : PlanOk l) :
    Calls Tryz.prog 73 #[.slice A n c] w (CtP w l) := by
  have HR := Lib.hid h
  have HL := Lib.hid hl
  have HC := Lib.hid (fun W (hw : Nw w W) => rpcheck W A n c l (h.nw hw) hn hl hp)
  clear h hl hp
  go_enter Tryz.func73, Tryz.ntmps73
  go_wp2_with fail
  refine (HC.out w (Nw.refl _)).mono ?_
  rintro e w' ⟨rfl, dW, rfl⟩
  go_wp2
  go_loopw [7, 8, 9, 10] (fun b g s i wr => ∃ (k B G S : Nat), k ≤ n ∧ b = .int .i64 B ∧ g = .int .i64 G ∧ s = .int .i64 S ∧ i = .int .i64 k ∧ Hid (B = bornL (l.take k)) ∧ B ≤ k ∧ G ≤ k ∧ S ≤ k ∧ Nw w wr) (fun _ _ _ i _ => n - (intOf i).toNat)
  case atStart => exact ⟨0, 0, 0, 0, Nat.zero_le _, rfl, rfl, rfl, rfl, rfl, Nat.le_refl _, Nat.le_refl _, Nat.le_refl _, ⟨_, rfl⟩⟩
  case round =>
    obtain ⟨k, B, G, S, hk, rfl, rfl, rfl, rfl, hB, b1, b2, b3, d, rfl⟩ := hrel
    by_cases hlt : k < n
    · obtain ⟨g, o, rfl, hg, hc⟩ := HR.out.2 (by omega)
      obtain ⟨x, hx⟩ : ∃ x, l[k]? = some x := ⟨_, List.getElem?_eq_getElem (by have := HL.out; omega)⟩
      obtain ⟨g0, g1, g2, g3, g4⟩ := cgcells_get l k x hx
      have c1 : w.cell? ⟨g, o + k * 5 + 1, none⟩ = some (.bool x.was) := by have := hc _ _ g1; rwa [← Nat.add_assoc] at this
      have c3 : w.cell? ⟨g, o + k * 5 + 3, none⟩ = some (.bool x.is_) := by have := hc _ _ g3; rwa [← Nat.add_assoc] at this
      have HS := Lib.hid (born_snoc l k x hx)
      haveI : In g w := ⟨hg⟩
      have k1 : (k : Int) < (n : Int) := by omega
      have k0 : (0 : Int) ≤ (k : Int) := by omega
      have k9 : k < 1000000 := by omega
      have B9 : B < 1000000 := by omega
      have G9 : G < 1000000 := by omega
      have S9 : S < 1000000 := by omega
      have HK := Lib.hid (And.intro hlt (And.intro b1 (And.intro b2 b3)))
      clear hc g0 g1 g2 g3 g4 hx hlt hk b1 b2 b3
      obtain ⟨key, was, old, is_, new⟩ := x
      simp only at c1 c3 HS
      rcases was with _ | _
      · go_wp2
        exact ⟨⟨k + 1, B + 1, G, S, by have := HK.out; omega, by go_num, rfl, rfl, by go_num, (by rw [HS.out, hB.out]; rfl : B + 1 = _), by have := HK.out; omega, by have := HK.out; omega, by have := HK.out; omega, (by repeat (first | exact Xt.Nw.refl _ | refine Xt.Nw.drew ?_ | refine Xt.Nw.drewN ?_ _ | refine Xt.Nw.alloc ?_ _ | refine Xt.Nw.joined ?_ | refine Xt.Nw.drewd ?_ | refine Xt.Nw.drewdN ?_ | refine Xt.Nw.ext ?_ | refine Xt.Nw.ext_some ?_ (by assumption) | refine Xt.Nw.setCell ?_ (by simp [go_sem] <;> omega) _))⟩, by have := HK.out; simp [intOf]; omega⟩
      · rcases is_ with _ | _
        · go_wp2
          exact ⟨⟨k + 1, B, G + 1, S, by have := HK.out; omega, rfl, by go_num, rfl, by go_num, (by rw [HS.out, hB.out]; rfl : B = _), by have := HK.out; omega, by have := HK.out; omega, by have := HK.out; omega, (by repeat (first | exact Xt.Nw.refl _ | refine Xt.Nw.drew ?_ | refine Xt.Nw.drewN ?_ _ | refine Xt.Nw.alloc ?_ _ | refine Xt.Nw.joined ?_ | refine Xt.Nw.drewd ?_ | refine Xt.Nw.drewdN ?_ | refine Xt.Nw.ext ?_ | refine Xt.Nw.ext_some ?_ (by assumption) | refine Xt.Nw.setCell ?_ (by simp [go_sem] <;> omega) _))⟩, by have := HK.out; simp [intOf]; omega⟩
        · go_wp2
          exact ⟨⟨k + 1, B, G, S + 1, by have := HK.out; omega, rfl, rfl, by go_num, by go_num, (by rw [HS.out, hB.out]; rfl : B = _), by have := HK.out; omega, by have := HK.out; omega, by have := HK.out; omega, (by repeat (first | exact Xt.Nw.refl _ | refine Xt.Nw.drew ?_ | refine Xt.Nw.drewN ?_ _ | refine Xt.Nw.alloc ?_ _ | refine Xt.Nw.joined ?_ | refine Xt.Nw.drewd ?_ | refine Xt.Nw.drewdN ?_ | refine Xt.Nw.ext ?_ | refine Xt.Nw.ext_some ?_ (by assumption) | refine Xt.Nw.setCell ?_ (by simp [go_sem] <;> omega) _))⟩, by have := HK.out; simp [intOf]; omega⟩
    · have k1 : ¬ (k : Int) < (n : Int) := by omega
      have hkn : k = n := by omega
      have hfin := hB.out
      rw [hkn, List.take_of_length_le (by have := HL.out; omega)] at hfin
      have HF := Lib.hid hfin
      clear hkn hfin
      go_wp2
      refine bodyPost_ret (v := .tuple #[.int .i64 B, .int .i64 G, .int .i64 S, .int .i64 0]) ?_ rfl ⟨G, S, by rw [HF.out], (by repeat (first | exact Xt.Nw.refl _ | refine Xt.Nw.drew ?_ | refine Xt.Nw.drewN ?_ _ | refine Xt.Nw.alloc ?_ _ | refine Xt.Nw.joined ?_ | refine Xt.Nw.drewd ?_ | refine Xt.Nw.drewdN ?_ | refine Xt.Nw.ext ?_ | refine Xt.Nw.ext_some ?_ (by assumption) | refine Xt.Nw.setCell ?_ (by simp [go_sem] <;> omega) _))⟩
      simp [results, Tryz.results73, go_sem]
def BtP (w : World) (l m : List (Int × Int)) (ks : List Int) (e : Ending) (w' : World) : Prop := ∃ v, e = .returned v ∧ CollG w' w.heap.size v (btL l m ks) ∧ Nw w w'
theorem bt_snoc {l m : List (Int × Int)} {ks : List Int} {i : Nat} {x : Int} (h : ks[i]? = some x) : btL l m (ks.take (i + 1)) = btL l m (ks.take i) ++ [⟨x, hasK x l, valL x l, hasK x m, valL x m⟩] := by
  unfold btL; rw [take_get h, List.map_append]; rfl
set_option maxRecDepth 20000 in
set_option maxHeartbeats 8000000 in
theorem rbetween (w : World) (va vb : Value) (A : Option Addr) (n c : Nat) (l m : List (Int × Int)) (ks : List Int) (ha : w.ownsRow 0 104 2 va l.length (pcells l)) (hb : w.ownsRow 0 104 2 vb m.length (pcells m)) (al : asc l) (am : asc m) (hk : Rd w 1 A n (kcells ks)) (hl : l.length ≤ 1000000) (hm : m.length ≤ 1000000) (hn : n ≤ 1000000) (hkl : ks.length = n) :
    Calls Tryz.prog 99 #[va, vb, .slice A n c] w (BtP w l m ks) := by
  obtain ⟨Aa, caa, rfl⟩ := own_slice ha
  obtain ⟨Ab, cbb, rfl⟩ := own_slice hb
  obtain ⟨nl, hnl⟩ : ∃ y, y = l.length := ⟨_, rfl⟩
  obtain ⟨nm, hnm⟩ : ∃ y, y = m.length := ⟨_, rfl⟩
  rw [← hnl] at ha
  rw [← hnm] at hb
  rw [← hnl, ← hnm]
  obtain ⟨W1, hW1⟩ : ∃ W1, W1 = (w.alloc (.cells #[.slice Aa nl caa] 60)).alloc (.cells #[.slice Ab nm cbb] 60) := ⟨_, rfl⟩
  have hN1 : Nw w W1 := by rw [hW1]; exact (by repeat (first | exact Xt.Nw.refl _ | refine Xt.Nw.drew ?_ | refine Xt.Nw.drewN ?_ _ | refine Xt.Nw.alloc ?_ _ | refine Xt.Nw.joined ?_ | refine Xt.Nw.drewd ?_ | refine Xt.Nw.drewdN ?_ | refine Xt.Nw.ext ?_ | refine Xt.Nw.ext_some ?_ (by assumption) | refine Xt.Nw.setCell ?_ (by simp [go_sem] <;> omega) _))
  have ma : OM W1 w.heap.size (.slice Aa nl caa) l := ⟨by rw [hW1]; simp [go_sem], by rw [← hnl]; exact own_nw ha hN1, fun e => by have := (ha.lt _ e).2; omega, by rw [hW1]; simp [go_sem], al⟩
  have mb : OM W1 (w.heap.size + 1) (.slice Ab nm cbb) m := ⟨by rw [hW1]; simp [go_sem], by rw [← hnm]; exact own_nw hb hN1, fun e => by have := (hb.lt _ e).2; omega, by rw [hW1]; simp [go_sem], am⟩
  have HG1 := Lib.hid (fun W (hw : Nw W1 W) k => rget_om (ma.nw hw) hl k)
  have HG2 := Lib.hid (fun W (hw : Nw W1 W) k => rget_om (mb.nw hw) hm k)
  have HK := Lib.hid (hk.nw hN1)
  have HKL := Lib.hid hkl
  have HN1 := Lib.hid hN1
  have HW1 := Lib.hid hW1
  haveI : In w.heap.size W1 := ⟨ma.lt⟩
  haveI : In (w.heap.size + 1) W1 := ⟨mb.lt⟩
  clear ha hb al am hk hl hm hkl hN1 hW1 ma mb hnl hnm
  go_enter Tryz.func99, Tryz.ntmps99
  go_upto_region 3 with (fail)
  rw [← HW1.out]
  go_wp2
  go_loopw [9, 10] (fun u i wr => ∃ k : Nat, k ≤ n ∧ i = .int .i64 k ∧ Nw W1 wr ∧ ∃ U, U = u ∧ Hid (CollG wr W1.heap.size U (btL l m (ks.take k)))) (fun _ i _ => n - (intOf i).toNat)
  case atStart => exact ⟨0, Nat.zero_le _, rfl, Nw.refl _, _, rfl, Lib.hid (World.ownsRow_nil _ _ _ _)⟩
  case round =>
    obtain ⟨k, hk, rfl, ⟨d, rfl⟩, u, hu, HC⟩ := hrel
    subst hu
    by_cases hlt : k < n
    · obtain ⟨g, o, rfl, hg, hc⟩ := HK.out.2 (by omega)
      obtain ⟨x, hx⟩ : ∃ x, ks[k]? = some x := ⟨_, List.getElem?_eq_getElem (by have := HKL.out; omega)⟩
      have c0 : W1.cell? ⟨g, o + k, none⟩ = some (.int .u64 x) := hc _ _ (kcells_get hx)
      have HS := Lib.hid (bt_snoc (l := l) (m := m) hx)
      haveI : In g W1 := ⟨hg⟩
      have k1 : (k : Int) < (n : Int) := by omega
      have k0 : (0 : Int) ≤ (k : Int) := by omega
      have k9 : k < 1000000 := by omega
      have HLT := Lib.hid hlt
      have hbl : (btL l m (ks.take k)).length ≤ 1000000 := by
        unfold btL; rw [List.length_map]; exact Nat.le_trans (List.length_take_le _ _) (by omega)
      have HBL := Lib.hid hbl
      obtain ⟨O, hO⟩ : ∃ O, O = btL l m (ks.take k) := ⟨_, rfl⟩
      rw [← hO] at HC HS hbl
      obtain ⟨b1, hb1⟩ : ∃ y, y = hasK x l := ⟨_, rfl⟩
      obtain ⟨b2, hb2⟩ : ∃ y, y = valL x l := ⟨_, rfl⟩
      obtain ⟨b3, hb3⟩ : ∃ y, y = hasK x m := ⟨_, rfl⟩
      obtain ⟨b4, hb4⟩ : ∃ y, y = valL x m := ⟨_, rfl⟩
      have HG1x := Lib.hid (fun W (hw : Nw W1 W) => HG1.out W hw x)
      have HG2x := Lib.hid (fun W (hw : Nw W1 W) => HG2.out W hw x)
      rw [← hb1, ← hb2] at HG1x HS
      rw [← hb3, ← hb4] at HG2x HS
      clear hc hx hlt hk hO hb1 hb2 hb3 hb4
      go_wp2_with fail
      refine (HG1x.out _ (by repeat (first | exact Xt.Nw.refl _ | refine Xt.Nw.drew ?_ | refine Xt.Nw.drewN ?_ _ | refine Xt.Nw.alloc ?_ _ | refine Xt.Nw.joined ?_ | refine Xt.Nw.drewd ?_ | refine Xt.Nw.drewdN ?_ | refine Xt.Nw.ext ?_ | refine Xt.Nw.ext_some ?_ (by assumption) | refine Xt.Nw.setCell ?_ (by simp [go_sem] <;> omega) _))).mono ?_
      rintro e w' ⟨rfl, dW, rfl⟩
      go_wp2_with fail
      refine (HG2x.out _ (by repeat (first | exact Xt.Nw.refl _ | refine Xt.Nw.drew ?_ | refine Xt.Nw.drewN ?_ _ | refine Xt.Nw.alloc ?_ _ | refine Xt.Nw.joined ?_ | refine Xt.Nw.drewd ?_ | refine Xt.Nw.drewdN ?_ | refine Xt.Nw.ext ?_ | refine Xt.Nw.ext_some ?_ (by assumption) | refine Xt.Nw.setCell ?_ (by simp [go_sem] <;> omega) _))).mono ?_
      rintro e w' ⟨rfl, dW2, rfl⟩
      have hown2 : CollG _ _ _ _ := HC.out
      unfold CollG at hown2
      go_wp2_with (at_builtin; refine wpList_app1 rfl _ _ 114 rfl 138 (.agg #[.int .u64 0, .bool false, .int .u64 0, .bool false, .int .u64 0]) 5 40 Tryz.underlying114 cgInfo rfl (by decide) (W1) _ (by repeat (first | exact Xt.Nw.refl _ | refine Xt.Nw.drew ?_ | refine Xt.Nw.drewN ?_ _ | refine Xt.Nw.alloc ?_ _ | refine Xt.Nw.joined ?_ | refine Xt.Nw.drewd ?_ | refine Xt.Nw.drewdN ?_ | refine Xt.Nw.ext ?_ | refine Xt.Nw.ext_some ?_ (by assumption) | refine Xt.Nw.setCell ?_ (by simp [go_sem] <;> omega) _)) _ _ _ rfl (by first | assumption | exact own_nw (by assumption) (by repeat (first | exact Xt.Nw.refl _ | refine Xt.Nw.drew ?_ | refine Xt.Nw.drewN ?_ _ | refine Xt.Nw.alloc ?_ _ | refine Xt.Nw.joined ?_ | refine Xt.Nw.drewd ?_ | refine Xt.Nw.drewdN ?_ | refine Xt.Nw.ext ?_ | refine Xt.Nw.ext_some ?_ (by assumption) | refine Xt.Nw.setCell ?_ (by simp [go_sem] <;> omega) _))) _ 1 1 _ _ rfl (by first | rfl | simp) rfl (by intro u hu; simp at hu; (repeat' rcases hu with rfl | hu) <;> first | rfl | (subst hu; rfl)) (by unfold maxLen; omega) (by omega) ?_; intro vA dA hownA)
      have hown3 := CollG.snoc (x := ⟨x, b1, b2, b3, b4⟩) hownA
      have HA3 := Lib.hid hown3
      clear hownA hown2 hown3
      go_wp2
      exact ⟨⟨k + 1, by have := HLT.out; omega, by go_num, (by repeat (first | exact Xt.Nw.refl _ | refine Xt.Nw.drew ?_ | refine Xt.Nw.drewN ?_ _ | refine Xt.Nw.alloc ?_ _ | refine Xt.Nw.joined ?_ | refine Xt.Nw.drewd ?_ | refine Xt.Nw.drewdN ?_ | refine Xt.Nw.ext ?_ | refine Xt.Nw.ext_some ?_ (by assumption) | refine Xt.Nw.setCell ?_ (by simp [go_sem] <;> omega) _)), _, rfl, Lib.hid (by rw [HS.out]; exact HA3.out)⟩, by have := HLT.out; simp [intOf]; omega⟩
    · have k1 : ¬ (k : Int) < (n : Int) := by omega
      have hkn : k = n := by omega
      have hfin := HC.out
      rw [hkn, List.take_of_length_le (by have := HKL.out; omega)] at hfin
      have HF := Lib.hid hfin
      clear hkn hfin
      go_wp2
      go_ret
      exact ⟨_, rfl, own_le HF.out HN1.out.grown.size, HN1.out.trans (⟨_, rfl⟩)⟩
end Go.Proofs.YtahagplegmcaaaaGreat
