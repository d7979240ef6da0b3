import Derived.Test.YtenhadpiddocbaaMi
namespace Go.Proofs.Ytenhadpiddocbaa
open Go.RowKit Go.Xt
/-! ModelSlots, the walk. -/
theorem boolInfo : (Try.prog.info? 4).map (fun i => (i.zero, i.size, i.bytes)) = some (some (.bool false), 1, 1) := by kernel_rfl
def gcells (g : List (Int × Bool)) : List Value := g.flatMap fun x => [.int .i64 x.1, .bool x.2]
theorem gcells_get : ∀ (g : List (Int × Bool)) (i : Nat) (x : Int × Bool), g[i]? = some x → (gcells g)[i * 2]? = some (.int .i64 x.1) ∧ (gcells g)[i * 2 + 1]? = some (.bool x.2)
  | [], i, x, h => by simp at h
  | y :: g, 0, x, h => by simp at h; subst h; exact ⟨rfl, rfl⟩
  | y :: g, i + 1, x, h => by
    have h2 := gcells_get g i x (by simpa using h)
    have e : ∀ j, (gcells (y :: g))[(i + 1) * 2 + j]? = (gcells g)[i * 2 + j]? := fun j => by
      rw [show (i + 1) * 2 + j = (i * 2 + j) + 2 by omega]; rfl
    exact ⟨(e 0).trans h2.1, (e 1).trans h2.2⟩
def HasRow (base : Nat) (W : World) (gh : Nat) (b : List Bool) : Prop := W.ownsRow base 4 1 (.slice (some ⟨gh, 0, none⟩) b.length b.length) b.length (b.map Value.bool)
theorem own_chg {base : Nat} {W W' : World} {e : TypeId} {size g n c : Nat} {xs : List Value} {X : List Nat} (h : W.ownsRow base e size (.slice (some ⟨g, 0, none⟩) n c) n xs) (hc : Chg X W W') (hx : g ∉ X) : W'.ownsRow base e size (.slice (some ⟨g, 0, none⟩) n c) n xs := by
  refine ⟨h.1, ?_⟩
  rcases h.2 with ⟨h1, h2⟩ | ⟨g', cap, cur, h1, h2, h3, h4⟩
  · exact .inl ⟨h1, h2⟩
  · have hg : g' = g := by injection h1 with h1; injection h1 with h1; injection h1 with h1; exact h1.symm
    refine .inr ⟨g', cap, cur, h1, h2, ?_, h4⟩
    rw [← h3]
    exact hc.block g' (Array.getElem?_eq_some_iff.1 h3).1 (by rw [hg]; exact hx)
theorem has_set {base : Nat} {W : World} {gh : Nat} {b : List Bool} (h : HasRow base W gh b) {k : Nat} (v : Bool) : HasRow base (W.setCell ⟨gh, k, none⟩ (.bool v)) gh (b.set k v) := by
  have h2 := (h.stored k (.bool v)).1
  unfold HasRow
  rw [List.length_set, List.map_set]; exact h2
theorem mdl_chg {base : Nat} {W W' : World} {gm gt gp : Nat} {s : Int} {b b' : List Bool} {L : Value} {X : List Nat} (h : Mdl base W gm gt gp s b L) (hc : Chg X W W') (ht : ThRow base W' gt b') (hl : b'.length = b.length) (h1 : gm ∉ X) (h2 : gp ∉ X) : Mdl base W' gm gt gp s b' L :=
  { h with im := Nat.lt_of_lt_of_le h.im hc.size, it := Nat.lt_of_lt_of_le h.it hc.size, ip := Nat.lt_of_lt_of_le h.ip hc.size, m0 := hc.cell h.m0 h1, m1 := hc.cell h.m1 h1, m2 := (hc.cell h.m2 h1).trans (by rw [hl]), p0 := hc.cell h.p0 h2, pz := (hc.frozen h.ip h2).trans h.pz, th := ht }
theorem cnt_set_true : ∀ (b : List Bool) (k : Nat), b[k]? = some false → cnt (b.set k true) = cnt b + 1
  | [], k, h => by simp at h
  | x :: b, 0, h => by simp at h; subst h; simp [cnt]
  | x :: b, k + 1, h => by
    have := cnt_set_true b k (by simpa using h)
    simp only [cnt, List.set_cons_succ, List.count_cons] at this ⊢; omega
theorem cnt_set_false : ∀ (b : List Bool) (k : Nat), b[k]? = some true → cnt (b.set k false) + 1 = cnt b
  | [], k, h => by simp at h
  | x :: b, 0, h => by simp at h; subst h; simp [cnt]
  | x :: b, k + 1, h => by
    have := cnt_set_false b k (by simpa using h)
    simp only [cnt, List.set_cons_succ, List.count_cons] at this ⊢; omega
theorem cnt_le (b : List Bool) : cnt b ≤ b.length := List.count_le_length
/-- The thread that a number names. -/
theorem idx_ex (x : Int) (N : Nat) (hN : 1 ≤ N ∧ N ≤ 8) : ∃ k : Nat, k < N ∧ Int.tmod (Int.tmod x N + N) N = (k : Int) ∧ -8 < Int.tmod x N ∧ Int.tmod x N < 8 := by
  have h1 : Int.tmod x N < N := Int.tmod_lt_of_pos x (by omega)
  have h2 : -(N : Int) < Int.tmod x N := by
    have := Int.lt_tmod_of_pos x (b := (N : Int)) (by omega); omega
  have h3 : 0 ≤ Int.tmod (Int.tmod x N + N) N := Int.tmod_nonneg _ (by omega)
  have h4 : Int.tmod (Int.tmod x N + N) N < N := Int.tmod_lt_of_pos _ (by omega)
  exact ⟨(Int.tmod (Int.tmod x N + N) N).toNat, by omega, by omega, by omega, by omega⟩
/-- The state at a round's head. -/
structure St (w : World) (N gm gt gp gh : Nat) (s : Int) (b : List Bool) (wr : World) : Prop where
  len : b.length = N
  mdl : Mdl w.heap.size wr gm gt gp s b (.slice none 0 0)
  has : HasRow w.heap.size wr gh b
  nw : Nw w wr
  ge : w.heap.size ≤ gh
  lt : gh < wr.heap.size
  nhm : gh ≠ gm
  nht : gh ≠ gt
  nhp : gh ≠ gp
  cs : (cnt b : Int) ≤ s
theorem St.nw2 {w : World} {N gm gt gp gh : Nat} {s : Int} {b : List Bool} {wr wx : World} (h : St w N gm gt gp gh s b wr) (hn : Nw wr wx) : St w N gm gt gp gh s b wx :=
  { h with mdl := h.mdl.nw hn, has := own_nw h.has hn, nw := h.nw.trans hn, lt := Nat.lt_of_lt_of_le h.lt hn.grown.size }
theorem Chg.mono {X Y : List Nat} {a b : World} (h : Chg X a b) (hs : ∀ k ∈ X, k ∈ Y) : Chg Y a b := ⟨h.os, h.tape, h.output, h.size, fun k hk hx => h.block k hk fun e => hx (hs k e)⟩
/-- A store into the row of marks, then a call that changes the threads alone. -/
theorem St.chg {w : World} {N gm gt gp gh : Nat} {s : Int} {b b' : List Bool} {wr wm wx : World} (h : St w N gm gt gp gh s b wr) (hm : Chg [gh] wr wm) (hb : HasRow w.heap.size wm gh b') (hl : b'.length = b.length) (hc : Chg [gt] wm wx) (ht : ThRow w.heap.size wx gt b') (hs : (cnt b' : Int) ≤ s) : St w N gm gt gp gh s b' wx := by
  have h2 : Chg [gh, gt] wr wx := (hm.mono (by simp)).trans (hc.mono (by simp))
  have a1 := h.nhm; have a2 := h.nht; have a3 := h.nhp; have a4 := h.mdl.nmt; have a5 := h.mdl.ntp; have a6 := h.mdl.bt; have a7 := h.ge
  exact { h with
    len := hl.trans h.len, mdl := mdl_chg h.mdl h2 ht hl (by simp; omega) (by simp; omega),
    has := own_chg hb hc (by simp; omega),
    nw := .of ⟨h2.os.trans h.nw.grown.os, h2.tape.trans h.nw.grown.tape, h2.output.trans h.nw.grown.output, Nat.le_trans h.nw.grown.size h2.size, fun k hk _ => (h2.block k (Nat.lt_of_lt_of_le hk h.nw.grown.size) (by simp; omega)).trans (h.nw.grown.block k hk (by simp))⟩,
    lt := Nat.lt_of_lt_of_le h.lt h2.size, cs := hs }
theorem do_1full (base : Nat) (w : World) (gm gt gp : Nat) (slots : Int) (b : List Bool) (L : Value) (h : Mdl base w gm gt gp slots b L) (hb : b.length ≤ 1000) (t : Nat) (ht : b[t]? = some false) (hs : slots ≤ (cnt b : Nat)) :
    Calls Try.prog 7 #[.pointer (some ⟨gm, 0, none⟩), .int .i64 t, op7 1 0 0 0 0 0 0] w fun e w' => e = .returned (res5 10 false 0 0 0) ∧ Chg [gt] w w' ∧ ThRow base w' gt b := by
  have hd := do_1ff base w gm gt gp slots b L h hb t ht
  rwa [opE, opB, if_pos hs, if_pos hs] at hd
theorem do_1ok (base : Nat) (w : World) (gm gt gp : Nat) (slots : Int) (b : List Bool) (L : Value) (h : Mdl base w gm gt gp slots b L) (hb : b.length ≤ 1000) (t : Nat) (ht : b[t]? = some false) (hs : ¬ slots ≤ (cnt b : Nat)) :
    Calls Try.prog 7 #[.pointer (some ⟨gm, 0, none⟩), .int .i64 t, op7 1 0 0 0 0 0 0] w fun e w' => e = .returned (res5 0 false 0 0 0) ∧ Chg [gt] w w' ∧ ThRow base w' gt (b.set t true) := by
  have hd := do_1ff base w gm gt gp slots b L h hb t ht
  rwa [opE, opB, if_neg hs, if_neg hs] at hd
theorem St.setHas {w : World} {N gm gt gp gh : Nat} {s : Int} {b : List Bool} {wr : World} (h : St w N gm gt gp gh s b wr) (k : Nat) (v : Bool) : Mdl w.heap.size (wr.setCell ⟨gh, k, none⟩ (.bool v)) gm gt gp s b (.slice none 0 0) :=
  mdl_chg h.mdl (Chg.set1 wr gh k (.bool v)) (th_chg h.mdl.th (Chg.set1 wr gh k (.bool v)) (by have := h.nht; simp; omega)) rfl (by have := h.nhm; simp; omega) (by have := h.nhp; simp; omega)
theorem St.hasAt {w : World} {N gm gt gp gh : Nat} {s : Int} {b : List Bool} {wr : World} (h : St w N gm gt gp gh s b wr) {k : Nat} {f : Bool} (hk : b[k]? = some f) : wr.cell? ⟨gh, k, none⟩ = some (.bool f) ∧ wr.frozen? ⟨gh, k, none⟩ = false := by
  obtain ⟨p, _⟩ := List.getElem?_eq_some_iff.1 hk
  exact ⟨((h.has).cellAt k (by omega)).trans (by rw [List.getElem?_map, hk]; rfl), (h.has).frozenAt k⟩
set_option maxRecDepth 20000 in
set_option maxHeartbeats 16000000 in
theorem slots_any (t s : Int) (A : Option Addr) (n c : Nat) (g : List (Int × Bool)) (w : World) (hr : Rd w 2 A n (gcells g))
    (HK : ∀ W, Calls Try.prog 4 #[] W fun e w' => e = .returned (.bool true) ∧ Nw W w') :
    Calls Try.prog 3 #[.int .i64 t, .int .i64 s, .slice A n c] w fun e w' => e = .returned (.bool true) ∧ Nw w w' := by
  have HR := Lib.hid hr
  have hgl : g.length = n := by
    have h := hr.1
    have h2 : ∀ g : List (Int × Bool), (gcells g).length = g.length * 2 := by
      intro g; induction g with
      | nil => rfl
      | cons x g ih => rw [gcells, List.flatMap_cons, List.length_append, ← gcells, ih, List.length_cons]; simp; omega
    rw [h2] at h; omega
  have HGL := Lib.hid hgl
  have HKN := Lib.hid HK
  clear hr hgl HK
  go_enter Try.func3, Try.ntmps3
  go_upto_region 1 with (fail)
  obtain ⟨bad, hbad⟩ : ∃ bad : Bool, bad = decide (t < 1 ∨ 8 < t ∨ s < 1 ∨ 8 < s ∨ 100 < (n : Int)) := ⟨_, rfl⟩
  go_cut [34] (fun v wx => v = .bool bad ∧ wx = w)
  case first =>
    by_cases h1 : t < 1
    · have hb : bad = true := by rw [hbad, decide_eq_true_eq]; omega
      have HB := Lib.hid hb
      clear hbad hb
      go_wp2
      go_meet
      exact ⟨by rw [HB.out], rfl⟩
    · by_cases h2 : 8 < t
      · have hb : bad = true := by rw [hbad, decide_eq_true_eq]; omega
        have HB := Lib.hid hb
        clear hbad hb
        go_wp2
        go_meet
        exact ⟨by rw [HB.out], rfl⟩
      · by_cases h3 : s < 1
        · have hb : bad = true := by rw [hbad, decide_eq_true_eq]; omega
          have HB := Lib.hid hb
          clear hbad hb
          go_wp2
          go_meet
          exact ⟨by rw [HB.out], rfl⟩
        · by_cases h4 : 8 < s
          · have hb : bad = true := by rw [hbad, decide_eq_true_eq]; omega
            have HB := Lib.hid hb
            clear hbad hb
            go_wp2
            go_meet
            exact ⟨by rw [HB.out], rfl⟩
          · have hb : bad = decide (100 < (n : Int)) := by
              rw [hbad]
              by_cases h5 : 100 < (n : Int)
              · simp [h5]
              · simp [h5]; omega
            have HB := Lib.hid hb
            clear hbad hb
            go_wp2
            go_meet
            exact ⟨by rw [HB.out], rfl⟩
  case rest =>
    obtain ⟨rfl, hwc⟩ := hcut
    subst hwc
    obtain ⟨w0, hw0⟩ : ∃ w0, w0 = wc := ⟨_, rfl⟩
    subst hw0
    cases bad with
    | true =>
      clear hbad
      go_wp2_with fail
      refine (HKN.out _).mono ?_
      rintro e w' ⟨rfl, dW, rfl⟩
      go_wp2
      go_ret
      exact ⟨rfl, (by repeat (first | exact Xt.Nw.refl _ | refine Xt.Nw.drew ?_ | refine Xt.Nw.drewN ?_ _ | refine Xt.Nw.alloc ?_ _ | refine Xt.Nw.joined ?_ | refine Xt.Nw.drewd ?_ | refine Xt.Nw.drewdN ?_ | refine Xt.Nw.ext ?_ | refine Xt.Nw.ext_some ?_ (by assumption) | refine Xt.Nw.setCell ?_ (by simp [go_sem] <;> omega) _))⟩
    | false =>
      have hb2 : ¬ (t < 1 ∨ 8 < t ∨ s < 1 ∨ 8 < s ∨ 100 < (n : Int)) := fun h => by rw [decide_eq_true (p := t < 1 ∨ 8 < t ∨ s < 1 ∨ 8 < s ∨ 100 < (n : Int)) h] at hbad; cases hbad
      obtain ⟨N, rfl⟩ : ∃ N : Nat, t = (N : Int) := ⟨t.toNat, by omega⟩
      have hN : 1 ≤ N ∧ N ≤ 8 := by omega
      have hs : 1 ≤ s ∧ s ≤ 64 := by omega
      have hn100 : n ≤ 100 := by omega
      have HNN := Lib.hid hN
      have HSS := Lib.hid hs
      clear hbad hb2
      go_wp2_with fail
      refine (fixed_any N s _).mono ?_
      rintro e w' ⟨rfl, dF, rfl⟩
      go_wp2_with fail
      refine (new_any N s _ hN hs).mono ?_
      rintro e W3 ⟨⟨gm, gt, gp, rfl, hm⟩, hn3⟩
      have hn3w : Nw w0 W3 := Nw.trans ⟨_, rfl⟩ hn3
      have hbase : w0.heap.size ≤ (w0.ext none dF).heap.size := le_size _ _ _
      obtain ⟨i, hi1, hz0, hz1, hz2⟩ := info_parts boolInfo
      obtain ⟨W4, hmk, hown, hgr⟩ := run_make_full W3 W3.heap.size 35 4 i (.bool false) 1 Try.underlying35 hi1 hz0 hz1 .i64 .i64 N (by rw [hz2]; omega) (by unfold maxLen; omega) (Nat.le_refl _)
      rw [show (madeCells (Value.bool false).cells (N * 1)).toList = List.replicate (N * 1) (.bool false) from toList_madeCells_one _ _, Nat.mul_one] at hown
      have hn4 : Nw W3 W4 := .of hgr
      have hgh : W3.heap.size < W4.heap.size := by
        rcases own_forms hown with ⟨_, h0⟩ | ⟨g, cap, hv, _, hin, _, _⟩
        · omega
        · injection hv with hv; injection hv with hv; injection hv with hv; rw [hv]; exact hin.lt
      have hst : St w0 N gm gt gp W3.heap.size s (List.replicate N false) W4 :=
        { len := List.length_replicate, mdl := (show Mdl w0.heap.size W3 gm gt gp s (List.replicate N false) (.slice none 0 0) from { hm with bm := Nat.le_trans hbase hm.bm, bt := Nat.le_trans hbase hm.bt, bp := Nat.le_trans hbase hm.bp, th := own_le hm.th hbase }).nw hn4,
          has := by unfold HasRow; rw [List.length_replicate, List.map_replicate]; exact own_le hown hn3w.grown.size,
          nw := hn3w.trans hn4, ge := hn3w.grown.size, lt := hgh, nhm := by have := hm.im; omega, nht := by have := hm.it; omega, nhp := by have := hm.ip; omega,
          cs := by
            have : cnt (List.replicate N false) = 0 := by simp [cnt, List.count_replicate]
            rw [this]; omega }
      obtain ⟨gh, hghd⟩ : ∃ gh, gh = W3.heap.size := ⟨_, rfl⟩
      rw [← hghd] at hst hmk
      have HST := Lib.hid hst
      clear hm hn3 hn3w hbase hi1 hz0 hz1 hz2 hown hgr hn4 hgh hst hghd hN hs
      go_wp2_with fail
      go_loopw [10, 11] (fun a v wr => ∃ (i : Nat) (b : List Bool), i ≤ n ∧ a = .int .i64 (cnt b : Nat) ∧ v = .int .i64 i ∧ Hid (St w0 N gm gt gp gh s b wr)) (fun _ v _ => n - (intOf v).toNat)
      case atStart => exact ⟨0, List.replicate N false, by omega, by have : cnt (List.replicate N false) = 0 := by simp [cnt, List.count_replicate]
                                                                     rw [this]; rfl, rfl, HST.out⟩
      case round =>
        obtain ⟨i, b, hi, rfl, rfl, hst⟩ := hrel
        have hN := HNN.out
        by_cases hlt : i < n
        · have i1 : (i : Int) < (n : Int) := by omega
          obtain ⟨gA, oA, rfl, hgA, hcA⟩ := (HR.out.nw hst.out.nw).2 (by omega)
          obtain ⟨x, hx⟩ : ∃ x, g[i]? = some x := ⟨_, List.getElem?_eq_getElem (by have := HGL.out; omega)⟩
          obtain ⟨xt, xo⟩ := x
          obtain ⟨y0, y1⟩ := gcells_get g i _ hx
          have x0 : wr.cell? ⟨gA, oA + i * 2, none⟩ = some (.int .i64 xt) := hcA _ _ y0
          have x1 : wr.cell? ⟨gA, oA + (i * 2 + 1), none⟩ = some (.bool xo) := hcA _ _ y1
          have x2 : wr.cell? ⟨gA, oA + i * 2 + 1, none⟩ = some (.bool xo) := by rw [Nat.add_assoc]; exact x1
          haveI : In gA wr := ⟨hgA⟩
          obtain ⟨k, hk, hkm, ht1, ht2⟩ := idx_ex xt N hN
          have w1 : IntKind.i64.wrap (Int.tmod xt N) = Int.tmod xt N := by rw [IntKind.wrap_i64]; omega
          have w2 : IntKind.i64.wrap (Int.tmod xt N + N) = Int.tmod xt N + N := by rw [IntKind.wrap_i64]; omega
          have w3 : IntKind.i64.wrap (k : Int) = k := by rw [IntKind.wrap_i64]; omega
          have n0 : ((N : Int) == 0) = false := by simp; omega
          have n1 : ¬ (N : Int) = 0 := by omega
          have n2 : ¬ N = 0 := by omega
          obtain ⟨sf, hsf⟩ : ∃ sf, b[k]? = some sf := ⟨_, List.getElem?_eq_getElem (by have := hst.out.len; omega)⟩
          obtain ⟨hh, hz⟩ := hst.out.hasAt hsf
          haveI : In gh wr := ⟨hst.out.lt⟩
          have k1 : (k : Int) < (N : Int) := by omega
          have k0 : (0 : Int) ≤ (k : Int) := by omega
          have HX := Lib.hid hx
          have HSF := Lib.hid hsf
          have HLT := Lib.hid hlt
          clear hcA y0 y1 x1 hx hsf hN hlt
          cases xo with
          | true =>
            cases sf with
            | true =>
              go_wp2_with fail
              refine (do_1tt w0.heap.size _ gm gt gp s b (.slice none 0 0) (hst.out.mdl.nw (by repeat (first | exact Xt.Nw.refl _ | refine Xt.Nw.drew ?_ | refine Xt.Nw.drewN ?_ _ | refine Xt.Nw.alloc ?_ _ | refine Xt.Nw.joined ?_ | refine Xt.Nw.drewd ?_ | refine Xt.Nw.drewdN ?_ | refine Xt.Nw.ext ?_ | refine Xt.Nw.ext_some ?_ (by assumption) | refine Xt.Nw.setCell ?_ (by simp [go_sem] <;> omega) _))) k HSF.out).mono ?_
              rintro e W5 ⟨rfl, hch, hth⟩
              have hS5 : St w0 N gm gt gp gh s b W5 := St.chg hst.out (Chg.of_nw (Nw.refl _)) hst.out.has rfl ((Chg.of_nw (by repeat (first | exact Xt.Nw.refl _ | refine Xt.Nw.drew ?_ | refine Xt.Nw.drewN ?_ _ | refine Xt.Nw.alloc ?_ _ | refine Xt.Nw.joined ?_ | refine Xt.Nw.drewd ?_ | refine Xt.Nw.drewdN ?_ | refine Xt.Nw.ext ?_ | refine Xt.Nw.ext_some ?_ (by assumption) | refine Xt.Nw.setCell ?_ (by simp [go_sem] <;> omega) _))).trans hch) hth hst.out.cs
              obtain ⟨b', hb'⟩ : ∃ b', b' = b := ⟨_, rfl⟩
              rw [← hb'] at hS5
              have HS5 := Lib.hid hS5
              have hcn := Lib.hid (show (((cnt b : Nat) : Int) : Int) = (cnt b' : Nat) by rw [hb'])
              clear hS5 hb'
              go_wp2_with fail
              go_loopw [15] (fun a wx => ∃ j : Nat, j ≤ N ∧ a = .int .i64 j ∧ Nw W5 wx) (fun a _ => N - (intOf a).toNat)
              case atStart => exact ⟨0, by omega, rfl, Nw.refl _⟩
              case round =>
                obtain ⟨j, hj, rfl, hx5⟩ := hrel
                have HS6 := Lib.hid (HS5.out.nw2 hx5)
                have HX5 := Lib.hid hx5
                clear hx5
                by_cases hjN : j < N
                · have j1 : (j : Int) < (N : Int) := by omega
                  have HJN := Lib.hid hjN
                  have j8 : j < 8 := by have := HNN.out; omega
                  have j0 : (0 : Int) ≤ (j : Int) := by omega
                  obtain ⟨f, hf⟩ : ∃ f, b'[j]? = some f := ⟨_, List.getElem?_eq_getElem (by have := HS6.out.len; omega)⟩
                  obtain ⟨hh6, -⟩ := HS6.out.hasAt hf
                  haveI : In gh wr := ⟨HS6.out.lt⟩
                  have HSE := Lib.hid (fun W (hw : Nw wr W) => session_any w0.heap.size W gm gt gp s b' (.slice none 0 0) (HS6.out.mdl.nw hw) j f hf)
                  clear hf
                  cases f with
                  | true =>
                    go_upto_region 31 with (fail)
                    (refine wp_region_nw (by kernel_rfl) (by kernel_rfl) ?_; (repeat (go_big_quiet_step ((go_at_call 8; exact quiet_of (HSE.out _ ((by repeat (first | exact Xt.Nw.refl _ | refine Xt.Nw.drew ?_ | refine Xt.Nw.drewN ?_ _ | refine Xt.Nw.alloc ?_ _ | refine Xt.Nw.joined ?_ | refine Xt.Nw.drewd ?_ | refine Xt.Nw.drewdN ?_ | refine Xt.Nw.ext ?_ | refine Xt.Nw.ext_some ?_ (by assumption) | refine Xt.Nw.setCell ?_ (by simp [go_sem] <;> omega) _)))))))); refine wpQuiet_nil ?_; intro _ hreg; obtain ⟨dW, rfl⟩ : Nw _ _ := hreg)
                    go_wp2
                    exact ⟨⟨j + 1, by have := HJN.out; omega, by go_num, Nw.ext HX5.out⟩, by have := HJN.out; simp [intOf]; omega⟩
                  | false =>
                    go_upto_region 31 with (fail)
                    (refine wp_region_nw (by kernel_rfl) (by kernel_rfl) ?_; (repeat (go_big_quiet_step ((go_at_call 8; exact quiet_of (HSE.out _ ((by repeat (first | exact Xt.Nw.refl _ | refine Xt.Nw.drew ?_ | refine Xt.Nw.drewN ?_ _ | refine Xt.Nw.alloc ?_ _ | refine Xt.Nw.joined ?_ | refine Xt.Nw.drewd ?_ | refine Xt.Nw.drewdN ?_ | refine Xt.Nw.ext ?_ | refine Xt.Nw.ext_some ?_ (by assumption) | refine Xt.Nw.setCell ?_ (by simp [go_sem] <;> omega) _)))))))); refine wpQuiet_nil ?_; intro _ hreg; obtain ⟨dW, rfl⟩ : Nw _ _ := hreg)
                    go_wp2
                    exact ⟨⟨j + 1, by have := HJN.out; omega, by go_num, Nw.ext HX5.out⟩, by have := HJN.out; simp [intOf]; omega⟩
                · have j1 : ¬ (j : Int) < (N : Int) := by omega
                  go_wp2
                  exact ⟨⟨i + 1, b', by have := HLT.out; omega, by rw [← hcn.out], by go_num, HS6.out⟩, by have := HLT.out; simp [intOf]; omega⟩
            | false =>
              by_cases hfull : s ≤ ((cnt b : Nat) : Int)
              · have ecs := hst.out.cs
                have e1 : (((cnt b : Nat) : Int) == s) = true := by simp; omega
                have HF := Lib.hid hfull
                clear hfull ecs
                go_wp2_with fail
                refine (do_1full w0.heap.size _ gm gt gp s b (.slice none 0 0) (hst.out.mdl.nw (by repeat (first | exact Xt.Nw.refl _ | refine Xt.Nw.drew ?_ | refine Xt.Nw.drewN ?_ _ | refine Xt.Nw.alloc ?_ _ | refine Xt.Nw.joined ?_ | refine Xt.Nw.drewd ?_ | refine Xt.Nw.drewdN ?_ | refine Xt.Nw.ext ?_ | refine Xt.Nw.ext_some ?_ (by assumption) | refine Xt.Nw.setCell ?_ (by simp [go_sem] <;> omega) _))) (by have h1 := hst.out.len; have h2 := HNN.out; omega) k HSF.out (by have := HF.out; omega)).mono ?_
                rintro e W5 ⟨rfl, hch, hth⟩
                have hS5 : St w0 N gm gt gp gh s b W5 := St.chg hst.out (Chg.of_nw (Nw.refl _)) hst.out.has rfl ((Chg.of_nw (by repeat (first | exact Xt.Nw.refl _ | refine Xt.Nw.drew ?_ | refine Xt.Nw.drewN ?_ _ | refine Xt.Nw.alloc ?_ _ | refine Xt.Nw.joined ?_ | refine Xt.Nw.drewd ?_ | refine Xt.Nw.drewdN ?_ | refine Xt.Nw.ext ?_ | refine Xt.Nw.ext_some ?_ (by assumption) | refine Xt.Nw.setCell ?_ (by simp [go_sem] <;> omega) _))).trans hch) hth hst.out.cs
                obtain ⟨b', hb'⟩ : ∃ b', b' = b := ⟨_, rfl⟩
                rw [← hb'] at hS5
                have HS5 := Lib.hid hS5
                have hcn := Lib.hid (show (((cnt b : Nat) : Int) : Int) = (cnt b' : Nat) by rw [hb'])
                clear hS5 hb'
                go_wp2_with fail
                go_loopw [15] (fun a wx => ∃ j : Nat, j ≤ N ∧ a = .int .i64 j ∧ Nw W5 wx) (fun a _ => N - (intOf a).toNat)
                case atStart => exact ⟨0, by omega, rfl, Nw.refl _⟩
                case round =>
                  obtain ⟨j, hj, rfl, hx5⟩ := hrel
                  have HS6 := Lib.hid (HS5.out.nw2 hx5)
                  have HX5 := Lib.hid hx5
                  clear hx5
                  by_cases hjN : j < N
                  · have j1 : (j : Int) < (N : Int) := by omega
                    have HJN := Lib.hid hjN
                    have j8 : j < 8 := by have := HNN.out; omega
                    have j0 : (0 : Int) ≤ (j : Int) := by omega
                    obtain ⟨f, hf⟩ : ∃ f, b'[j]? = some f := ⟨_, List.getElem?_eq_getElem (by have := HS6.out.len; omega)⟩
                    obtain ⟨hh6, -⟩ := HS6.out.hasAt hf
                    haveI : In gh wr := ⟨HS6.out.lt⟩
                    have HSE := Lib.hid (fun W (hw : Nw wr W) => session_any w0.heap.size W gm gt gp s b' (.slice none 0 0) (HS6.out.mdl.nw hw) j f hf)
                    clear hf
                    cases f with
                    | true =>
                      go_upto_region 31 with (fail)
                      (refine wp_region_nw (by kernel_rfl) (by kernel_rfl) ?_; (repeat (go_big_quiet_step ((go_at_call 8; exact quiet_of (HSE.out _ ((by repeat (first | exact Xt.Nw.refl _ | refine Xt.Nw.drew ?_ | refine Xt.Nw.drewN ?_ _ | refine Xt.Nw.alloc ?_ _ | refine Xt.Nw.joined ?_ | refine Xt.Nw.drewd ?_ | refine Xt.Nw.drewdN ?_ | refine Xt.Nw.ext ?_ | refine Xt.Nw.ext_some ?_ (by assumption) | refine Xt.Nw.setCell ?_ (by simp [go_sem] <;> omega) _)))))))); refine wpQuiet_nil ?_; intro _ hreg; obtain ⟨dW, rfl⟩ : Nw _ _ := hreg)
                      go_wp2
                      exact ⟨⟨j + 1, by have := HJN.out; omega, by go_num, Nw.ext HX5.out⟩, by have := HJN.out; simp [intOf]; omega⟩
                    | false =>
                      go_upto_region 31 with (fail)
                      (refine wp_region_nw (by kernel_rfl) (by kernel_rfl) ?_; (repeat (go_big_quiet_step ((go_at_call 8; exact quiet_of (HSE.out _ ((by repeat (first | exact Xt.Nw.refl _ | refine Xt.Nw.drew ?_ | refine Xt.Nw.drewN ?_ _ | refine Xt.Nw.alloc ?_ _ | refine Xt.Nw.joined ?_ | refine Xt.Nw.drewd ?_ | refine Xt.Nw.drewdN ?_ | refine Xt.Nw.ext ?_ | refine Xt.Nw.ext_some ?_ (by assumption) | refine Xt.Nw.setCell ?_ (by simp [go_sem] <;> omega) _)))))))); refine wpQuiet_nil ?_; intro _ hreg; obtain ⟨dW, rfl⟩ : Nw _ _ := hreg)
                      go_wp2
                      exact ⟨⟨j + 1, by have := HJN.out; omega, by go_num, Nw.ext HX5.out⟩, by have := HJN.out; simp [intOf]; omega⟩
                  · have j1 : ¬ (j : Int) < (N : Int) := by omega
                    go_wp2
                    exact ⟨⟨i + 1, b', by have := HLT.out; omega, by rw [← hcn.out], by go_num, HS6.out⟩, by have := HLT.out; simp [intOf]; omega⟩
              · have e1 : (((cnt b : Nat) : Int) == s) = false := by simp; omega
                have HCT := Lib.hid (cnt_set_true b k HSF.out)
                have HF := Lib.hid hfull
                have hcl : cnt b ≤ 8 := by have h1 := cnt_le b; have h2 := hst.out.len; have h3 := HNN.out; omega
                clear hfull
                go_wp2_with fail
                refine (do_1ok w0.heap.size _ gm gt gp s b (.slice none 0 0) ((hst.out.setHas k true).nw (by repeat (first | exact Xt.Nw.refl _ | refine Xt.Nw.drew ?_ | refine Xt.Nw.drewN ?_ _ | refine Xt.Nw.alloc ?_ _ | refine Xt.Nw.joined ?_ | refine Xt.Nw.drewd ?_ | refine Xt.Nw.drewdN ?_ | refine Xt.Nw.ext ?_ | refine Xt.Nw.ext_some ?_ (by assumption) | refine Xt.Nw.setCell ?_ (by simp [go_sem] <;> omega) _))) (by have h1 := hst.out.len; have h2 := HNN.out; omega) k HSF.out (by have := HF.out; omega)).mono ?_
                rintro e W5 ⟨rfl, hch, hth⟩
                have hS5 : St w0 N gm gt gp gh s (b.set k true) W5 := St.chg hst.out (Chg.set1 wr gh k (.bool true)) (has_set hst.out.has true) (by simp) ((Chg.of_nw (by repeat (first | exact Xt.Nw.refl _ | refine Xt.Nw.drew ?_ | refine Xt.Nw.drewN ?_ _ | refine Xt.Nw.alloc ?_ _ | refine Xt.Nw.joined ?_ | refine Xt.Nw.drewd ?_ | refine Xt.Nw.drewdN ?_ | refine Xt.Nw.ext ?_ | refine Xt.Nw.ext_some ?_ (by assumption) | refine Xt.Nw.setCell ?_ (by simp [go_sem] <;> omega) _))).trans hch) hth (by rw [HCT.out]; have := HF.out; omega)
                obtain ⟨b', hb'⟩ : ∃ b', b' = (b.set k true) := ⟨_, rfl⟩
                rw [← hb'] at hS5
                have HS5 := Lib.hid hS5
                have hcn := Lib.hid (show (((cnt b : Nat) : Int) + 1 : Int) = (cnt b' : Nat) by rw [hb', HCT.out]; rfl)
                clear hS5 hb'
                go_wp2_with fail
                go_loopw [15] (fun a wx => ∃ j : Nat, j ≤ N ∧ a = .int .i64 j ∧ Nw W5 wx) (fun a _ => N - (intOf a).toNat)
                case atStart => exact ⟨0, by omega, rfl, Nw.refl _⟩
                case round =>
                  obtain ⟨j, hj, rfl, hx5⟩ := hrel
                  have HS6 := Lib.hid (HS5.out.nw2 hx5)
                  have HX5 := Lib.hid hx5
                  clear hx5
                  by_cases hjN : j < N
                  · have j1 : (j : Int) < (N : Int) := by omega
                    have HJN := Lib.hid hjN
                    have j8 : j < 8 := by have := HNN.out; omega
                    have j0 : (0 : Int) ≤ (j : Int) := by omega
                    obtain ⟨f, hf⟩ : ∃ f, b'[j]? = some f := ⟨_, List.getElem?_eq_getElem (by have := HS6.out.len; omega)⟩
                    obtain ⟨hh6, -⟩ := HS6.out.hasAt hf
                    haveI : In gh wr := ⟨HS6.out.lt⟩
                    have HSE := Lib.hid (fun W (hw : Nw wr W) => session_any w0.heap.size W gm gt gp s b' (.slice none 0 0) (HS6.out.mdl.nw hw) j f hf)
                    clear hf
                    cases f with
                    | true =>
                      go_upto_region 31 with (fail)
                      (refine wp_region_nw (by kernel_rfl) (by kernel_rfl) ?_; (repeat (go_big_quiet_step ((go_at_call 8; exact quiet_of (HSE.out _ ((by repeat (first | exact Xt.Nw.refl _ | refine Xt.Nw.drew ?_ | refine Xt.Nw.drewN ?_ _ | refine Xt.Nw.alloc ?_ _ | refine Xt.Nw.joined ?_ | refine Xt.Nw.drewd ?_ | refine Xt.Nw.drewdN ?_ | refine Xt.Nw.ext ?_ | refine Xt.Nw.ext_some ?_ (by assumption) | refine Xt.Nw.setCell ?_ (by simp [go_sem] <;> omega) _)))))))); refine wpQuiet_nil ?_; intro _ hreg; obtain ⟨dW, rfl⟩ : Nw _ _ := hreg)
                      go_wp2
                      exact ⟨⟨j + 1, by have := HJN.out; omega, by go_num, Nw.ext HX5.out⟩, by have := HJN.out; simp [intOf]; omega⟩
                    | false =>
                      go_upto_region 31 with (fail)
                      (refine wp_region_nw (by kernel_rfl) (by kernel_rfl) ?_; (repeat (go_big_quiet_step ((go_at_call 8; exact quiet_of (HSE.out _ ((by repeat (first | exact Xt.Nw.refl _ | refine Xt.Nw.drew ?_ | refine Xt.Nw.drewN ?_ _ | refine Xt.Nw.alloc ?_ _ | refine Xt.Nw.joined ?_ | refine Xt.Nw.drewd ?_ | refine Xt.Nw.drewdN ?_ | refine Xt.Nw.ext ?_ | refine Xt.Nw.ext_some ?_ (by assumption) | refine Xt.Nw.setCell ?_ (by simp [go_sem] <;> omega) _)))))))); refine wpQuiet_nil ?_; intro _ hreg; obtain ⟨dW, rfl⟩ : Nw _ _ := hreg)
                      go_wp2
                      exact ⟨⟨j + 1, by have := HJN.out; omega, by go_num, Nw.ext HX5.out⟩, by have := HJN.out; simp [intOf]; omega⟩
                  · have j1 : ¬ (j : Int) < (N : Int) := by omega
                    go_wp2
                    exact ⟨⟨i + 1, b', by have := HLT.out; omega, by rw [← hcn.out], by go_num, HS6.out⟩, by have := HLT.out; simp [intOf]; omega⟩
          | false =>
            cases sf with
            | true =>
              have HCT := Lib.hid (cnt_set_false b k HSF.out)
              have hcl : cnt b ≤ 8 := by have h1 := cnt_le b; have h2 := hst.out.len; have h3 := HNN.out; omega
              go_wp2_with fail
              refine (do_2tt w0.heap.size _ gm gt gp s b (.slice none 0 0) ((hst.out.setHas k false).nw (by repeat (first | exact Xt.Nw.refl _ | refine Xt.Nw.drew ?_ | refine Xt.Nw.drewN ?_ _ | refine Xt.Nw.alloc ?_ _ | refine Xt.Nw.joined ?_ | refine Xt.Nw.drewd ?_ | refine Xt.Nw.drewdN ?_ | refine Xt.Nw.ext ?_ | refine Xt.Nw.ext_some ?_ (by assumption) | refine Xt.Nw.setCell ?_ (by simp [go_sem] <;> omega) _))) k HSF.out).mono ?_
              rintro e W5 ⟨rfl, hch, hth⟩
              have hS5 : St w0 N gm gt gp gh s (b.set k false) W5 := St.chg hst.out (Chg.set1 wr gh k (.bool false)) (has_set hst.out.has false) (by simp) ((Chg.of_nw (by repeat (first | exact Xt.Nw.refl _ | refine Xt.Nw.drew ?_ | refine Xt.Nw.drewN ?_ _ | refine Xt.Nw.alloc ?_ _ | refine Xt.Nw.joined ?_ | refine Xt.Nw.drewd ?_ | refine Xt.Nw.drewdN ?_ | refine Xt.Nw.ext ?_ | refine Xt.Nw.ext_some ?_ (by assumption) | refine Xt.Nw.setCell ?_ (by simp [go_sem] <;> omega) _))).trans hch) hth (by have := HCT.out; have := hst.out.cs; omega)
              obtain ⟨b', hb'⟩ : ∃ b', b' = (b.set k false) := ⟨_, rfl⟩
              rw [← hb'] at hS5
              have HS5 := Lib.hid hS5
              have hcn := Lib.hid (show (((cnt b : Nat) : Int) - 1 : Int) = (cnt b' : Nat) by rw [hb', ← HCT.out]; omega)
              clear hS5 hb'
              go_wp2_with fail
              go_loopw [15] (fun a wx => ∃ j : Nat, j ≤ N ∧ a = .int .i64 j ∧ Nw W5 wx) (fun a _ => N - (intOf a).toNat)
              case atStart => exact ⟨0, by omega, rfl, Nw.refl _⟩
              case round =>
                obtain ⟨j, hj, rfl, hx5⟩ := hrel
                have HS6 := Lib.hid (HS5.out.nw2 hx5)
                have HX5 := Lib.hid hx5
                clear hx5
                by_cases hjN : j < N
                · have j1 : (j : Int) < (N : Int) := by omega
                  have HJN := Lib.hid hjN
                  have j8 : j < 8 := by have := HNN.out; omega
                  have j0 : (0 : Int) ≤ (j : Int) := by omega
                  obtain ⟨f, hf⟩ : ∃ f, b'[j]? = some f := ⟨_, List.getElem?_eq_getElem (by have := HS6.out.len; omega)⟩
                  obtain ⟨hh6, -⟩ := HS6.out.hasAt hf
                  haveI : In gh wr := ⟨HS6.out.lt⟩
                  have HSE := Lib.hid (fun W (hw : Nw wr W) => session_any w0.heap.size W gm gt gp s b' (.slice none 0 0) (HS6.out.mdl.nw hw) j f hf)
                  clear hf
                  cases f with
                  | true =>
                    go_upto_region 31 with (fail)
                    (refine wp_region_nw (by kernel_rfl) (by kernel_rfl) ?_; (repeat (go_big_quiet_step ((go_at_call 8; exact quiet_of (HSE.out _ ((by repeat (first | exact Xt.Nw.refl _ | refine Xt.Nw.drew ?_ | refine Xt.Nw.drewN ?_ _ | refine Xt.Nw.alloc ?_ _ | refine Xt.Nw.joined ?_ | refine Xt.Nw.drewd ?_ | refine Xt.Nw.drewdN ?_ | refine Xt.Nw.ext ?_ | refine Xt.Nw.ext_some ?_ (by assumption) | refine Xt.Nw.setCell ?_ (by simp [go_sem] <;> omega) _)))))))); refine wpQuiet_nil ?_; intro _ hreg; obtain ⟨dW, rfl⟩ : Nw _ _ := hreg)
                    go_wp2
                    exact ⟨⟨j + 1, by have := HJN.out; omega, by go_num, Nw.ext HX5.out⟩, by have := HJN.out; simp [intOf]; omega⟩
                  | false =>
                    go_upto_region 31 with (fail)
                    (refine wp_region_nw (by kernel_rfl) (by kernel_rfl) ?_; (repeat (go_big_quiet_step ((go_at_call 8; exact quiet_of (HSE.out _ ((by repeat (first | exact Xt.Nw.refl _ | refine Xt.Nw.drew ?_ | refine Xt.Nw.drewN ?_ _ | refine Xt.Nw.alloc ?_ _ | refine Xt.Nw.joined ?_ | refine Xt.Nw.drewd ?_ | refine Xt.Nw.drewdN ?_ | refine Xt.Nw.ext ?_ | refine Xt.Nw.ext_some ?_ (by assumption) | refine Xt.Nw.setCell ?_ (by simp [go_sem] <;> omega) _)))))))); refine wpQuiet_nil ?_; intro _ hreg; obtain ⟨dW, rfl⟩ : Nw _ _ := hreg)
                    go_wp2
                    exact ⟨⟨j + 1, by have := HJN.out; omega, by go_num, Nw.ext HX5.out⟩, by have := HJN.out; simp [intOf]; omega⟩
                · have j1 : ¬ (j : Int) < (N : Int) := by omega
                  go_wp2
                  exact ⟨⟨i + 1, b', by have := HLT.out; omega, by rw [← hcn.out], by go_num, HS6.out⟩, by have := HLT.out; simp [intOf]; omega⟩
            | false =>
              go_wp2_with fail
              refine (do_2ff w0.heap.size _ gm gt gp s b (.slice none 0 0) (hst.out.mdl.nw (by repeat (first | exact Xt.Nw.refl _ | refine Xt.Nw.drew ?_ | refine Xt.Nw.drewN ?_ _ | refine Xt.Nw.alloc ?_ _ | refine Xt.Nw.joined ?_ | refine Xt.Nw.drewd ?_ | refine Xt.Nw.drewdN ?_ | refine Xt.Nw.ext ?_ | refine Xt.Nw.ext_some ?_ (by assumption) | refine Xt.Nw.setCell ?_ (by simp [go_sem] <;> omega) _))) k HSF.out).mono ?_
              rintro e W5 ⟨rfl, hch, hth⟩
              have hS5 : St w0 N gm gt gp gh s b W5 := St.chg hst.out (Chg.of_nw (Nw.refl _)) hst.out.has rfl ((Chg.of_nw (by repeat (first | exact Xt.Nw.refl _ | refine Xt.Nw.drew ?_ | refine Xt.Nw.drewN ?_ _ | refine Xt.Nw.alloc ?_ _ | refine Xt.Nw.joined ?_ | refine Xt.Nw.drewd ?_ | refine Xt.Nw.drewdN ?_ | refine Xt.Nw.ext ?_ | refine Xt.Nw.ext_some ?_ (by assumption) | refine Xt.Nw.setCell ?_ (by simp [go_sem] <;> omega) _))).trans hch) hth hst.out.cs
              obtain ⟨b', hb'⟩ : ∃ b', b' = b := ⟨_, rfl⟩
              rw [← hb'] at hS5
              have HS5 := Lib.hid hS5
              have hcn := Lib.hid (show (((cnt b : Nat) : Int) : Int) = (cnt b' : Nat) by rw [hb'])
              clear hS5 hb'
              go_wp2_with fail
              go_loopw [15] (fun a wx => ∃ j : Nat, j ≤ N ∧ a = .int .i64 j ∧ Nw W5 wx) (fun a _ => N - (intOf a).toNat)
              case atStart => exact ⟨0, by omega, rfl, Nw.refl _⟩
              case round =>
                obtain ⟨j, hj, rfl, hx5⟩ := hrel
                have HS6 := Lib.hid (HS5.out.nw2 hx5)
                have HX5 := Lib.hid hx5
                clear hx5
                by_cases hjN : j < N
                · have j1 : (j : Int) < (N : Int) := by omega
                  have HJN := Lib.hid hjN
                  have j8 : j < 8 := by have := HNN.out; omega
                  have j0 : (0 : Int) ≤ (j : Int) := by omega
                  obtain ⟨f, hf⟩ : ∃ f, b'[j]? = some f := ⟨_, List.getElem?_eq_getElem (by have := HS6.out.len; omega)⟩
                  obtain ⟨hh6, -⟩ := HS6.out.hasAt hf
                  haveI : In gh wr := ⟨HS6.out.lt⟩
                  have HSE := Lib.hid (fun W (hw : Nw wr W) => session_any w0.heap.size W gm gt gp s b' (.slice none 0 0) (HS6.out.mdl.nw hw) j f hf)
                  clear hf
                  cases f with
                  | true =>
                    go_upto_region 31 with (fail)
                    (refine wp_region_nw (by kernel_rfl) (by kernel_rfl) ?_; (repeat (go_big_quiet_step ((go_at_call 8; exact quiet_of (HSE.out _ ((by repeat (first | exact Xt.Nw.refl _ | refine Xt.Nw.drew ?_ | refine Xt.Nw.drewN ?_ _ | refine Xt.Nw.alloc ?_ _ | refine Xt.Nw.joined ?_ | refine Xt.Nw.drewd ?_ | refine Xt.Nw.drewdN ?_ | refine Xt.Nw.ext ?_ | refine Xt.Nw.ext_some ?_ (by assumption) | refine Xt.Nw.setCell ?_ (by simp [go_sem] <;> omega) _)))))))); refine wpQuiet_nil ?_; intro _ hreg; obtain ⟨dW, rfl⟩ : Nw _ _ := hreg)
                    go_wp2
                    exact ⟨⟨j + 1, by have := HJN.out; omega, by go_num, Nw.ext HX5.out⟩, by have := HJN.out; simp [intOf]; omega⟩
                  | false =>
                    go_upto_region 31 with (fail)
                    (refine wp_region_nw (by kernel_rfl) (by kernel_rfl) ?_; (repeat (go_big_quiet_step ((go_at_call 8; exact quiet_of (HSE.out _ ((by repeat (first | exact Xt.Nw.refl _ | refine Xt.Nw.drew ?_ | refine Xt.Nw.drewN ?_ _ | refine Xt.Nw.alloc ?_ _ | refine Xt.Nw.joined ?_ | refine Xt.Nw.drewd ?_ | refine Xt.Nw.drewdN ?_ | refine Xt.Nw.ext ?_ | refine Xt.Nw.ext_some ?_ (by assumption) | refine Xt.Nw.setCell ?_ (by simp [go_sem] <;> omega) _)))))))); refine wpQuiet_nil ?_; intro _ hreg; obtain ⟨dW, rfl⟩ : Nw _ _ := hreg)
                    go_wp2
                    exact ⟨⟨j + 1, by have := HJN.out; omega, by go_num, Nw.ext HX5.out⟩, by have := HJN.out; simp [intOf]; omega⟩
                · have j1 : ¬ (j : Int) < (N : Int) := by omega
                  go_wp2
                  exact ⟨⟨i + 1, b', by have := HLT.out; omega, by rw [← hcn.out], by go_num, HS6.out⟩, by have := HLT.out; simp [intOf]; omega⟩
        · have i1 : ¬ (i : Int) < (n : Int) := by omega
          go_wp2_with fail
          refine (HKN.out _).mono ?_
          rintro e w' ⟨rfl, dW, rfl⟩
          go_wp2
          go_ret
          exact ⟨rfl, Nw.ext hst.out.nw⟩
end Go.Proofs.Ytenhadpiddocbaa
