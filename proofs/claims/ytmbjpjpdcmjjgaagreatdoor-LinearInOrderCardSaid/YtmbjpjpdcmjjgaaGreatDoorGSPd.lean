import Derived.Test.YtmbjpjpdcmjjgaaGreatDoorGSPa
set_option linter.unusedVariables false
set_option linter.unusedSimpArgs false
set_option linter.unnecessarySimpa false
namespace Go.Proofs.YtmbjpjpdcmjjgaaGreatDoor
open Go.RowKit Go.Xt Go.Shelf Go.Sort
/-! symMergeCmpFunc where neither run is of one element; the whole. -/
section
variable {α : Type} [Inhabited α]
def RtP (val : α → Int) (w0 : World) (blk off n a b st m E : Nat) (d : Array α) (W : World) : Prop := ∃ e : Array α, e.size = n ∧ PermIn a b d e ∧ Rot (atA d) (atA e) st m E ∧ SW (iv val) w0 blk off e W
def HfP (val : α → Int) (lt : α → α → Bool) (w0 : World) (blk off n a b : Nat) (e : Array α) (W : World) : Prop := ∃ f : Array α, f.size = n ∧ PermIn a b e f ∧ Asc lt (atA f) a b ∧ SW (iv val) w0 blk off f W
theorem HfP.same {val : α → Int} {lt : α → α → Bool} {w0 : World} {blk off n a b : Nat} {e : Array α} {W : World} (h : e.size = n) (ha : Asc lt (atA e) a b) (hs : SW (iv val) w0 blk off e W) : HfP val lt w0 blk off n a b e W := ⟨e, h, permIn_refl _ _ _, ha, hs⟩
theorem wrapN {x : Int} {k : Nat} (h : x = (k : Int)) (hk : k ≤ 4000000) : IntKind.i64.wrap x = (k : Int) := by rw [IntKind.wrap_i64] <;> omega
theorem wrap64N {x : Int} {k : Nat} (h : x = (k : Int)) (hk : k ≤ 4000000) : wrap64 x = (k : Int) := by unfold wrap64; omega
theorem mid_lt {a b : Nat} (h : a < b) (hb : b ≤ 1000000) : (a + b) / 2 < 1000000 := by omega
set_option maxRecDepth 20000 in
set_option maxHeartbeats 8000000 in
theorem symM_more (val : α → Int) (cf : α → α → Int) (hS : SWO (ltOf cf)) (g : Nat) (cb : Array Value) (blk off cap n : Nat) (d0 : Array α) (w0 : World)
    (eg : ∀ args w, (callFunc g args).run Tryz.prog w = .ok (.enter g args) w) (hcmp : CmpLays1 Tryz.prog g cb (iv val) cf blk off d0.size w0) (R : Row1 (iv val) w0 blk off d0) (hn0 : d0.size = n) (hn : n ≤ 1000000)
    (a m b : Nat) (d : Array α) (w : World) (hd : d.size = n) (S : SW (iv val) w0 blk off d w) (ham : a < m) (hmb : m < b) (hbn : b ≤ n) (h1 : Asc (ltOf cf) (atA d) a m) (h2 : Asc (ltOf cf) (atA d) m b) (hma : a + 1 < m) (hbm : m + 1 < b)
    (IH : ∀ (a' m' b' : Nat) (e : Array α) (W : World), b' - a' < b - a → e.size = n → SW (iv val) w0 blk off e W → a' < m' → m' < b' → b' ≤ n → Asc (ltOf cf) (atA e) a' m' → Asc (ltOf cf) (atA e) m' b' →
      Calls Tryz.prog 68 #[.slice (some ⟨blk, off, none⟩) n cap, .int .i64 a', .int .i64 m', .int .i64 b', .func (.func g) #[] cb] W (MgP val cf w0 blk off n a' b' e)) :
    Calls Tryz.prog 68 #[.slice (some ⟨blk, off, none⟩) n cap, .int .i64 a, .int .i64 m, .int .i64 b, .func (.func g) #[] cb] w (MgP val cf w0 blk off n a b d) := by
  have mixed : Tryz.prog.follows .mixedOrders = true := sortL.mixed
  rw [hn0] at hcmp
  have RR := Lib.hid R
  have HC := Lib.hid hcmp
  have HS0 := Lib.hid S
  have HD := Lib.hid (And.intro hd hn0)
  have HN := Lib.hid hn
  have HAB := Lib.hid (And.intro ham (And.intro hmb hbn))
  have HA1 := Lib.hid h1
  have HA2 := Lib.hid h2
  have HIH := Lib.hid IH
  have HX := Lib.hid (fun (s m' E : Nat) (e : Array α) (W : World) (he : e.size = n) (hs : SW (iv val) w0 blk off e W) (h1 : s < m') (h2 : m' < E) (h3 : E ≤ n) => rotate_any val g cb blk off cap n d0 w0 R hn0 hn s m' E e W he hs h1 h2 h3)
  obtain ⟨i0, hi0⟩ : ∃ i, i = m - a := ⟨_, rfl⟩
  obtain ⟨j0, hj0⟩ : ∃ i, i = b - m := ⟨_, rfl⟩
  obtain ⟨mid, hmid⟩ : ∃ q, q = (a + b) / 2 := ⟨_, rfl⟩
  obtain ⟨nn, hnn⟩ : ∃ q, q = mid + m := ⟨_, rfl⟩
  obtain ⟨p, hp⟩ : ∃ q, q = nn - 1 := ⟨_, rfl⟩
  have x3 : m < 1000000 := Nat.lt_of_lt_of_le hmb (Nat.le_trans hbn hn)
  have x1 : a < 1000000 := Nat.lt_trans ham x3
  have x2 : b < 1000000 + 1 := Nat.lt_succ_of_le (Nat.le_trans hbn hn)
  have x4 : mid < 1000000 := by rw [hmid]; exact mid_lt (Nat.lt_trans ham hmb) (Nat.le_trans hbn hn)
  obtain ⟨s0, hs0⟩ : ∃ q, q = if mid < m then nn - b else a := ⟨_, rfl⟩
  obtain ⟨r0, hr0⟩ : ∃ q, q = if mid < m then mid else m := ⟨_, rfl⟩
  have hprop : (mid < m ∧ s0 = nn - b ∧ r0 = mid) ∨ (m ≤ mid ∧ s0 = a ∧ r0 = m) := by
    by_cases h : mid < m
    · rw [if_pos h] at hs0 hr0; exact .inl ⟨h, hs0, hr0⟩
    · rw [if_neg h] at hs0 hr0; exact .inr ⟨Nat.not_lt.1 h, hs0, hr0⟩
  have u0 : IntKind.i64.wrap ((m : Int) - (a : Int)) = (i0 : Int) := wrapN (by omega) (by omega)
  have u02 : wrap64 ((m : Int) - (a : Int)) = (i0 : Int) := wrap64N (by omega) (by omega)
  have u1 : IntKind.i64.wrap ((b : Int) - (m : Int)) = (j0 : Int) := wrapN (by omega) (by omega)
  have u12 : wrap64 ((b : Int) - (m : Int)) = (j0 : Int) := wrap64N (by omega) (by omega)
  have u2 : ((i0 : Int) == 1) = false := by simp; omega
  have u3 : ¬ (i0 : Int) = 1 := by omega
  have u4 : ((j0 : Int) == 1) = false := by simp; omega
  have u5 : ¬ (j0 : Int) = 1 := by omega
  have v1 : ((a : Int) + (b : Int)) / 2 = (mid : Int) := by omega
  have v2 : IntKind.i64.wrap ((mid : Int) + (m : Int)) = (nn : Int) := wrapN (by omega) (by omega)
  have v3 : wrap64 ((mid : Int) + (m : Int)) = (nn : Int) := wrap64N (by omega) (by omega)
  have HMID := Lib.hid (And.intro hmid (And.intro hnn (And.intro hp hprop)))
  have HMA := Lib.hid (And.intro hma hbm)
  clear R S hcmp hd hn0 hn ham hmb hbn h1 h2 hma hbm IH hi0 hj0 hmid hnn hp hs0 hr0 hprop
  go_enter Tryz.func68, Tryz.ntmps68
  go_upto_if 140 with (fail)
  clear u0 u02 u1 u12 u2 u3 u4 u5 v1 v2 v3
  go_cut [20, 21] (fun x y wx => x = .int .i64 s0 ∧ y = .int .i64 r0 ∧ w = wx)
  case first =>
    have hab := HAB.out
    have hmm := HMID.out
    by_cases hgt : mid < m
    · have z1 : (mid : Int) < (m : Int) := by omega
      have e1 : IntKind.i64.wrap ((nn : Int) - (b : Int)) = (s0 : Int) := wrapN (by omega) (by omega)
      have e2 : wrap64 ((nn : Int) - (b : Int)) = (s0 : Int) := wrap64N (by omega) (by omega)
      have e3 := Lib.hid (show mid = r0 by omega)
      clear hab hmm hgt
      go_wp2_with fail
      go_meet
      exact ⟨rfl, by rw [e3.out], rfl⟩
    · have z1 : ¬ (mid : Int) < (m : Int) := by omega
      have e3 := Lib.hid (show a = s0 ∧ m = r0 by omega)
      clear hab hmm hgt
      go_wp2_with fail
      go_meet
      exact ⟨by rw [e3.out.1], by rw [e3.out.2], rfl⟩
  case rest =>
    obtain ⟨rfl, rfl, rfl⟩ := hcut
    have v4 : IntKind.i64.wrap ((nn : Int) - 1) = (p : Int) := by have := HMID.out; have := HAB.out; exact wrapN (by omega) (by have := HN.out; omega)
    have v5 : wrap64 ((nn : Int) - 1) = (p : Int) := by have := HMID.out; have := HAB.out; exact wrap64N (by omega) (by have := HN.out; omega)
    go_upto_region 33 with (fail)
    clear v4 v5
    go_wp2_with fail
    go_loopw [20, 21] (fun x y wr => ∃ s r : Nat, x = .int .i64 s ∧ y = .int .i64 r ∧ s0 ≤ s ∧ s ≤ r ∧ r ≤ r0 ∧ Hid ((s = s0 ∨ ltOf cf d[p - (s - 1)]! d[s - 1]! = false) ∧ (r = r0 ∨ ltOf cf d[p - r]! d[r]! = true) ∧ SW (iv val) w0 blk off d wr)) (fun x y _ => (intOf y).toNat - (intOf x).toNat)
    case atStart => exact ⟨s0, r0, rfl, rfl, Nat.le_refl _, by have := HMID.out; have := HAB.out; omega, Nat.le_refl _, Lib.hid ⟨.inl rfl, .inl rfl, HS0.out⟩⟩
    case round =>
      obtain ⟨s, r, rfl, rfl, hss, hsr, hrr, hst⟩ := hrel
      obtain ⟨hb1, hb2, hs⟩ := hst.out
      have hab := HAB.out
      have hnn := HN.out
      have hdd := HD.out
      have hmm := HMID.out
      by_cases hlt : s < r
      · have i1 : (s : Int) < (r : Int) := by omega
        obtain ⟨c, hc'⟩ : ∃ c : Nat, c = (s + r) / 2 := ⟨_, rfl⟩
        obtain ⟨k, hk⟩ : ∃ k : Nat, k = p - c := ⟨_, rfl⟩
        have hhk : ((s : Int) + (r : Int)) / 2 = (c : Int) := by omega
        have hh1 : s ≤ c := by omega
        have hh2 : c < r := by omega
        have e1 : IntKind.i64.wrap ((p : Int) - (c : Int)) = (k : Int) := wrapN (by omega) (by omega)
        have e2 : wrap64 ((p : Int) - (c : Int)) = (k : Int) := wrap64N (by omega) (by omega)
        have q1 : (c : Int) < (n : Int) := by omega
        have q2 : (0 : Int) ≤ (c : Int) := by omega
        have q3 : (k : Int) < (n : Int) := by omega
        have q4 : (0 : Int) ≤ (k : Int) := by omega
        have i3 : s < 1000000 := by omega
        have j3 : r < 1000000 + 1 := by omega
        obtain ⟨x1, hx1⟩ : ∃ z, z = d[k]! := ⟨_, rfl⟩
        obtain ⟨y1, hy1⟩ : ∃ z, z = d[c]! := ⟨_, rfl⟩
        have l1 := hs.cl RR.out (by omega) (k) (by omega)
        have l2 := hs.cl RR.out (by omega) (c) (by omega)
        rw [← hx1] at l1
        rw [← hy1] at l2
        have hc := hs.cmp HC.out (by omega) x1 y1
        have HS := Lib.hid hs
        have HB := Lib.hid (And.intro hb1 hb2)
        by_cases hv : cf x1 y1 < 0
        · have HV := Lib.hid (show ltOf cf d[p - c]! d[c]! = true by rw [← hk, ← hx1, ← hy1]; exact decide_eq_true hv)
          have hd1 : decide (cf x1 y1 < 0) = true := decide_eq_true hv
          clear hst hb1 hb2 hs hab hdd hmm hc' hk hx1 hy1 hnn
          go_wp2_with fail
          go_quiet_grown (first | (go_at_fn g; refine Calls.grown_of (hc _ _)))
          have S2 := Lib.hid (HS.out.grown nq osq)
          clear l1 l2 hc
          generalize grow (wr.drewN nq) osq = w2 at S2 ⊢
          clear nq osq
          go_wp2
          exact ⟨⟨s, c, rfl, by go_num, hss, by omega, by omega, Lib.hid ⟨HB.out.1, .inr HV.out, S2.out⟩⟩, by simp [intOf]; omega⟩
        · have HV := Lib.hid (show ltOf cf d[p - c]! d[c]! = false by rw [← hk, ← hx1, ← hy1]; exact decide_eq_false hv)
          have hd1 : decide (cf x1 y1 < 0) = false := decide_eq_false hv
          clear hst hb1 hb2 hs hab hdd hmm hc' hk hx1 hy1 hnn
          go_wp2_with fail
          go_quiet_grown (first | (go_at_fn g; refine Calls.grown_of (hc _ _)))
          have S2 := Lib.hid (HS.out.grown nq osq)
          clear l1 l2 hc
          generalize grow (wr.drewN nq) osq = w2 at S2 ⊢
          clear nq osq
          go_wp2
          exact ⟨⟨c + 1, r, by go_num, rfl, by omega, by omega, hrr, Lib.hid ⟨.inr (by rw [Nat.add_sub_cancel]; exact HV.out), HB.out.2, S2.out⟩⟩, by simp [intOf]; omega⟩
      · obtain rfl : s = r := by omega
        have i1 : ¬ (s : Int) < (s : Int) := by omega
        obtain ⟨E, hE⟩ : ∃ E, E = nn - s := ⟨_, rfl⟩
        have e1 : IntKind.i64.wrap ((nn : Int) - (s : Int)) = (E : Int) := wrapN (by omega) (by omega)
        have e2 : wrap64 ((nn : Int) - (s : Int)) = (E : Int) := wrap64N (by omega) (by omega)
        have hcut0 : Cut (ltOf cf) (atA d) a m b mid s := by
          have hE2 : mid + m - s = E := by omega
          refine ⟨by omega, by omega, by omega, by omega, by omega, by omega, ?_, ?_⟩
          · rcases hb1 with h | h
            · rcases hmm.2.2.2 with h9 | h9
              · right; left; omega
              · left; omega
            · by_cases h9 : s = s0
              · rcases hmm.2.2.2 with h8 | h8
                · right; left; omega
                · left; omega
              · right; right
                rw [show mid + m - s = p - (s - 1) by omega]; exact h
          · rcases hb2 with h | h
            · rcases hmm.2.2.2 with h9 | h9
              · left; omega
              · right; left; omega
            · right; right
              rw [show mid + m - s - 1 = p - s by omega]; exact h
        have HCUT := Lib.hid (show Cut (ltOf cf) (atA d) a m b mid s ∧ mid + m - s = E from ⟨hcut0, by omega⟩)
        have HS := Lib.hid hs
        have HSR := Lib.hid (And.intro hss hrr)
        clear hst hb1 hb2 hs hab hnn hdd hmm hE hcut0 hss hrr hlt
        go_upto_region 39 with (fail)
        clear e1 e2
        go_upto_region 39 with (fail)
        go_cut [185] (fun v wx => ∃ bB : Bool, v = .bool bB ∧ Hid (bB = decide (s < m ∧ m < E)) ∧ wr = wx)
        case first => as_aux_lemma =>
          by_cases t1 : s < m
          · have z1 : (s : Int) < (m : Int) := by omega
            by_cases t2 : m < E
            · have z2 : (m : Int) < (E : Int) := by omega
              go_wp2_with fail
              go_meet
              exact ⟨true, rfl, Lib.hid (by simp [t1, t2]), rfl⟩
            · have z2 : ¬ (m : Int) < (E : Int) := by omega
              go_wp2_with fail
              go_meet
              exact ⟨false, rfl, Lib.hid (by simp [t2]), rfl⟩
          · have z1 : ¬ (s : Int) < (m : Int) := by omega
            go_wp2_with fail
            go_meet
            exact ⟨false, rfl, Lib.hid (by simp [t1]), rfl⟩
        case rest => as_aux_lemma =>
          obtain ⟨bB, rfl, hB, rfl⟩ := hcut
          go_upto_if 185 with (fail)
          go_cut [24] (fun v wx => v = .int .i64 E ∧ Hid (RtP val w0 blk off n a b s m E d wx))
          case first => as_aux_lemma =>
            cases bB with
            | true =>
              have t : s < m ∧ m < E := of_decide_eq_true hB.out.symm
              have z2 : s < m := t.1
              have z3 : m < E := t.2
              clear hB
              have hcu := HCUT.out.1
              have hab := HAB.out
              have he := HCUT.out.2
              have hlo := hcu.lo
              have heb := hcu.eb
              have hrt := HX.out s m E d _ HD.out.1 HS.out z2 z3 (by omega)
              have HRT := Lib.hid hrt
              have HPM := Lib.hid (show a ≤ s ∧ E ≤ b ∧ b ≤ d.size from ⟨by omega, by omega, by have := HD.out; omega⟩)
              clear hcu hab he hlo heb hrt t
              go_wp2_with fail
              refine HRT.out.mono ?_
              rintro e9 W9 ⟨rfl, e, h1, h2, h3, h4⟩
              have HR9 := Lib.hid (show RtP val w0 blk off n a b s m E d W9 from ⟨e, h1, permIn_mono _ _ _ _ _ _ HPM.out.1 HPM.out.2.1 HPM.out.2.2 h2, h3, h4⟩)
              clear h1 h2 h3 h4
              go_wp2_with fail
              go_meet
              exact ⟨rfl, HR9⟩
            | false =>
              have t : ¬ (s < m ∧ m < E) := of_decide_eq_false hB.out.symm
              clear hB
              have hr9 : RtP val w0 blk off n a b s m E d wr := by
                have hcu := HCUT.out.1
                have he := HCUT.out.2
                refine ⟨d, HD.out.1, permIn_refl _ _ _, ?_, HS.out⟩
                by_cases h9 : s = m
                · rw [h9]; exact Rot.same _ _ _
                · have h8 : E = m := by have := hcu.sm; have := hcu.en; omega
                  rw [h8]; exact Rot.none _ _ _ hcu.sm
              have HR9 := Lib.hid hr9
              clear hr9 t
              go_wp2_with fail
              go_meet
              exact ⟨rfl, HR9⟩
          case rest => as_aux_lemma =>
            obtain ⟨rfl, hc5⟩ := hcut
            obtain ⟨W5, hW5⟩ : ∃ W, W = wc := ⟨_, rfl⟩
            subst hW5
            have HC5 := Lib.hid hc5.out
            clear hc5
            obtain ⟨e, hsz, hpm, hrot, hsw⟩ := HC5.out
            obtain ⟨g1, g2, g3, g4, g5⟩ := cut_rot hS HA1.out HA2.out HCUT.out.1 (by rw [HCUT.out.2]; exact hrot)
            rw [HCUT.out.2] at g3 g4
            have HE := Lib.hid (And.intro hsz (And.intro hpm hsw))
            have HG := Lib.hid (And.intro g1 (And.intro g2 (And.intro g3 (And.intro g4 g5))))
            clear hsz hpm hrot hsw g1 g2 g3 g4 g5 HC5
            go_upto_region 41 with (fail)
            go_cut [199] (fun v wx => ∃ bB : Bool, v = .bool bB ∧ Hid (bB = decide (a < s ∧ s < mid)) ∧ W5 = wx)
            case first => as_aux_lemma =>
              by_cases t1 : a < s
              · have z1 : (a : Int) < (s : Int) := by omega
                by_cases t2 : s < mid
                · have z2 : (s : Int) < (mid : Int) := by omega
                  go_wp2_with fail
                  go_meet
                  exact ⟨true, rfl, Lib.hid (by simp [t1, t2]), rfl⟩
                · have z2 : ¬ (s : Int) < (mid : Int) := by omega
                  go_wp2_with fail
                  go_meet
                  exact ⟨false, rfl, Lib.hid (by simp [t2]), rfl⟩
              · have z1 : ¬ (a : Int) < (s : Int) := by omega
                go_wp2_with fail
                go_meet
                exact ⟨false, rfl, Lib.hid (by simp [t1]), rfl⟩
            case rest => as_aux_lemma =>
              obtain ⟨bB, rfl, hB, rfl⟩ := hcut
              go_upto_if 199 with (fail)
              go_cut [24] (fun v wx => v = .int .i64 E ∧ Hid (HfP val (ltOf cf) w0 blk off n a mid e wx))
              case first => as_aux_lemma =>
                cases bB with
                | true =>
                  have t : a < s ∧ s < mid := of_decide_eq_true hB.out.symm
                  have z2 : a < s := t.1
                  have z3 : s < mid := t.2
                  clear hB
                  have hcu := HCUT.out.1
                  have hab := HAB.out
                  have hmm := HMID.out
                  have hc := HIH.out a s mid e _ (by omega) HE.out.1 HE.out.2.2 z2 z3 (by omega) HG.out.1 HG.out.2.1
                  have HCC := Lib.hid hc
                  clear hcu hab hmm hc t
                  go_wp2_with fail
                  refine HCC.out.mono ?_
                  rintro e9 W9 ⟨rfl, f, h1, h2, h3, h4⟩
                  have HR9 := Lib.hid (show HfP val (ltOf cf) w0 blk off n a mid e W9 from ⟨f, h1, h2, h3, h4⟩)
                  clear h1 h2 h3 h4
                  go_wp2_with fail
                  go_meet
                  exact ⟨rfl, HR9⟩
                | false =>
                  have t : ¬ (a < s ∧ s < mid) := of_decide_eq_false hB.out.symm
                  clear hB
                  have hr9 : HfP val (ltOf cf) w0 blk off n a mid e W5 := by
                    have hcu := HCUT.out.1
                    have h1 := hcu.lo
                    have h2 := hcu.le
                    refine HfP.same HE.out.1 ?_ HE.out.2.2
                    by_cases h9 : a = s
                    · rw [h9]; exact HG.out.2.1
                    · have h8 : s = mid := by omega
                      rw [← h8]; exact HG.out.1
                  have HR9 := Lib.hid hr9
                  clear hr9 t
                  go_wp2_with fail
                  go_meet
                  exact ⟨rfl, HR9⟩
              case rest => as_aux_lemma =>
                obtain ⟨rfl, hc6⟩ := hcut
                obtain ⟨W6, hW6⟩ : ∃ W, W = wc := ⟨_, rfl⟩
                subst hW6
                have HC6 := Lib.hid hc6.out
                clear hc6
                obtain ⟨f, fsz, fpm, fas, fsw⟩ := HC6.out
                have HF := Lib.hid (And.intro fsz (And.intro fpm (And.intro fas fsw)))
                have hmide : mid ≤ E := by have := HCUT.out.1.me; have := HCUT.out.2; omega
                have fq1 : Asc (ltOf cf) (atA f) mid E := asc_congr HG.out.2.2.1 (fun k h1 _ => fpm.2.1 k (.inr h1))
                have fq2 : Asc (ltOf cf) (atA f) E b := asc_congr HG.out.2.2.2.1 (fun k h1 _ => fpm.2.1 k (.inr (by omega)))
                have HQ := Lib.hid (And.intro fq1 fq2)
                clear fsz fpm fas fsw HC6 fq1 fq2 hmide
                go_upto_region 43 with (fail)
                go_cut [213] (fun v wx => ∃ bB : Bool, v = .bool bB ∧ Hid (bB = decide (mid < E ∧ E < b)) ∧ W6 = wx)
                case first => as_aux_lemma =>
                  by_cases t1 : mid < E
                  · have z1 : (mid : Int) < (E : Int) := by omega
                    by_cases t2 : E < b
                    · have z2 : (E : Int) < (b : Int) := by omega
                      go_wp2_with fail
                      go_meet
                      exact ⟨true, rfl, Lib.hid (by simp [t1, t2]), rfl⟩
                    · have z2 : ¬ (E : Int) < (b : Int) := by omega
                      go_wp2_with fail
                      go_meet
                      exact ⟨false, rfl, Lib.hid (by simp [t2]), rfl⟩
                  · have z1 : ¬ (mid : Int) < (E : Int) := by omega
                    go_wp2_with fail
                    go_meet
                    exact ⟨false, rfl, Lib.hid (by simp [t1]), rfl⟩
                case rest => as_aux_lemma =>
                  obtain ⟨bB, rfl, hB, rfl⟩ := hcut
                  go_upto_if 213 with (fail)
                  cases bB with
                  | true =>
                    have t : mid < E ∧ E < b := of_decide_eq_true hB.out.symm
                    have z2 : mid < E := t.1
                    have z3 : E < b := t.2
                    clear hB
                    have hcu := HCUT.out.1
                    have hab := HAB.out
                    have hmm := HMID.out
                    have hc := HIH.out mid E b f _ (by omega) HF.out.1 HF.out.2.2.2 z2 z3 (by omega) HQ.out.1 HQ.out.2
                    have HCC := Lib.hid hc
                    clear hcu hab hmm hc t
                    go_wp2_with fail
                    refine HCC.out.mono ?_
                    rintro e9 W9 ⟨rfl, f2, h1, h2, h3, h4⟩
                    have HR9 := Lib.hid (show HfP val (ltOf cf) w0 blk off n mid b f W9 from ⟨f2, h1, h2, h3, h4⟩)
                    clear h1 h2 h3 h4
                    obtain ⟨f2, q1, q2, q3, q4⟩ := HR9.out
                    have hab := HAB.out
                    have hmm := HMID.out
                    have hcu := HCUT.out.1
                    have hle := hcu.le
                    have hlo := hcu.lo
                    have hme := hcu.me
                    have heb := hcu.eb
                    have hfin : ExP val w0 blk off n a b d (fun f => Asc (ltOf cf) f a b) W9 := by
                      refine ⟨f2, q1, ?_, ?_, q4⟩
                      · refine permIn_trans _ _ _ _ _ HE.out.2.1 (permIn_trans _ _ _ _ _ (permIn_mono _ _ _ _ _ _ (Nat.le_refl _) (show mid ≤ b by omega) (by have := HE.out.1; omega) HF.out.2.1) (permIn_mono _ _ _ _ _ _ (show a ≤ mid by omega) (Nat.le_refl _) (by have := HF.out.1; omega) q2))
                      · have c1 : Crs (ltOf cf) (atA f2) a mid mid b := crs_perm (by omega) (by have := HE.out.1; omega) HG.out.2.2.2.2 HF.out.2.1 q2
                        exact asc_glue (asc_congr HF.out.2.2.1 (fun k _ h2 => q2.2.1 k (.inl h2))) q3 c1
                    have HFIN := Lib.hid hfin
                    clear q1 q2 q3 q4 hab hmm hcu hle hlo hme heb hfin
                    go_wp2
                    go_end0
                    exact ⟨rfl, HFIN.out⟩
                  | false =>
                    have t : ¬ (mid < E ∧ E < b) := of_decide_eq_false hB.out.symm
                    clear hB
                    have hr9 : HfP val (ltOf cf) w0 blk off n mid b f W6 := by
                      have hcu := HCUT.out.1
                      have h1 := hcu.me
                      have h2 := hcu.eb
                      have h3 := HCUT.out.2
                      refine HfP.same HF.out.1 ?_ HF.out.2.2.2
                      by_cases h9 : mid = E
                      · rw [h9]; exact HQ.out.2
                      · have h8 : E = b := by omega
                        rw [← h8]; exact HQ.out.1
                    have HR9 := Lib.hid hr9
                    clear hr9 t
                    obtain ⟨f2, q1, q2, q3, q4⟩ := HR9.out
                    have hab := HAB.out
                    have hmm := HMID.out
                    have hcu := HCUT.out.1
                    have hle := hcu.le
                    have hlo := hcu.lo
                    have hme := hcu.me
                    have heb := hcu.eb
                    have hfin : ExP val w0 blk off n a b d (fun f => Asc (ltOf cf) f a b) W6 := by
                      refine ⟨f2, q1, ?_, ?_, q4⟩
                      · refine permIn_trans _ _ _ _ _ HE.out.2.1 (permIn_trans _ _ _ _ _ (permIn_mono _ _ _ _ _ _ (Nat.le_refl _) (show mid ≤ b by omega) (by have := HE.out.1; omega) HF.out.2.1) (permIn_mono _ _ _ _ _ _ (show a ≤ mid by omega) (Nat.le_refl _) (by have := HF.out.1; omega) q2))
                      · have c1 : Crs (ltOf cf) (atA f2) a mid mid b := crs_perm (by omega) (by have := HE.out.1; omega) HG.out.2.2.2.2 HF.out.2.1 q2
                        exact asc_glue (asc_congr HF.out.2.2.1 (fun k _ h2 => q2.2.1 k (.inl h2))) q3 c1
                    have HFIN := Lib.hid hfin
                    clear q1 q2 q3 q4 hab hmm hcu hle hlo hme heb hfin
                    go_wp2
                    go_end0
                    exact ⟨rfl, HFIN.out⟩
theorem symM_any (val : α → Int) (cf : α → α → Int) (hS : SWO (ltOf cf)) (g : Nat) (cb : Array Value) (blk off cap n : Nat) (d0 : Array α) (w0 : World)
    (eg : ∀ args w, (callFunc g args).run Tryz.prog w = .ok (.enter g args) w) (hcmp : CmpLays1 Tryz.prog g cb (iv val) cf blk off d0.size w0) (R : Row1 (iv val) w0 blk off d0) (hn0 : d0.size = n) (hn : n ≤ 1000000) :
    ∀ (N a m b : Nat) (d : Array α) (w : World), b - a ≤ N → d.size = n → SW (iv val) w0 blk off d w → a < m → m < b → b ≤ n → Asc (ltOf cf) (atA d) a m → Asc (ltOf cf) (atA d) m b →
    Calls Tryz.prog 68 #[.slice (some ⟨blk, off, none⟩) n cap, .int .i64 a, .int .i64 m, .int .i64 b, .func (.func g) #[] cb] w (MgP val cf w0 blk off n a b d)
  | 0, a, m, b, d, w, h0, _, _, h1, h2, _, _, _ => by omega
  | N + 1, a, m, b, d, w, h0, hd, hs, h1, h2, h3, h4, h5 => by
    by_cases e1 : m = a + 1
    · exact symM_first val cf hS g cb blk off cap n d0 w0 eg hcmp R hn0 hn a m b d w hd hs h1 h2 h3 h4 h5 e1
    · by_cases e2 : b = m + 1
      · exact symM_last val cf hS g cb blk off cap n d0 w0 eg hcmp R hn0 hn a m b d w hd hs h1 h2 h3 h4 h5 e2 (by omega)
      · exact symM_more val cf hS g cb blk off cap n d0 w0 eg hcmp R hn0 hn a m b d w hd hs h1 h2 h3 h4 h5 (by omega) (by omega)
          (fun a' m' b' e W k0 k1 k2 k3 k4 k5 k6 k7 => symM_any val cf hS g cb blk off cap n d0 w0 eg hcmp R hn0 hn N a' m' b' e W (by omega) k1 k2 k3 k4 k5 k6 k7)
end
end Go.Proofs.YtmbjpjpdcmjjgaaGreatDoor
namespace Go.Proofs.YtmbjpjpdcmjjgaaGreatDoor
open Go.RowKit Go.Xt Go.Shelf Go.Sort
/-! stableCmpFunc at 21 to 39. -/
section
variable {α : Type} [Inhabited α]
theorem asc_of {lt : α → α → Bool} {a b : Nat} {d : Array α} (h : SortedIn lt a b d) : Asc lt (atA d) a b := fun i j h1 h2 h3 => h i j h1 h2 h3
set_option maxRecDepth 20000 in
set_option maxHeartbeats 8000000 in
theorem stable_more (val : α → Int) (cf : α → α → Int) (hS : SWO (ltOf cf)) (g : Nat) (cb : Array Value) (blk off cap n : Nat) (d : Array α) (w : World)
    (eg : ∀ args w, (callFunc g args).run Tryz.prog w = .ok (.enter g args) w) (hcmp : CmpLays1 Tryz.prog g cb (iv val) cf blk off d.size w) (R : Row1 (iv val) w blk off d) (hd : d.size = n) (hn : 20 < n) (hn2 : n < 40) :
    Calls Tryz.prog 43 #[.slice (some ⟨blk, off, none⟩) n cap, .int .i64 (n : Int), .func (.func g) #[] cb] w fun e w' => e = .returned (.tuple #[]) ∧ SoL (iv val) cf blk off d w w' := by
  have hins : insertionSort_stmt (ltOf cf) := insertionSort_holds
  have HI := Lib.hid (fun (a b : Nat) (dk : Array α) (W : World) (hk : dk.size = n) (S : SW (iv val) w blk off dk W) (hab : a ≤ b) (hb : b ≤ n) =>
    show Calls Tryz.prog 67 #[.slice (some ⟨blk, off, none⟩) n cap, .int .i64 a, .int .i64 b, .func (.func g) #[] cb] W fun e w' => e = .returned (.tuple #[]) ∧ SW (iv val) w blk off (Sort.insertionSort (ltOf cf) dk a b) w' from
      hk ▸ Any.insertionSortCmpFunc_s (L := { sortL with }) (iv val) cf g cb blk off cap a b d dk w W eg hcmp R (by omega) S hab (by omega) (by omega))
  have HM := Lib.hid (fun (a m b : Nat) (e : Array α) (W : World) (he : e.size = n) (hs : SW (iv val) w blk off e W) (h1 : a < m) (h2 : m < b) (h3 : b ≤ n) (h4 : Asc (ltOf cf) (atA e) a m) (h5 : Asc (ltOf cf) (atA e) m b) =>
    symM_any val cf hS g cb blk off cap n d w eg hcmp R hd (by omega) (b - a) a m b e W (Nat.le_refl _) he hs h1 h2 h3 h4 h5)
  obtain ⟨d1, hd1⟩ : ∃ e, e = Sort.insertionSort (ltOf cf) d 0 20 := ⟨_, rfl⟩
  obtain ⟨d2, hd2⟩ : ∃ e, e = Sort.insertionSort (ltOf cf) d1 20 n := ⟨_, rfl⟩
  have p1 := hins hS d 0 20 (by omega) (by omega)
  rw [← hd1] at p1
  have s1 : d1.size = n := p1.1.1.trans hd
  have p2 := hins hS d1 20 n (by omega) (by omega)
  rw [← hd2] at p2
  have s2 : d2.size = n := p2.1.1.trans s1
  have a1 : Asc (ltOf cf) (atA d2) 0 20 := asc_congr (asc_of p1.2) (fun k _ h2 => p2.1.2.1 k (.inl h2))
  have a2 : Asc (ltOf cf) (atA d2) 20 n := asc_of p2.2
  have pm : PermIn 0 n d d2 := permIn_trans _ _ _ _ _ (permIn_mono _ _ _ _ _ _ (Nat.le_refl _) (by omega) (by omega) p1.1) (permIn_mono _ _ _ _ _ _ (by omega) (Nat.le_refl _) (by omega) p2.1)
  have H0 := Lib.hid (SW.start R.hH)
  have HD := Lib.hid (And.intro hd (And.intro s1 s2))
  have HA := Lib.hid (And.intro a1 (And.intro a2 pm))
  have HD1 := Lib.hid hd1
  have HD2 := Lib.hid hd2
  have HN := Lib.hid (And.intro hn hn2)
  have z1 : (20 : Int) ≤ (n : Int) := by omega
  have z2 : ¬ (40 : Int) ≤ (n : Int) := by omega
  have z3 : (20 : Int) < (n : Int) := by omega
  have z4 : ¬ (40 : Int) < (n : Int) := by omega
  clear R hcmp hd eg hins hd1 hd2 p1 p2 s1 s2 a1 a2 pm hn hn2
  go_enter Tryz.func43, Tryz.ntmps43
  go_wp2_with fail
  go_loopw [7, 8] (fun a b wr => ∃ k : Bool, a = .int .i64 (cond k 20 0) ∧ b = .int .i64 (cond k 40 20) ∧ Hid (cond k (SW (iv val) w blk off d1 wr) (wr = w))) (fun a _ _ => 20 - (intOf a).toNat)
  case atStart => exact ⟨false, rfl, rfl, Lib.hid rfl⟩
  case round =>
    obtain ⟨k, rfl, rfl, hk⟩ := hrel
    cases k with
    | false =>
      obtain rfl := hk.out
      clear hk
      dsimp only [cond]
      go_wp2_with fail
      refine (HI.out 0 20 d _ HD.out.1 H0.out (by omega) (by have := HN.out; omega)).mono ?_
      rintro e W1 ⟨rfl, hs⟩
      have HS := Lib.hid (show SW (iv val) _ blk off d1 W1 by rw [HD1.out]; exact hs)
      clear hs
      go_wp2_with fail
      exact ⟨⟨true, rfl, rfl, HS⟩, by simp [intOf]⟩
    | true =>
      have HS1 := Lib.hid (show SW (iv val) w blk off d1 wr from hk.out)
      clear hk
      dsimp only [cond]
      go_wp2_with fail
      refine (HI.out 20 n d1 wr HD.out.2.1 HS1.out (by have := HN.out; omega) (Nat.le_refl _)).mono ?_
      rintro e W1 ⟨rfl, hs⟩
      have HS2 := Lib.hid (show SW (iv val) w blk off d2 W1 by rw [HD2.out]; exact hs)
      clear hs
      go_wp2_with fail
      go_loopw [6, 7, 8, 9] (fun bs _ _ _ w2 => ∃ k : Bool, bs = .int .i64 (cond k 40 20) ∧ Hid (cond k (SoL (iv val) cf blk off d w w2) (w2 = W1))) (fun bs _ _ _ _ => 40 - (intOf bs).toNat)
      case atStart => exact ⟨false, rfl, Lib.hid rfl⟩
      case round =>
        obtain ⟨k, rfl, hk⟩ := hrel
        cases k with
        | false =>
          obtain rfl := hk.out
          clear hk
          dsimp only [cond]
          go_wp2_with fail
          rename World => W7
          go_loopw [7, 8] (fun a b w3 => a = .int .i64 0 ∧ b = .int .i64 40 ∧ W7 = w3) (fun _ _ _ => 0)
          case atStart => exact ⟨rfl, rfl, rfl⟩
          case round =>
            obtain ⟨rfl, rfl, rfl⟩ := hrel
            go_wp2_with fail
            refine (HM.out 0 20 n d2 _ HD.out.2.2 HS2.out (by omega) (by have := HN.out; omega) (Nat.le_refl _) HA.out.1 HA.out.2.1).mono ?_
            rintro e W3 ⟨rfl, d3, q1, q2, q3, q4⟩
            have HFIN := Lib.hid (show SoL (iv val) cf blk off d w W3 from ⟨d3, q1.trans HD.out.1.symm, by rw [HD.out.1]; exact permIn_trans _ _ _ _ _ HA.out.2.2 q2, by rw [HD.out.1]; exact fun i j h1 h2 h3 => q3 i j h1 h2 h3, q4⟩)
            clear q1 q2 q3 q4
            go_wp2_with fail
            exact ⟨⟨true, rfl, HFIN⟩, by simp [intOf]⟩
        | true =>
          have HFIN := Lib.hid (show SoL (iv val) cf blk off d w wr from hk.out)
          clear hk
          dsimp only [cond]
          go_wp2
          go_end0
          exact ⟨rfl, HFIN.out⟩
theorem stable_40 (val : α → Int) (cf : α → α → Int) (hS : SWO (ltOf cf)) (g : Nat) (cb : Array Value) (blk off cap n : Nat) (d : Array α) (w : World)
    (eg : ∀ args w, (callFunc g args).run Tryz.prog w = .ok (.enter g args) w) (hcmp : CmpLays1 Tryz.prog g cb (iv val) cf blk off d.size w) (R : Row1 (iv val) w blk off d) (hd : d.size = n) (hn2 : n < 40) :
    Calls Tryz.prog 43 #[.slice (some ⟨blk, off, none⟩) n cap, .int .i64 (n : Int), .func (.func g) #[] cb] w fun e w' => e = .returned (.tuple #[]) ∧ SoL (iv val) cf blk off d w w' := by
  by_cases h : n ≤ 20
  · exact stable_any (iv val) cf hS g cb blk off cap n d w eg hcmp R hd h
  · exact stable_more val cf hS g cb blk off cap n d w eg hcmp R hd (by omega) hn2
end
end Go.Proofs.YtmbjpjpdcmjjgaaGreatDoor
