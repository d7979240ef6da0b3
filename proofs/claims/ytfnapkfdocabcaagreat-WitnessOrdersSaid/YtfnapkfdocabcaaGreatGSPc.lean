import Derived.Test.YtfnapkfdocabcaaGreatGSPa
import Derived.Deep.DeepCutAuto
set_option linter.unusedVariables false
set_option linter.unusedSimpArgs false
set_option linter.unnecessarySimpa false
namespace Go.Proofs.YtfnapkfdocabcaaGreat
open Go.RowKit Go.Xt Go.Shelf Go.Sort
/-! symMergeCmpFunc, at a row of ints. -/
section
variable {α : Type} [Inhabited α]
/-- What is asked of a merge. -/
def MgP (val : α → Int) (cf : α → α → Int) (w0 : World) (blk off n a b : Nat) (d : Array α) (e : Ending) (w' : World) : Prop := e = .returned (.tuple #[]) ∧ ExP val w0 blk off n a b d (fun f => Asc (ltOf cf) f a b) w'
set_option maxRecDepth 20000 in
set_option maxHeartbeats 8000000 in
theorem symM_first (val : α → Int) (cf : α → α → Int) (hS : SWO (ltOf cf)) (g : Nat) (cb : Array Value) (blk off cap n : Nat) (d0 : Array α) (w0 : World)
    (eg : ∀ args w, (callFunc g args).run Tryz.prog w = .ok (.enter g args) w) (hcmp : CmpLays1 Tryz.prog g cb (iv val) cf blk off d0.size w0) (R : Row1 (iv val) w0 blk off d0) (hn0 : d0.size = n) (hn : n ≤ 1000000)
    (a m b : Nat) (d : Array α) (w : World) (hd : d.size = n) (S : SW (iv val) w0 blk off d w) (ham : a < m) (hmb : m < b) (hbn : b ≤ n) (h1 : Asc (ltOf cf) (atA d) a m) (h2 : Asc (ltOf cf) (atA d) m b) (h0 : m = a + 1) :
    Calls Tryz.prog 119 #[.slice (some ⟨blk, off, none⟩) n cap, .int .i64 a, .int .i64 m, .int .i64 b, .func (.func g) #[] cb] w (MgP val cf w0 blk off n a b d) := by
  have mixed : Tryz.prog.follows .mixedOrders = true := sortL.mixed
  rw [hn0] at hcmp
  have RR := Lib.hid R
  have HC := Lib.hid hcmp
  have HS0 := Lib.hid S
  have HD := Lib.hid (And.intro hd hn0)
  have HN := Lib.hid hn
  have HAB := Lib.hid (And.intro ham (And.intro hmb hbn))
  have HA1 := Lib.hid h1
  have HA2 := Lib.hid h2
  have H0 := Lib.hid h0
  have r0 : IntKind.i64.wrap ((m : Int) - (a : Int)) = 1 := by rw [IntKind.wrap_i64] <;> omega
  have r02 : wrap64 ((m : Int) - (a : Int)) = 1 := by unfold wrap64; omega
  clear R S hcmp hd hn0 hn ham hmb hbn h1 h2 h0
  go_enter Tryz.func119, Tryz.ntmps119
  go_upto_region 3 with (fail)
  clear r0 r02
  go_wp2_with fail
  go_loopw [10, 11] (fun x y wr => ∃ i j : Nat, x = .int .i64 i ∧ y = .int .i64 j ∧ m ≤ i ∧ i ≤ j ∧ j ≤ b ∧ Hid ((i = m ∨ ltOf cf d[i - 1]! d[a]! = true) ∧ (j = b ∨ ltOf cf d[j]! d[a]! = false) ∧ SW (iv val) w0 blk off d wr)) (fun x y _ => (intOf y).toNat - (intOf x).toNat)
  case atStart => exact ⟨m, b, rfl, rfl, Nat.le_refl _, by have := HAB.out; omega, Nat.le_refl _, Lib.hid ⟨.inl rfl, .inl rfl, HS0.out⟩⟩
  case round =>
    obtain ⟨i, j, rfl, rfl, hmi, hij, hjb, hst⟩ := hrel
    obtain ⟨hb1, hb2, hs⟩ := hst.out
    have hab := HAB.out
    have hnn := HN.out
    have hdd := HD.out
    have hm1 := H0.out
    by_cases hlt : i < j
    · have i1 : (i : Int) < (j : Int) := by omega
      obtain ⟨h, hh⟩ : ∃ h : Nat, h = (i + j) / 2 := ⟨_, rfl⟩
      have hhk : ((i : Int) + (j : Int)) / 2 = (h : Int) := by omega
      have hh1 : i ≤ h := by omega
      have hh2 : h < j := by omega
      have q1 : (h : Int) < (n : Int) := by omega
      have q2 : (0 : Int) ≤ (h : Int) := by omega
      have q3 : (a : Int) < (n : Int) := by omega
      have q4 : (0 : Int) ≤ (a : Int) := by omega
      have i3 : i < 1000000 := by omega
      have j3 : j < 1000000 + 1 := by omega
      obtain ⟨x1, hx1⟩ : ∃ z, z = d[h]! := ⟨_, rfl⟩
      obtain ⟨y1, hy1⟩ : ∃ z, z = d[a]! := ⟨_, rfl⟩
      have l1 := hs.cl RR.out (by omega) (h) (by omega)
      have l2 := hs.cl RR.out (by omega) (a) (by omega)
      rw [← hx1] at l1
      rw [← hy1] at l2
      have hc := hs.cmp HC.out (by omega) x1 y1
      have HS := Lib.hid hs
      have HB := Lib.hid (And.intro hb1 hb2)
      by_cases hv : cf x1 y1 < 0
      · have HV := Lib.hid (show ltOf cf d[h]! d[a]! = true by rw [← hx1, ← hy1]; exact decide_eq_true hv)
        have hd1 : decide (cf x1 y1 < 0) = true := decide_eq_true hv
        clear hst hb1 hb2 hs hab hdd hm1 hh hx1 hy1 hnn
        go_wp2_with fail
        go_quiet_grown (first | (go_at_fn g; refine Calls.grown_of (hc _ _)))
        have S2 := Lib.hid (HS.out.grown nq osq)
        clear l1 l2 hc
        generalize grow (wr.drewN nq) osq = w2 at S2 ⊢
        clear nq osq
        go_wp2
        exact ⟨⟨h + 1, j, by go_num, rfl, by omega, by omega, hjb, Lib.hid ⟨.inr (by rw [Nat.add_sub_cancel]; exact HV.out), HB.out.2, S2.out⟩⟩, by simp [intOf]; omega⟩
      · have HV := Lib.hid (show ltOf cf d[h]! d[a]! = false by rw [← hx1, ← hy1]; exact decide_eq_false hv)
        have hd1 : decide (cf x1 y1 < 0) = false := decide_eq_false hv
        clear hst hb1 hb2 hs hab hdd hm1 hh hx1 hy1 hnn
        go_wp2_with fail
        go_quiet_grown (first | (go_at_fn g; refine Calls.grown_of (hc _ _)))
        have S2 := Lib.hid (HS.out.grown nq osq)
        clear l1 l2 hc
        generalize grow (wr.drewN nq) osq = w2 at S2 ⊢
        clear nq osq
        go_wp2
        exact ⟨⟨i, h, rfl, by go_num, hmi, by omega, by omega, Lib.hid ⟨HB.out.1, .inr HV.out, S2.out⟩⟩, by simp [intOf]; omega⟩
    · obtain rfl : i = j := by omega
      have i1 : ¬ (i : Int) < (i : Int) := by omega
      obtain ⟨t, ht⟩ : ∃ t, t = i - 1 := ⟨_, rfl⟩
      have rt : IntKind.i64.wrap ((i : Int) - 1) = (t : Int) := by rw [IntKind.wrap_i64] <;> omega
      have rt2 : wrap64 ((i : Int) - 1) = (t : Int) := by unfold wrap64; omega
      have HT := Lib.hid ht
      have HI := Lib.hid (And.intro hmi hjb)
      have HB := Lib.hid (And.intro hb1 hb2)
      have HS := Lib.hid hs
      clear hst hb1 hb2 hs hab hnn hdd hm1 ht hlt
      go_wp2_with fail
      rename World => w9
      go_loopw [13] (fun x wr => ∃ k : Nat, x = .int .i64 k ∧ a ≤ k ∧ k ≤ t ∧ Hid (∃ e : Array α, e.size = n ∧ PermIn a b d e ∧ Rot (atA d) (atA e) a (a + 1) (k + 1) ∧ SW (iv val) w0 blk off e wr)) (fun x _ => t - (intOf x).toNat)
      case atStart => exact ⟨a, rfl, Nat.le_refl _, by have := HT.out; have := HI.out; have := H0.out; omega, Lib.hid ⟨d, HD.out.1, permIn_refl _ _ _, Rot.none _ _ _ (by omega), HS.out⟩⟩
      case round =>
        obtain ⟨k, rfl, hak, hkt, hst⟩ := hrel
        obtain ⟨e, hsz, hp, hr, hs⟩ := hst.out
        have hab := HAB.out
        have hnn := HN.out
        have hdd := HD.out
        have hm1 := H0.out
        have htt := HT.out
        have hii := HI.out
        by_cases hkl : k < t
        · have k1 : (k : Int) < (t : Int) := by omega
          obtain ⟨k2, hk2⟩ : ∃ q, q = k + 1 := ⟨_, rfl⟩
          have r1 : IntKind.i64.wrap ((k : Int) + 1) = (k2 : Int) := by rw [IntKind.wrap_i64] <;> omega
          have p1 : (0 : Int) ≤ (k : Int) := by omega
          have p2 : (k : Int) < (n : Int) := by omega
          have q1 : (0 : Int) ≤ (k2 : Int) := by omega
          have q2 : (k2 : Int) < (n : Int) := by omega
          have i3 : k < 1000000 := by omega
          obtain ⟨x, hx1⟩ : ∃ x, x = val e[k]! := ⟨_, rfl⟩
          obtain ⟨y, hy1⟩ : ∃ y, y = val e[k2]! := ⟨_, rfl⟩
          have c1 : wr.cell? ⟨blk, off + k, none⟩ = some (.int .i64 x) := by rw [hx1]; exact hs.c1 RR.out (by omega) k (by omega)
          have c2 : wr.cell? ⟨blk, off + k2, none⟩ = some (.int .i64 y) := by rw [hy1]; exact hs.c1 RR.out (by omega) k2 (by omega)
          have f1 := hs.f1 RR.out (by omega) k (by omega)
          have f2 := hs.f1 RR.out (by omega) k2 (by omega)
          obtain ⟨u, c3⟩ := hs.c2 RR.out (by omega) k k2 (by omega) (by omega) (.int .i64 y)
          have S2 : SW (iv val) w0 blk off (swp e k k2) ((wr.setCell ⟨blk, off + k, none⟩ (.int .i64 y)).setCell ⟨blk, off + k2, none⟩ (.int .i64 x)).drew := by rw [hx1, hy1]; exact hs.swapped RR.out k k2 (by omega) (by omega)
          have HFIN := Lib.hid (show ∃ e2 : Array α, e2.size = n ∧ PermIn a b d e2 ∧ Rot (atA d) (atA e2) a (a + 1) (k + 1 + 1) ∧ SW (iv val) w0 blk off e2 ((wr.setCell ⟨blk, off + k, none⟩ (.int .i64 y)).setCell ⟨blk, off + k2, none⟩ (.int .i64 x)).drew from
            ⟨swp e k k2, by rw [size_swp]; exact hsz, permIn_trans _ _ _ _ _ hp (swp_permIn e a b k k2 (by omega) (by omega) (by omega) (by omega) (by omega)), rot_up hak hr (by rw [← hk2]; exact swp_ex e (by omega) (by omega) (by omega)), S2⟩)
          have HK := Lib.hid hk2
          clear hst hsz hp hr hs hab hnn hdd hm1 htt hii hx1 hy1 S2 hk2
          go_wp2_with fail
          go_big_region_o
          clear c1 c2 c3 f1 f2
          obtain ⟨W2, hW2⟩ : ∃ W, W = ((wr.setCell ⟨blk, off + k, none⟩ (.int .i64 y)).setCell ⟨blk, off + k2, none⟩ (.int .i64 x)).drew := ⟨_, rfl⟩
          rw [← hW2] at HFIN ⊢
          clear hW2
          clear p1 p2 q1 q2 r1
          have r1 : IntKind.i64.wrap ((k : Int) + 1) = (k : Int) + 1 := by rw [IntKind.wrap_i64]; omega
          go_wp2
          exact ⟨⟨k + 1, by go_num, by omega, by omega, HFIN⟩, by simp [intOf]; omega⟩
        · obtain rfl : k = t := by omega
          have k1 : ¬ (k : Int) < (k : Int) := by omega
          have HFIN := Lib.hid (show ExP val w0 blk off n a b d (fun f => Asc (ltOf cf) f a b) wr from
            ⟨e, hsz, hp, asc_first hS (f := atA d) (i := i) (by have := HA2.out; rw [hm1] at this; exact this) (by omega) (by rcases HB.out.1 with h | h; exact .inl (by omega); exact .inr h) HB.out.2 (by rw [htt, show i - 1 + 1 = i by omega] at hr; exact hr), hs⟩)
          clear hst hsz hp hr hs hab hnn hdd hm1 htt hii
          go_wp2
          go_end0
          exact ⟨rfl, HFIN.out⟩
set_option maxRecDepth 20000 in
set_option maxHeartbeats 8000000 in
theorem symM_last (val : α → Int) (cf : α → α → Int) (hS : SWO (ltOf cf)) (g : Nat) (cb : Array Value) (blk off cap n : Nat) (d0 : Array α) (w0 : World)
    (eg : ∀ args w, (callFunc g args).run Tryz.prog w = .ok (.enter g args) w) (hcmp : CmpLays1 Tryz.prog g cb (iv val) cf blk off d0.size w0) (R : Row1 (iv val) w0 blk off d0) (hn0 : d0.size = n) (hn : n ≤ 1000000)
    (a m b : Nat) (d : Array α) (w : World) (hd : d.size = n) (S : SW (iv val) w0 blk off d w) (ham : a < m) (hmb : m < b) (hbn : b ≤ n) (h1 : Asc (ltOf cf) (atA d) a m) (h2 : Asc (ltOf cf) (atA d) m b) (h0 : b = m + 1) (hma : a + 1 < m) :
    Calls Tryz.prog 119 #[.slice (some ⟨blk, off, none⟩) n cap, .int .i64 a, .int .i64 m, .int .i64 b, .func (.func g) #[] cb] w (MgP val cf w0 blk off n a b d) := by
  have mixed : Tryz.prog.follows .mixedOrders = true := sortL.mixed
  rw [hn0] at hcmp
  have RR := Lib.hid R
  have HC := Lib.hid hcmp
  have HS0 := Lib.hid S
  have HD := Lib.hid (And.intro hd hn0)
  have HN := Lib.hid hn
  have HAB := Lib.hid (And.intro ham (And.intro hmb hbn))
  have HA1 := Lib.hid h1
  have HA2 := Lib.hid h2
  have H0 := Lib.hid (And.intro h0 hma)
  obtain ⟨i0, hi0⟩ : ∃ i, i = m - a := ⟨_, rfl⟩
  have r0 : IntKind.i64.wrap ((m : Int) - (a : Int)) = (i0 : Int) := by rw [IntKind.wrap_i64] <;> omega
  have r02 : wrap64 ((m : Int) - (a : Int)) = (i0 : Int) := by unfold wrap64; omega
  have r1 : IntKind.i64.wrap ((b : Int) - (m : Int)) = 1 := by rw [IntKind.wrap_i64] <;> omega
  have r12 : wrap64 ((b : Int) - (m : Int)) = 1 := by unfold wrap64; omega
  have r2 : ((i0 : Int) == 1) = false := by simp; omega
  have r3 : ¬ (i0 : Int) = 1 := by omega
  clear R S hcmp hd hn0 hn ham hmb hbn h1 h2 h0 hma hi0
  go_enter Tryz.func119, Tryz.ntmps119
  go_upto_region 15 with (fail)
  clear r0 r02 r1 r12 r2 r3
  go_wp2_with fail
  go_loopw [14, 15] (fun x y wr => ∃ i j : Nat, x = .int .i64 i ∧ y = .int .i64 j ∧ a ≤ i ∧ i ≤ j ∧ j ≤ m ∧ Hid ((i = a ∨ ltOf cf d[m]! d[i - 1]! = false) ∧ (j = m ∨ ltOf cf d[m]! d[j]! = true) ∧ SW (iv val) w0 blk off d wr)) (fun x y _ => (intOf y).toNat - (intOf x).toNat)
  case atStart => exact ⟨a, m, rfl, rfl, Nat.le_refl _, by have := HAB.out; omega, Nat.le_refl _, Lib.hid ⟨.inl rfl, .inl rfl, HS0.out⟩⟩
  case round =>
    obtain ⟨i, j, rfl, rfl, hmi, hij, hjb, hst⟩ := hrel
    obtain ⟨hb1, hb2, hs⟩ := hst.out
    have hab := HAB.out
    have hnn := HN.out
    have hdd := HD.out
    have hm1 := H0.out
    by_cases hlt : i < j
    · have i1 : (i : Int) < (j : Int) := by omega
      obtain ⟨h, hh⟩ : ∃ h : Nat, h = (i + j) / 2 := ⟨_, rfl⟩
      have hhk : ((i : Int) + (j : Int)) / 2 = (h : Int) := by omega
      have hh1 : i ≤ h := by omega
      have hh2 : h < j := by omega
      have q1 : (h : Int) < (n : Int) := by omega
      have q2 : (0 : Int) ≤ (h : Int) := by omega
      have q3 : (m : Int) < (n : Int) := by omega
      have q4 : (0 : Int) ≤ (m : Int) := by omega
      have i3 : i < 1000000 := by omega
      have j3 : j < 1000000 + 1 := by omega
      obtain ⟨x1, hx1⟩ : ∃ z, z = d[m]! := ⟨_, rfl⟩
      obtain ⟨y1, hy1⟩ : ∃ z, z = d[h]! := ⟨_, rfl⟩
      have l1 := hs.cl RR.out (by omega) (m) (by omega)
      have l2 := hs.cl RR.out (by omega) (h) (by omega)
      rw [← hx1] at l1
      rw [← hy1] at l2
      have hc := hs.cmp HC.out (by omega) x1 y1
      have HS := Lib.hid hs
      have HB := Lib.hid (And.intro hb1 hb2)
      by_cases hv : cf x1 y1 < 0
      · have HV := Lib.hid (show ltOf cf d[m]! d[h]! = true by rw [← hx1, ← hy1]; exact decide_eq_true hv)
        have hd1 : decide (cf x1 y1 < 0) = true := decide_eq_true hv
        clear hst hb1 hb2 hs hab hdd hm1 hh hx1 hy1 hnn
        go_wp2_with fail
        go_quiet_grown (first | (go_at_fn g; refine Calls.grown_of (hc _ _)))
        have S2 := Lib.hid (HS.out.grown nq osq)
        clear l1 l2 hc
        generalize grow (wr.drewN nq) osq = w2 at S2 ⊢
        clear nq osq
        go_wp2
        exact ⟨⟨i, h, rfl, by go_num, hmi, by omega, by omega, Lib.hid ⟨HB.out.1, .inr HV.out, S2.out⟩⟩, by simp [intOf]; omega⟩
      · have HV := Lib.hid (show ltOf cf d[m]! d[h]! = false by rw [← hx1, ← hy1]; exact decide_eq_false hv)
        have hd1 : decide (cf x1 y1 < 0) = false := decide_eq_false hv
        clear hst hb1 hb2 hs hab hdd hm1 hh hx1 hy1 hnn
        go_wp2_with fail
        go_quiet_grown (first | (go_at_fn g; refine Calls.grown_of (hc _ _)))
        have S2 := Lib.hid (HS.out.grown nq osq)
        clear l1 l2 hc
        generalize grow (wr.drewN nq) osq = w2 at S2 ⊢
        clear nq osq
        go_wp2
        exact ⟨⟨h + 1, j, by go_num, rfl, by omega, by omega, hjb, Lib.hid ⟨.inr (by rw [Nat.add_sub_cancel]; exact HV.out), HB.out.2, S2.out⟩⟩, by simp [intOf]; omega⟩
    · obtain rfl : i = j := by omega
      have i1 : ¬ (i : Int) < (i : Int) := by omega
      have HI := Lib.hid (And.intro hmi hjb)
      have HB := Lib.hid (And.intro hb1 hb2)
      have HS := Lib.hid hs
      clear hst hb1 hb2 hs hab hnn hdd hm1 hlt
      go_wp2_with fail
      rename World => w9
      go_loopw [17] (fun x wr => ∃ k : Nat, x = .int .i64 k ∧ i ≤ k ∧ k ≤ m ∧ Hid (∃ e : Array α, e.size = n ∧ PermIn a b d e ∧ Rot (atA d) (atA e) k m (m + 1) ∧ SW (iv val) w0 blk off e wr)) (fun x _ => (intOf x).toNat)
      case atStart => exact ⟨m, rfl, by have := HI.out; omega, Nat.le_refl _, Lib.hid ⟨d, HD.out.1, permIn_refl _ _ _, Rot.same _ _ _, HS.out⟩⟩
      case round =>
        obtain ⟨k, rfl, hik, hkm, hst⟩ := hrel
        obtain ⟨e, hsz, hp, hr, hs⟩ := hst.out
        have hab := HAB.out
        have hnn := HN.out
        have hdd := HD.out
        have hm1 := H0.out
        have hii := HI.out
        by_cases hkl : i < k
        · have k1 : (i : Int) < (k : Int) := by omega
          obtain ⟨k2, hk2⟩ : ∃ q, q = k - 1 := ⟨_, rfl⟩
          have r1 : IntKind.i64.wrap ((k : Int) - 1) = (k2 : Int) := by rw [IntKind.wrap_i64] <;> omega
          have r12 : wrap64 ((k : Int) - 1) = (k2 : Int) := by unfold wrap64; omega
          have p1 : (0 : Int) ≤ (k : Int) := by omega
          have p2 : (k : Int) < (n : Int) := by omega
          have q1 : (0 : Int) ≤ (k2 : Int) := by omega
          have q2 : (k2 : Int) < (n : Int) := by omega
          have i3 : k < 1000000 := by omega
          obtain ⟨x, hx1⟩ : ∃ x, x = val e[k]! := ⟨_, rfl⟩
          obtain ⟨y, hy1⟩ : ∃ y, y = val e[k2]! := ⟨_, rfl⟩
          have c1 : wr.cell? ⟨blk, off + k, none⟩ = some (.int .i64 x) := by rw [hx1]; exact hs.c1 RR.out (by omega) k (by omega)
          have c2 : wr.cell? ⟨blk, off + k2, none⟩ = some (.int .i64 y) := by rw [hy1]; exact hs.c1 RR.out (by omega) k2 (by omega)
          have f1 := hs.f1 RR.out (by omega) k (by omega)
          have f2 := hs.f1 RR.out (by omega) k2 (by omega)
          obtain ⟨u, c3⟩ := hs.c2 RR.out (by omega) k k2 (by omega) (by omega) (.int .i64 y)
          have S2 : SW (iv val) w0 blk off (swp e k k2) ((wr.setCell ⟨blk, off + k, none⟩ (.int .i64 y)).setCell ⟨blk, off + k2, none⟩ (.int .i64 x)).drew := by rw [hx1, hy1]; exact hs.swapped RR.out k k2 (by omega) (by omega)
          have HFIN := Lib.hid (show ∃ e2 : Array α, e2.size = n ∧ PermIn a b d e2 ∧ Rot (atA d) (atA e2) k2 m (m + 1) ∧ SW (iv val) w0 blk off e2 ((wr.setCell ⟨blk, off + k, none⟩ (.int .i64 y)).setCell ⟨blk, off + k2, none⟩ (.int .i64 x)).drew from
            ⟨swp e k k2, by rw [size_swp]; exact hsz, permIn_trans _ _ _ _ _ hp (swp_permIn e a b k k2 (by omega) (by omega) (by omega) (by omega) (by omega)), rot_down (by omega) (by rw [show k2 + 1 = k by omega]; exact hr) (by rw [show k2 + 1 = k by omega]; exact swp_ex e (by omega) (by omega) (by omega)), S2⟩)
          have HK := Lib.hid hk2
          clear hst hsz hp hr hs hab hnn hdd hm1 hii hx1 hy1 S2 hk2
          go_wp2_with fail
          go_big_region_o
          clear c1 c2 c3 f1 f2
          obtain ⟨W2, hW2⟩ : ∃ W, W = ((wr.setCell ⟨blk, off + k, none⟩ (.int .i64 y)).setCell ⟨blk, off + k2, none⟩ (.int .i64 x)).drew := ⟨_, rfl⟩
          rw [← hW2] at HFIN ⊢
          clear hW2
          clear p1 p2 q1 q2
          go_wp2
          exact ⟨⟨k2, by first | rfl | go_num, by have := HK.out; omega, by have := HK.out; omega, HFIN⟩, by have := HK.out; simp [intOf]; omega⟩
        · obtain rfl : k = i := by omega
          have k1 : ¬ (k : Int) < (k : Int) := by omega
          have HFIN := Lib.hid (show ExP val w0 blk off n a b d (fun f => Asc (ltOf cf) f a b) wr from
            ⟨e, hsz, hp, by rw [hm1.1]; exact asc_last hS (f := atA d) (i := k) HA1.out (by omega) HB.out.1 HB.out.2 hr, hs⟩)
          clear hst hsz hp hr hs hab hnn hdd hm1 hii
          go_wp2
          go_end0
          exact ⟨rfl, HFIN.out⟩
end
end Go.Proofs.YtfnapkfdocabcaaGreat
