import Derived.Test.YtmbjpjpdcmjjgaaGreatDoorGKh
set_option linter.unusedVariables false
set_option linter.unusedSimpArgs false
set_option linter.unnecessarySimpa false
namespace Go.Proofs.YtmbjpjpdcmjjgaaGreatDoor
open Go.RowKit Go.Xt
/-! The walk of the search's closure. -/
theorem Sr.at_ {W0 W : World} {l : List Cl} {A : Option Addr} {n cap sb vb : Nat} {B : Option Addr} {cb bs by_ bo bq c0 c1 yk : Nat} (h : Sr W0 l A n cap sb vb B cb bs by_ bo bq c0 c1 yk) (hc : Chg [bo, vb, c0, c1] W0 W) :
    W.cell? ⟨sb, 0, none⟩ = some (.slice A n cap) ∧ W.cell? ⟨sb, 2, none⟩ = some (.slice B n cb) ∧ W.cell? ⟨sb, 3, none⟩ = some (.int .i64 (mu l : Nat)) ∧ W.cell? ⟨sb, 4, none⟩ = some (.map (some vb)) ∧ W.cell? ⟨bs, 0, none⟩ = some (.pointer (some ⟨sb, 0, none⟩)) ∧
    W.cell? ⟨by_, 0, none⟩ = some (.func (.func yk) #[] #[.pointer (some ⟨c0, 0, none⟩), .pointer (some ⟨c1, 0, none⟩)]) ∧ W.cell? ⟨bq, 0, none⟩ = some (.func (.func 35) #[] #[.pointer (some ⟨bs, 0, none⟩), .pointer (some ⟨by_, 0, none⟩), .pointer (some ⟨bo, 0, none⟩), .pointer (some ⟨bq, 0, none⟩)]) :=
  ⟨hc.cell h.s0 (h.x1 _ (by simp)), hc.cell h.s2 (h.x1 _ (by simp)), hc.cell h.s3 (h.x1 _ (by simp)), hc.cell h.s4 (h.x1 _ (by simp)), hc.cell h.b1 (h.x1 _ (by simp)), hc.cell h.b2 (h.x1 _ (by simp)), hc.cell h.b3 (h.x1 _ (by simp))⟩
theorem Sr.calls {W0 W : World} {l : List Cl} {A : Option Addr} {n cap sb vb : Nat} {B : Option Addr} {cb bs by_ bo bq c0 c1 yk : Nat} (h : Sr W0 l A n cap sb vb B cb bs by_ bo bq c0 c1 yk) (hc : Chg [bo, vb, c0, c1] W0 W) : Cs W A n l := h.hl.chg hc h.x2
theorem Sr.rows {W0 W : World} {l : List Cl} {A : Option Addr} {n cap sb vb : Nat} {B : Option Addr} {cb bs by_ bo bq c0 c1 yk : Nat} (h : Sr W0 l A n cap sb vb B cb bs by_ bo bq c0 c1 yk) (hc : Chg [bo, vb, c0, c1] W0 W) : Is W B n ((List.range n).map fun i => (bm l i : Int)) := h.row.chg hc h.x3
theorem keyB_small {s : Md} {N : Nat} (hok : s.Ok N) (hN : N ≤ 500000) (hnu : s.Nums) : (⟨(keyB s).toArray⟩ : ByteArray).size ≤ maxLen := by
  have hl := hok.len
  have ht := hok.thn
  have h1 := numK_len (z := s.slots) (by have := hnu.1; omega)
  have h2 := numK_len (z := (s.th.length : Int)) (by omega)
  have h3 := flat_len thK 60 s.th (fun x hx => thK_len (hnu.2 x hx))
  have h4 := flat_len prK 42 s.l (fun x hx => by
    have h5 := hok.u64 x hx
    have h6 := numK_len (z := x.1) h5.1
    have h7 := numK_len (z := x.2) h5.2
    unfold prK
    simp only [List.length_append]
    omega)
  unfold maxLen
  show (keyB s).toArray.size ≤ _
  rw [List.size_toArray]
  unfold keyB
  simp only [List.length_append]
  omega
theorem Ss.two {W0 W W2 : World} {l : List Cl} {bo vb c0 c1 : Nat} {o : List Nat} {v : Value} {cnt : Nat} (h : Ss W0 l bo vb c0 c1 o v cnt W) (hc : Chg [c0, c1] W W2) (hx : bo ≠ vb ∧ bo ≠ c0 ∧ bo ≠ c1 ∧ vb ≠ c0 ∧ vb ≠ c1) (h0 : c0 < W0.heap.size) (h1 : c1 < W0.heap.size) : Ss W0 l bo vb c0 c1 o v cnt W2 :=
  ⟨h.chg.trans (hc.le (fun k hk => by simp at hk ⊢; omega)), hc.cell h.ob (by simp; omega), (hc.frozen (World.block_lt_of_cell? W _ h.ob) (by simp; omega)).trans h.oz, OwnI.chg h.own hc (fun g hg => by have := (h.own.lt g hg).1; simp; omega), h.vn.chg hc (by simp; omega)⟩
theorem OwnI.form2 {w : World} {base : Nat} {v : Value} {l : List Int} (h : OwnI w base v l) : ∃ A c, v = .slice A l.length c ∧ Is w A l.length l ∧ l.length ≤ c ∧ c ≤ maxLen := by
  obtain ⟨A, c, h1, h2⟩ := h.form
  rcases h.2 with ⟨h3, h4⟩ | ⟨g, cap, cur, h3, _, _, h5, h6, _⟩
  · refine ⟨A, c, h1, h2, ?_, ?_⟩
    · omega
    · rw [h1] at h3; injection h3 with _ _ h3; unfold maxLen; omega
  · refine ⟨A, c, h1, h2, ?_, ?_⟩
    · rw [h1] at h3; injection h3 with _ _ h3; omega
    · rw [h1] at h3; injection h3 with _ _ h3; omega
theorem own_at {W : World} {base : Nat} {v : Value} {l : List Int} (h : OwnI W base v l) {k : Nat} (hk : k < base) : k ∉ v.ownBlock.toList := fun hm => by
  have := (h.lt k (by simpa using hm)).1; omega
theorem Ss.push {W0 Wn wA : World} {l : List Cl} {bo vb c0 c1 i : Nat} {o : List Nat} {v v2 : Value} {cnt : Nat} (h : Ss W0 l bo vb c0 c1 o v cnt Wn) (hcA : Chg v.ownBlock.toList Wn wA) (hA : OwnI wA W0.heap.size v2 (natI (o ++ [i]))) (hx : bo ≠ vb) (hlo : bo < W0.heap.size) (hlv : vb < W0.heap.size) :
    Ss W0 l bo vb c0 c1 (o ++ [i]) v2 cnt (wA.setCell ⟨bo, 0, none⟩ v2) :=
  ⟨((h.chg.then hcA fun g hg => .inr (h.own.lt g (by simpa using hg)).1).trans ((Chg.set1 wA bo 0 v2).le (by simp))),
    World.cell?_setCell_same' _ _ _ (by rw [hcA.cell h.ob (own_at h.own hlo)]; rfl), by rw [World.frozen?_setCell]; exact (hcA.frozen (World.block_lt_of_cell? Wn _ h.ob) (own_at h.own hlo)).trans h.oz,
    OwnI.chg hA (Chg.set1 wA bo 0 v2) (fun g hg => by have := (hA.lt g hg).1; simp; omega), (h.vn.chg hcA (own_at h.own hlv)).chg (Chg.set1 wA bo 0 v2) (by simp; omega)⟩
theorem Ss.pop {W0 W5 : World} {l : List Cl} {bo vb c0 c1 i k c3 : Nat} {A3 : Option Addr} {o : List Nat} {cnt : Nat} (h : Ss W0 l bo vb c0 c1 (o ++ [i]) (.slice A3 (k + 1) c3) cnt W5) (hk : o.length = k) (hx : bo ≠ vb) (hlo : bo < W0.heap.size) :
    Ss W0 l bo vb c0 c1 o (.slice A3 k c3) cnt (W5.setCell ⟨bo, 0, none⟩ (.slice A3 k c3)) := by
  have hp : OwnI W5 W0.heap.size (.slice A3 k c3) (natI o) := own_pop (x := (i : Int)) (by have := h.own; rw [natI_app] at this; exact this) (by rw [natI_len]; exact hk)
  exact ⟨h.chg.trans ((Chg.set1 W5 bo 0 _).le (by simp)), World.cell?_setCell_same' _ _ _ (by rw [h.ob]; rfl), by rw [World.frozen?_setCell]; exact h.oz,
    OwnI.chg hp (Chg.set1 W5 bo 0 _) (fun g hg => by have := (hp.lt g hg).1; simp; omega), h.vn.chg (Chg.set1 W5 bo 0 _) (by simp; omega)⟩
theorem own_slice_pop {A3 : Option Addr} {k c3 : Nat} : (Value.slice A3 k c3).ownBlock = (Value.slice A3 (k + 1) c3).ownBlock := by cases A3 <;> rfl
section
variable (go : List (List Nat) → Bool) (J : List (List Nat) → Value → World → Prop)
variable {go J} in
theorem Li.skip {W0 W1 wr wr' : World} {l : List Cl} {bo vb c0 c1 f : Nat} {o : List Nat} {s : Md} {ys : List (List Nat)} {v0 : Value} {cnt0 i : Nat} {sm : Bool} {v : Value} {zs : List (List Nat)} {cnt : Nat} (hJ : ∀ ys W W' v v' X, J ys v W → Chg X W W' → (∀ k ∈ X, k = bo ∨ k = vb ∨ v.ownBlock = some k) → (∀ k, v'.ownBlock = some k → v.ownBlock = some k ∨ W.heap.size ≤ k) → J ys v' W')
    (h : Li go J W0 W1 l bo vb c0 c1 f o s ys v0 cnt0 i sm wr v zs cnt) (e : upTo l f o s (i + 1) = upTo l f o s i) (hn : Nw wr wr') : Li go J W0 W1 l bo vb c0 c1 f o s ys v0 cnt0 (i + 1) sm wr' v zs cnt :=
  ⟨by rw [e]; exact h.came, h.sm_, h.st.nw hn, by have := h.cb; rw [Nat.succ_mul]; omega, hJ _ _ _ _ _ [] h.j (Chg.of_nw hn) (by simp) (fun _ h => .inl h), h.chg.trans (Chg.of_nw hn), h.mv⟩
set_option maxRecDepth 20000 in
set_option maxHeartbeats 64000000 in
theorem from_step (W0 : World) (l : List Cl) (A : Option Addr) (n cap sb vb : Nat) (B : Option Addr) (cb bs by_ bo bq c0 c1 yk : Nat) (hS : Sr W0 l A n cap sb vb B cb bs by_ bo bq c0 c1 yk) (hyk : ∀ args W, (callFunc yk args).run Tryz.prog W = .ok (.enter yk args) W)
    (hJ : ∀ ys W W' v v' X, J ys v W → Chg X W W' → (∀ k ∈ X, k = bo ∨ k = vb ∨ v.ownBlock = some k) → (∀ k, v'.ownBlock = some k → v.ownBlock = some k ∨ W.heap.size ≤ k) → J ys v' W') (hY : YieldC go J W0 l bo vb c0 c1 yk) (f : Nat) (IH : ∀ f', f = f' + 1 → FromC go J W0 l bs by_ bo bq vb c0 c1 f') : FromC go J W0 l bs by_ bo bq vb c0 c1 f := by
  intro o s D W v p cnt ys hlen hord hmsk hst hj hms hpx hcnt
  have hln : l.length = n := hS.hl.1
  have h10 := hS.hn
  obtain ⟨z, hz⟩ : ∃ z : ByteArray, z = ⟨(keyB s).toArray⟩ := ⟨_, rfl⟩
  have HZL := Lib.hid (show z.size ≤ maxLen by rw [hz]; exact keyB_small hms.ok (by omega) hms.nums)
  have hK := key_M W p s hms.at_ hms.ok (by omega) hms.nums (hS.fmt W hst.chg)
  rw [← hz] at hK
  obtain ⟨gm, hgm⟩ : ∃ g, g = p.gm := ⟨_, rfl⟩
  rw [← hgm] at hK ⊢
  have HK := Lib.hid hK
  have HS := Lib.hid hS
  have HYK := Lib.hid hyk
  have HJ := Lib.hid hJ
  have HY := Lib.hid hY
  have HIH := Lib.hid IH
  have HLEN := Lib.hid hlen
  have HLN := Lib.hid hln
  have H10 := Lib.hid h10
  have HORD := Lib.hid hord
  have HMSK := Lib.hid hmsk
  have HST := Lib.hid hst
  have HJ0 := Lib.hid hj
  have HMS := Lib.hid hms
  have HPX := Lib.hid hpx
  have HCNT := Lib.hid hcnt
  have HZ := Lib.hid hz
  have HGM := Lib.hid hgm
  haveI : In gm W := ⟨hgm ▸ hms.at_.im⟩
  obtain ⟨i0, i2, i3, i4, i5, i6, i7⟩ := HS.out.at_ HST.out.chg
  have i9 := HST.out.ob
  have iz := HST.out.oz
  haveI : In sb W := ⟨World.block_lt_of_cell? W _ i0⟩
  haveI : In bs W := ⟨World.block_lt_of_cell? W _ i5⟩
  haveI : In by_ W := ⟨World.block_lt_of_cell? W _ i6⟩
  haveI : In bq W := ⟨World.block_lt_of_cell? W _ i7⟩
  haveI : In bo W := ⟨World.block_lt_of_cell? W _ i9⟩
  clear hK hS hyk hJ hY IH hlen hln h10 hord hmsk hst hj hms hpx hcnt hz hgm
  go_enter Tryz.func35, Tryz.ntmps35
  go_wp2_with fail
  refine HK.out.mono ?_
  rintro e Wk ⟨rfl, hnk⟩
  obtain ⟨q, hq⟩ : ∃ q, q = Wk.heap.size := ⟨_, rfl⟩
  obtain ⟨W1, hW1⟩ : ∃ w, w = Wk.alloc (.cells #[.int .i64 (D : Int), .string z] 83) := ⟨_, rfl⟩
  have hn1 : Nw W W1 := by rw [hW1]; exact hnk.alloc _
  have hst1 := HST.out.nw hn1
  have q0 : W1.cell? ⟨q, 0, none⟩ = some (.int .i64 (D : Int)) := by rw [hW1, hq, World.cell?_alloc_new]; rfl
  have q1 : W1.cell? ⟨q, 1, none⟩ = some (.string z) := by rw [hW1, hq, World.cell?_alloc_new]; rfl
  have HQ := Lib.hid (show W.heap.size ≤ q by rw [hq]; exact hnk.grown.size)
  have HW1 := Lib.hid hW1
  have HQQ := Lib.hid hq
  have HN1 := Lib.hid hn1
  have HST1 := Lib.hid hst1
  clear hW1 hq hnk hn1 hst1
  go_upto_region 2 with (fail)
  rw [← HW1.out, ← HQQ.out]
  clear i0 i2 i3 i4 i5 i6 i7 i9 iz
  obtain ⟨i0, i2, i3, i4, i5, i6, i7⟩ := HS.out.at_ HST1.out.chg
  have i9 := HST1.out.ob
  have iz := HST1.out.oz
  haveI : In sb W1 := ⟨World.block_lt_of_cell? W1 _ i0⟩
  haveI : In bs W1 := ⟨World.block_lt_of_cell? W1 _ i5⟩
  haveI : In by_ W1 := ⟨World.block_lt_of_cell? W1 _ i6⟩
  haveI : In bq W1 := ⟨World.block_lt_of_cell? W1 _ i7⟩
  haveI : In bo W1 := ⟨World.block_lt_of_cell? W1 _ i9⟩
  haveI : In q W1 := ⟨World.block_lt_of_cell? W1 _ q0⟩
  obtain ⟨bv, hbv, hlk⟩ := vain_look HST1.out.vn HMSK.out.1 HZL.out
  have hlk1 := hlk W1.drew (Nw.drew (Nw.refl _))
  have HBV := Lib.hid hbv
  clear hbv hlk
  cases bv with
  | true =>
    go_still_tail 5, (by kernel_rfl)
    go_wp2
    have hnone := Vn.none HMSK.out HORD.out HMS.out.nums HMS.out.ok.u64 (HZ.out ▸ HBV.out (by simp))
    refine bodyPost_ret (results_tmp2 rfl _ _ _) rfl ⟨false, true, v, cnt, [], rfl, ?_, fun _ => rfl, HST1.out.nw (Nw.drew (Nw.refl _)), by omega, ?_, Chg.of_nw (Nw.drew HN1.out), fun k hk => .inl hk⟩
    · have e : l.length + 1 - o.length = f + 1 := by have := HLEN.out; omega
      rw [e] at hnone
      rw [hnone]
      exact Came.nil go ys
    · rw [List.append_nil]
      exact HJ.out ys W _ v v [] HJ0.out (Chg.of_nw (Nw.drew HN1.out)) (by simp) (fun _ h => .inl h)
  | false =>
    go_still_tail 5, (by kernel_rfl)
    go_wp2
    have hmu : mu l < 1048576 := mk_lt20 _ (by have := HLN.out; have := H10.out; omega)
    have hand := bits_and64 D (mu l) (by have := HMSK.out.1; omega) (by omega)
    have HEX := Lib.hid (show exts l (f + 1) o s = (if fullB l o then [o] else []) ++ (List.range l.length).flatMap (fun i => if mayB l o i then match l[i]?.bind (nextM s) with | some s' => exts l f (o ++ [i]) s' | none => [] else []) from rfl)
    have HQV := Lib.hid (show ∀ k ∈ [bo, vb, c0, c1] ++ v.ownBlock.toList, k < W.heap.size by
      intro k hk
      have hsz := HST.out.chg.size
      have e0 := HS.out.lo
      have e1 := HS.out.lv
      have e2 := HS.out.l0
      have e3 := HS.out.l1
      simp only [List.mem_append, List.mem_cons, List.not_mem_nil, or_false, Option.mem_toList] at hk
      rcases hk with (rfl | rfl | rfl | rfl) | hk
      · omega
      · omega
      · omega
      · omega
      · exact (HST.out.own.lt k hk).2)
    by_cases hfull : fullB l o = true
    · have hm := (mu_iff HMSK.out).2 hfull
      rw [hm] at hand
      have hc : ((mu l : Nat) : Int) = ((mu l : Nat) : Int) := rfl
      have HFU := Lib.hid hfull
      clear hfull hm
      go_region
      go_wp2_with fail
      rw [HYK.out, Oper.upon_enter]
      have hd2 : Nw W1 W1.drew.drew := Nw.drew (Nw.drew (Nw.refl _))
      obtain ⟨gb, hgb⟩ : ∃ b, go (ys ++ [o]) = b := ⟨_, rfl⟩
      have hy := HY.out ys o W1.drew.drew v cnt (HJ.out ys W _ v v [] HJ0.out (Chg.of_nw (HN1.out.trans hd2)) (by simp) (fun _ h => .inl h)) (HST1.out.nw hd2) (by have := HLEN.out; have := HLN.out; have := H10.out; omega)
      rw [hgb] at hy
      refine hy.mono ?_
      rintro e W2 ⟨rfl, hj2, hc2⟩
      have HJ2 := Lib.hid hj2
      have HC2 := Lib.hid ((Chg.of_nw hd2 : Chg [c0, c1] _ _).trans hc2)
      have HGB := Lib.hid hgb
      clear hy hj2 hgb hc2 hd2
      have HST2 := Lib.hid (HST1.out.two HC2.out HS.out.x4 HS.out.l0 HS.out.l1)
      clear i0 i2 i3 i4 i5 i6 i7 i9 iz
      obtain ⟨i0, i2, i3, i4, i5, i6, i7⟩ := HS.out.at_ HST2.out.chg
      have i9 := HST2.out.ob
      have iz := HST2.out.oz
      haveI : In sb W2 := ⟨World.block_lt_of_cell? W2 _ i0⟩
      haveI : In bs W2 := ⟨World.block_lt_of_cell? W2 _ i5⟩
      haveI : In by_ W2 := ⟨World.block_lt_of_cell? W2 _ i6⟩
      haveI : In bq W2 := ⟨World.block_lt_of_cell? W2 _ i7⟩
      haveI : In bo W2 := ⟨World.block_lt_of_cell? W2 _ i9⟩
      haveI : In q W2 := ⟨Nat.lt_of_lt_of_le (World.block_lt_of_cell? W1 _ q0) HC2.out.size⟩
      cases gb with
      | false =>
        go_wp2
        refine bodyPost_ret (results_tmp2 rfl _ _ _) rfl ⟨true, false, v, cnt, [o], rfl, ?_, fun h => by (cases h), HST2.out, by omega, HJ2.out, ?_, fun k hk => .inl hk⟩
        · have h1 := Came.one go ys o
          rw [HGB.out] at h1
          rw [HEX.out, if_pos HFU.out]
          exact h1.more
        · exact (Chg.of_nw HN1.out).trans (HC2.out.le (fun k hk => by simp at hk ⊢; rcases hk with rfl | rfl <;> simp))
      | true =>
        have HI0 := Lib.hid (show Li go J W0 W1 l bo vb c0 c1 f o s ys v cnt 0 true W2 v [o] cnt from ⟨by
            have h1 := Came.one go ys o
            rw [HGB.out] at h1
            have e : upTo l f o s 0 = [o] := by unfold upTo; rw [if_pos HFU.out]; rfl
            rw [e]; exact h1, rfl, HST2.out, by omega, HJ2.out, HC2.out.le (fun k hk => by simp at hk ⊢; rcases hk with rfl | rfl <;> simp), fun k hk => .inl hk⟩)
        go_wp2_with fail
        go_loopw [8, 45] (fun a8 a45 wr => ∃ i : Nat, i ≤ n ∧ a45 = .int .i64 i ∧ ∃ sm : Bool, a8 = .bool sm ∧ Hid (∃ v' zs cnt', Li go J W0 W1 l bo vb c0 c1 f o s ys v cnt i sm wr v' zs cnt')) (fun _ a45 _ => n - (intOf a45).toNat)
        case atStart => exact ⟨0, Nat.zero_le _, rfl, true, rfl, Lib.hid ⟨v, [o], cnt, HI0.out⟩⟩
        case round =>
          obtain ⟨i, hi, rfl, sm, rfl, HE⟩ := hrel
          obtain ⟨v1, zs1, cn1, hL⟩ := HE.out
          have HL := Lib.hid hL
          clear HE hL
          clear i0 i2 i3 i4 i5 i6 i7 i9 iz
          obtain ⟨i0, i2, i3, i4, i5, i6, i7⟩ := HS.out.at_ HL.out.st.chg
          have i9 := HL.out.st.ob
          have iz := HL.out.st.oz
          haveI : In sb wr := ⟨World.block_lt_of_cell? wr _ i0⟩
          haveI : In bs wr := ⟨World.block_lt_of_cell? wr _ i5⟩
          haveI : In by_ wr := ⟨World.block_lt_of_cell? wr _ i6⟩
          haveI : In bq wr := ⟨World.block_lt_of_cell? wr _ i7⟩
          haveI : In bo wr := ⟨World.block_lt_of_cell? wr _ i9⟩
          haveI : In gm wr := ⟨Nat.lt_of_lt_of_le (by assumption : In gm W).lt (Nat.le_trans HN1.out.grown.size HL.out.chg.size)⟩
          by_cases hin : i < n
          · have hx0 : i < l.length := by have := HLN.out; omega
            obtain ⟨x, hx⟩ : ∃ x, l[i]? = some x := ⟨_, List.getElem?_eq_getElem hx0⟩
            have hi2 : (i : Int) < (n : Int) := by omega
            have hi3 : (i : Int) ≤ 64 := by have := H10.out; omega
            have hbit := bits_and64 (D / 2 ^ i) 1 (Nat.lt_of_le_of_lt (Nat.div_le_self _ _) (by have := HMSK.out.1; omega)) (by decide)
            rw [HMSK.out.in_] at hbit
            rw [show ((D / 2 ^ i : Nat) : Int) = (D : Int) / 2 ^ i by simp] at hbit
            have hiff := bm_iff HMSK.out (by have := HLN.out; have := H10.out; omega) hx0
            have HIN := Lib.hid hin
            have HX := Lib.hid hx
            clear hi hin hx
            by_cases hmem : i ∈ o
            · rw [if_pos hmem] at hbit
              have hbit : bits .and .i64 ((D : Int) / 2 ^ i) 1 = 1 := hbit
              have HNO := Lib.hid (show mayB l o i = false by simp [mayB, hmem])
              clear hmem hiff hx0
              go_wp2_with fail
              exact ⟨⟨i + 1, by have := HIN.out; omega, by go_num, sm, rfl, Lib.hid ⟨v1, zs1, cn1, HL.out.skip HJ.out (upTo_no HNO.out) (nwa)⟩⟩, by have := HIN.out; simp [intOf]; omega⟩
            · rw [if_neg hmem] at hbit
              have hbit : bits .and .i64 ((D : Int) / 2 ^ i) 1 = 0 := hbit
              obtain ⟨b2, o2, u0, e1, hb2, hu0, hcu⟩ := (HS.out.rows HL.out.st.chg).get HIN.out
              have hu1 : u0 = (bm l i : Int) := by
                rw [List.getElem?_map, List.getElem?_range HIN.out] at hu0
                injection hu0 with hu0; exact hu0.symm
              subst e1 hu1
              haveI : In b2 wr := ⟨hb2⟩
              have han := bits_andNot64 (bm l i) D (by have := mk_lt20 (bmP l i) (k := l.length) (by have := HLN.out; have := H10.out; omega); unfold bm; omega) (by have := HMSK.out.1; omega)
              by_cases hu : bm l i &&& (18446744073709551615 - D) = 0
              · rw [hu] at han
                have han : bits .andNot .i64 (bm l i : Int) (D : Int) = 0 := han
                have HYES := Lib.hid (hiff.1 ⟨hmem, hu⟩)
                have HMEM := Lib.hid hmem
                clear hu hiff hmem hu0 hb2
                have hms : MS wr p s o.length := (HMS.out.nw HN1.out).chg HL.out.chg (fun g hg hx => by
                  rcases List.mem_append.1 hx with hx | hx
                  · exact (HPX.out g hg).1 hx
                  · exact (HPX.out g hg).2 (by simpa using hx))
                have hP := lnx_any wr p s o.length hms (by have := HLEN.out; have := HLN.out; have := H10.out; omega) sb A n cap i l x i0 (by have := H10.out; omega) (HS.out.calls HL.out.st.chg) HIN.out HX.out (HS.out.wf x (List.mem_of_getElem? HX.out))
                rw [← HGM.out] at hP
                have HP := Lib.hid hP
                clear hP hms
                go_wp2_with fail
                refine HP.out.mono ?_
                intro e Wn hP2
                unfold NextP at hP2
                cases hns : nextM s x with
                | none =>
                  rw [hns] at hP2
                  obtain ⟨rfl, hnn⟩ := hP2
                  have HNN := Lib.hid hnn
                  have HNS := Lib.hid hns
                  clear hnn hns
                  go_wp2_with fail
                  exact ⟨⟨i + 1, by have := HIN.out; omega, by go_num, sm, rfl, Lib.hid ⟨v1, zs1, cn1, HL.out.skip HJ.out (upTo_none HX.out HNS.out) (HNN.out.trans (nwa))⟩⟩, by have := HIN.out; simp [intOf]; omega⟩
                | some s' =>
                  rw [hns] at hP2
                  obtain ⟨p2, rfl, hms2, hft2, hnn⟩ := hP2
                  have HNN := Lib.hid hnn
                  have HNS := Lib.hid hns
                  have HMS2 := Lib.hid hms2
                  have HFT2 := Lib.hid hft2
                  have HSTN := Lib.hid (HL.out.st.nw hnn)
                  obtain ⟨g2, hg2⟩ : ∃ g, g = p2.gm := ⟨_, rfl⟩
                  rw [← hg2]
                  haveI : In g2 Wn := ⟨hg2 ▸ hms2.at_.im⟩
                  have HG2 := Lib.hid hg2
                  clear hnn hns hms2 hft2 hg2
                  clear i0 i2 i3 i4 i5 i6 i7 i9 iz
                  obtain ⟨i0, i2, i3, i4, i5, i6, i7⟩ := HS.out.at_ HSTN.out.chg
                  have i9 := HSTN.out.ob
                  have iz := HSTN.out.oz
                  haveI : In sb Wn := ⟨World.block_lt_of_cell? Wn _ i0⟩
                  haveI : In bs Wn := ⟨World.block_lt_of_cell? Wn _ i5⟩
                  haveI : In by_ Wn := ⟨World.block_lt_of_cell? Wn _ i6⟩
                  haveI : In bq Wn := ⟨World.block_lt_of_cell? Wn _ i7⟩
                  haveI : In bo Wn := ⟨World.block_lt_of_cell? Wn _ i9⟩
                  obtain ⟨k, hk⟩ : ∃ k, k = o.length := ⟨_, rfl⟩
                  have HKL := Lib.hid hk
                  obtain ⟨A1, cv1, hv1, -⟩ := OwnI.form HSTN.out.own
                  rw [natI_len, ← hk] at hv1
                  subst hv1
                  have hown : Wn.ownsRow W0.heap.size 3 1 (.slice A1 k cv1) k (ints (natI o)) := by have := HSTN.out.own; unfold OwnI at this; rw [natI_len, ← hk] at this; exact this
                  have HK10 := Lib.hid (show k + 1 ≤ n by
                    have h1 : Ord l.length (o ++ [i]) := ⟨by
                      rw [List.nodup_append]
                      exact ⟨HORD.out.1, by simp, fun a ha b hb => by simp at hb; subst hb; rintro rfl; exact HMEM.out ha⟩, fun j hj => by
                      rcases List.mem_append.1 hj with h | h
                      · exact HORD.out.2 j h
                      · simp at h; have := HIN.out; have := HLN.out; omega⟩
                    have := nodup_len l.length (o ++ [i]) h1.1 h1.2
                    simp at this; have := HLN.out; omega)
                  clear hk
                  go_wp2_with (at_builtin; refine wpList_appC rfl _ _ 31 rfl 3 (.int .i64 0) 1 8 Tryz.underlying31 intInfo rfl (by decide) W0.heap.size Wn HSTN.out.chg.size (.slice A1 k cv1) k _ rfl hown _ 1 1 _ [.int .i64 (i : Int)] rfl rfl rfl (by intro u hu; simp at hu; subst hu; rfl) (by unfold maxLen; have := HK10.out; have := H10.out; omega) (by have := HK10.out; have := H10.out; omega) ?_; intro v2 wA hA hcA hmA; have hA2 : OwnI wA W0.heap.size v2 (natI (o ++ [i])) := OwnI.cast hA (by rw [natI_len]; simp [HKL.out]) (by simp [natI, ints]); obtain ⟨A2, cv2, hv2, -⟩ := OwnI.form hA2; rw [natI_len] at hv2; simp only [List.length_append, List.length_cons, List.length_nil, Nat.zero_add, ← HKL.out] at hv2; subst hv2; have j9 := hcA.cell i9 (own_at HSTN.out.own HS.out.lo); have jz := (hcA.frozen (World.block_lt_of_cell? Wn _ i9) (own_at HSTN.out.own HS.out.lo)).trans iz; haveI : In bo wA := ⟨World.block_lt_of_cell? wA _ j9⟩; have HA2 := Lib.hid hA2; have HCA := Lib.hid hcA; have HMA := Lib.hid hmA; clear hA hA2 hcA hmA hown)
                  obtain ⟨wS, hwS⟩ : ∃ w, w = wA.setCell ⟨bo, 0, none⟩ (.slice A2 (k + 1) cv2) := ⟨_, rfl⟩
                  rw [← hwS]
                  have hstS : Ss W0 l bo vb c0 c1 (o ++ [i]) (.slice A2 (k + 1) cv2) cn1 wS := by rw [hwS]; exact HSTN.out.push HCA.out HA2.out HS.out.x4.1 HS.out.lo HS.out.lv
                  have hcS : Chg ([bo] ++ (Value.slice A1 k cv1).ownBlock.toList) Wn wS := by rw [hwS]; exact (HCA.out.le (fun z hz => List.mem_append_right _ hz)).trans ((Chg.set1 wA bo 0 _).le (fun z hz => List.mem_append_left _ hz))
                  have HCS := Lib.hid hcS
                  have HSTS := Lib.hid hstS
                  clear hwS hstS hcS j9 jz
                  clear i0 i2 i3 i4 i5 i6 i7 i9 iz
                  obtain ⟨i0, i2, i3, i4, i5, i6, i7⟩ := HS.out.at_ HSTS.out.chg
                  have i9 := HSTS.out.ob
                  have iz := HSTS.out.oz
                  haveI : In sb wS := ⟨World.block_lt_of_cell? wS _ i0⟩
                  haveI : In bs wS := ⟨World.block_lt_of_cell? wS _ i5⟩
                  haveI : In by_ wS := ⟨World.block_lt_of_cell? wS _ i6⟩
                  haveI : In bq wS := ⟨World.block_lt_of_cell? wS _ i7⟩
                  haveI : In bo wS := ⟨World.block_lt_of_cell? wS _ i9⟩
                  haveI : In g2 wS := ⟨Nat.lt_of_lt_of_le (by assumption : In g2 Wn).lt HCS.out.size⟩
                  obtain ⟨f', hf'⟩ : ∃ f', f = f' + 1 := ⟨f - 1, by have := HK10.out; have := HLEN.out; have := HLN.out; have := HKL.out; omega⟩
                  have htc : tc l.length f = tn l.length f' := by rw [hf']; rfl
                  have hmulL : i * tn l.length f' + tn l.length f' ≤ l.length * tn l.length f' := by
                    rw [← Nat.succ_mul]; exact Nat.mul_le_mul_right _ (by have := HIN.out; have := HLN.out; omega)
                  have hcbL : cn1 + tn l.length f' ≤ cnt + tn l.length f ∧ cn1 + tn l.length f' ≤ cnt + (i + 1) * tc l.length f := by
                    have h1 := HL.out.cb
                    rw [htc] at h1 ⊢
                    rw [Nat.succ_mul]
                    have h2 : tn l.length f = 1 + l.length * tn l.length f' := by rw [← htc]; rfl
                    omega
                  have HCB := Lib.hid hcbL
                  have hjS : J (ys ++ zs1) (.slice A2 (k + 1) cv2) wS := HJ.out _ _ _ (.slice A1 k cv1) _ _ HL.out.j ((Chg.of_nw HNN.out).trans HCS.out) (fun z hz => by
                      rcases List.mem_append.1 hz with hz | hz
                      · simp at hz; exact .inl hz
                      · exact .inr (.inr (by simpa using hz))) (fun z hz => (HMA.out z hz).imp id fun h => Nat.le_trans HNN.out.grown.size h)
                  have hfS : ∀ g ∈ p2.foot, g ∉ [bo] ++ (Value.slice A1 k cv1).ownBlock.toList := fun g hg hx => by
                    have h1 := HFT2.out g hg
                    rcases List.mem_append.1 hx with hx | hx
                    · simp at hx
                      have h2 := HS.out.lo
                      have h3 := HL.out.st.chg.size
                      omega
                    · have h2 := (HL.out.st.own.lt g (by simpa using hx)).2
                      omega
                  have hpS : ∀ g ∈ p2.foot, g ∉ [bo, vb, c0, c1] ∧ (Value.slice A2 (k + 1) cv2).ownBlock ≠ some g := fun g hg => ⟨fun hx => by
                    have h1 := HFT2.out g hg
                    have h3 := HL.out.st.chg.size
                    have e0 := HS.out.lo
                    have e1 := HS.out.lv
                    have e2 := HS.out.l0
                    have e3 := HS.out.l1
                    simp at hx
                    omega, fun hx => by
                    have h1 := HFT2.out g hg
                    have h2 := HMS2.out.at_.lt hg
                    rcases HMA.out g hx with h | h
                    · have := (HL.out.st.own.lt g h).2; omega
                    · omega⟩
                  have hord' : Ord l.length (o ++ [i]) := ⟨by
                      rw [List.nodup_append]
                      exact ⟨HORD.out.1, by simp, fun a ha b hb => by simp at hb; subst hb; rintro rfl; exact HMEM.out ha⟩, fun j hj => by
                      rcases List.mem_append.1 hj with h | h
                      · exact HORD.out.2 j h
                      · simp at h; have := HIN.out; have := HLN.out; omega⟩
                  have hI := fun wq (hq : Nw wS wq) => HIH.out f' hf' (o ++ [i]) s' (D ||| 2 ^ i) wq (.slice A2 (k + 1) cv2) p2 cn1 (ys ++ zs1) (by have := HLEN.out; simp; omega) hord' (HMSK.out.snoc (by have := HIN.out; have := H10.out; omega))
                    (HSTS.out.nw hq) (HJ.out _ _ _ _ _ [] hjS (Chg.of_nw hq) (by simp) (fun _ h => .inl h))
                    (by have h9 := (HMS2.out.chg HCS.out hfS).nw hq; rw [show (o ++ [i]).length = o.length + 1 by simp]; exact h9) hpS (by have := HCB.out.1; have := HCNT.out; omega)
                  simp only [← or_form2 HMSK.out.1 (show i < 20 by have := HIN.out; have := H10.out; omega), ← HG2.out] at hI
                  have HII := Lib.hid hI
                  have HFF := Lib.hid hf'
                  clear hI hord' hpS hfS hjS hcbL hmulL hf' htc
                  have HK7 := Lib.hid (fun wq (hq : Nw wS wq) => cell_nw i7 hq)
                  go_region_held3 (fun wq => wq.cell? ⟨bq, 0, none⟩ = some (.func (.func 35) #[] #[.pointer (some ⟨bs, 0, none⟩), .pointer (some ⟨by_, 0, none⟩), .pointer (some ⟨bo, 0, none⟩), .pointer (some ⟨bq, 0, none⟩)])) (first | exact (HS.out.at_ hst3.chg).2.2.2.2.2.2 | exact i7 | exact HK7.out _ (Nw.drew (Nw.refl _)))
                    ((go_at_call 35; with_reducible refine (HII.out _ (Nw.drew (Nw.refl _))).mono ?_; intro e W5 hP5; unfold FromP at hP5; obtain ⟨sm2, gg, v3, cn3, zs2, he5, hcame, hsm2, hst3, hcn3, hj3, hchg3, hmv3⟩ := hP5; subst he5))
                  rename_i hHeld
                  clear hHeld
                  have HCAME := Lib.hid hcame
                  have HSM2 := Lib.hid hsm2
                  have HST3 := Lib.hid hst3
                  have HCN3 := Lib.hid hcn3
                  have HJ3 := Lib.hid hj3
                  have HCH3 := Lib.hid hchg3
                  have HMV3 := Lib.hid hmv3
                  obtain ⟨A3, c3, hv3, -, hc3, -⟩ := OwnI.form2 hst3.own
                  rw [natI_len] at hv3 hc3
                  simp only [List.length_append, List.length_cons, List.length_nil, Nat.zero_add, ← HKL.out] at hv3 hc3
                  subst hv3
                  clear hcame hsm2 hst3 hcn3 hj3 hchg3 hmv3
                  clear i0 i2 i3 i4 i5 i6 i7 i9 iz
                  obtain ⟨i0, i2, i3, i4, i5, i6, i7⟩ := HS.out.at_ HST3.out.chg
                  have i9 := HST3.out.ob
                  have iz := HST3.out.oz
                  haveI : In sb W5 := ⟨World.block_lt_of_cell? W5 _ i0⟩
                  haveI : In bs W5 := ⟨World.block_lt_of_cell? W5 _ i5⟩
                  haveI : In by_ W5 := ⟨World.block_lt_of_cell? W5 _ i6⟩
                  haveI : In bq W5 := ⟨World.block_lt_of_cell? W5 _ i7⟩
                  haveI : In bo W5 := ⟨World.block_lt_of_cell? W5 _ i9⟩
                  have hc4 : (k : Int) ≤ (c3 : Int) := by omega
                  have hc5 : k ≤ c3 := by omega
                  have hk0 : (0 : Int) ≤ (k : Int) := by omega
                  have hwk : wrap64 (k : Int) = k := by have := HK10.out; have := H10.out; unfold wrap64; omega
                  have HSS := Lib.hid (HST3.out.pop HKL.out.symm HS.out.x4.1 HS.out.lo)
                  have HCH6 := Lib.hid (show Chg ([bo, vb, c0, c1] ++ v.ownBlock.toList) W1 (W5.setCell ⟨bo, 0, none⟩ (.slice A3 k c3)) ∧ (∀ z, (Value.slice A3 k c3).ownBlock = some z → v.ownBlock = some z ∨ W1.heap.size ≤ z) by
                    have e1 : Chg ([bo, vb, c0, c1] ++ v.ownBlock.toList) W1 wr := HL.out.chg
                    have l1 := e1.size
                    have l2 := HNN.out.grown.size
                    have l3 := HCS.out.size
                    have own1 : ∀ z, (Value.slice A1 k cv1).ownBlock = some z → v.ownBlock = some z ∨ W1.heap.size ≤ z := HL.out.mv
                    have own2 : ∀ z, (Value.slice A2 (k + 1) cv2).ownBlock = some z → v.ownBlock = some z ∨ W1.heap.size ≤ z := fun z hz => by
                      rcases HMA.out z hz with h | h
                      · exact own1 z h
                      · right; omega
                    refine ⟨?_, fun z hz => ?_⟩
                    · have e2 := e1.trans (Chg.of_nw HNN.out)
                      have e3 := e2.then HCS.out (fun z hz => by
                        rcases List.mem_append.1 hz with hz | hz
                        · simp at hz; subst hz; simp
                        · rcases own1 z (by simpa using hz) with h | h
                          · left; simp [h]
                          · exact .inr h)
                      have e4 := (e3.trans (Chg.of_nw (Nw.drew (Nw.refl _)))).then HCH3.out (fun z hz => by
                        rcases List.mem_append.1 hz with hz | hz
                        · exact .inl (List.mem_append_left _ hz)
                        · rcases own2 z (by simpa using hz) with h | h
                          · left; simp [h]
                          · exact .inr h)
                      exact e4.trans ((Chg.set1 W5 bo 0 _).le (by simp))
                    · rw [own_slice_pop] at hz
                      rcases HMV3.out z hz with h | h
                      · exact own2 z h
                      · right
                        have h : wS.heap.size ≤ z := h
                        omega)
                  have HJ6 := Lib.hid (show J (ys ++ (zs1 ++ zs2)) (.slice A3 k c3) (W5.setCell ⟨bo, 0, none⟩ (.slice A3 k c3)) by
                    rw [← List.append_assoc]
                    exact HJ.out _ _ _ (.slice A3 (k + 1) c3) _ _ HJ3.out (Chg.set1 W5 bo 0 _) (fun z hz => by simp at hz; exact .inl hz) (fun z hz => by rw [own_slice_pop] at hz; exact .inl hz))
                  have HUP := Lib.hid (upTo_some (f := f) HYES.out HX.out HNS.out)
                  cases gg with
                  | false =>
                    have hfin : ∀ b : Bool, FromP go J W0 W l bo vb c0 c1 f o s ys v cnt (.returned (.tuple #[.bool b, .bool false])) (W5.setCell ⟨bo, 0, none⟩ (.slice A3 k c3)) := fun b => by
                      refine ⟨b, false, .slice A3 k c3, cn3, zs1 ++ zs2, rfl, ?_, fun h => by (cases h), HSS.out, by have := HCB.out.1; have := HCN3.out; omega, HJ6.out, (Chg.of_nw HN1.out).trans HCH6.out.1, fun z hz => (HCH6.out.2 z hz).imp id fun h => Nat.le_trans HN1.out.grown.size h⟩
                      obtain ⟨r, hr⟩ := upTo_pre l f o s (l.length - (i + 1)) (i + 1)
                      rw [show i + 1 + (l.length - (i + 1)) = l.length by have := HIN.out; have := HLN.out; omega, upTo_all] at hr
                      rw [hr, HUP.out]
                      have hcm := HCAME.out
                      rw [← HFF.out] at hcm
                      exact (HL.out.came.app hcm).more
                    have HFIN := Lib.hid hfin
                    clear hfin
                    cases sm with
                    | true =>
                      go_wp2_with fail
                      refine bodyPost_ret (results_tmp2 rfl _ _ _) rfl ?_
                      exact HFIN.out true
                    | false =>
                      go_wp2_with fail
                      refine bodyPost_ret (results_tmp2 rfl _ _ _) rfl ?_
                      exact HFIN.out sm2
                  | true =>
                    have hfin : Li go J W0 W1 l bo vb c0 c1 f o s ys v cnt (i + 1) (sm || sm2) (W5.setCell ⟨bo, 0, none⟩ (.slice A3 k c3)) (.slice A3 k c3) (zs1 ++ zs2) cn3 := by
                      have hcm := HCAME.out
                      rw [← HFF.out] at hcm
                      refine ⟨by rw [HUP.out]; exact HL.out.came.app hcm, ?_, HSS.out, by have := HCB.out.2; have := HCN3.out; omega, HJ6.out, HCH6.out.1, HCH6.out.2⟩
                      rw [HL.out.sm_, HSM2.out rfl]
                      cases zs1 <;> cases zs2 <;> rfl
                    have HFIN := Lib.hid hfin
                    clear hfin
                    cases sm with
                    | true =>
                      go_wp2_with fail
                      exact ⟨⟨i + 1, by have := HIN.out; omega, by go_num, _, rfl, Lib.hid ⟨_, _, _, HFIN.out⟩⟩, by have := HIN.out; simp [intOf]; omega⟩
                    | false =>
                      go_wp2_with fail
                      exact ⟨⟨i + 1, by have := HIN.out; omega, by go_num, _, rfl, Lib.hid ⟨_, _, _, HFIN.out⟩⟩, by have := HIN.out; simp [intOf]; omega⟩
              · have hne : (((bm l i &&& (18446744073709551615 - D) : Nat) : Int) != 0) = true := by simp; omega
                have HNO := Lib.hid (show mayB l o i = false by
                  cases hmb : mayB l o i with
                  | false => rfl
                  | true => exact absurd (hiff.2 hmb).2 hu)
                clear hu hiff hmem hu0 hb2
                go_wp2_with fail
                exact ⟨⟨i + 1, by have := HIN.out; omega, by go_num, sm, rfl, Lib.hid ⟨v1, zs1, cn1, HL.out.skip HJ.out (upTo_no HNO.out) (nwa)⟩⟩, by have := HIN.out; simp [intOf]; omega⟩
          · have j1 : ¬ (i : Int) < (n : Int) := by omega
            have hii : n = i := by omega
            subst hii
            have HUA := Lib.hid (show upTo l f o s n = exts l (f + 1) o s by rw [← HLN.out, upTo_all])
            have HCBN := Lib.hid (show cn1 + 1 ≤ cnt + tn l.length f by have h1 := HL.out.cb; have h2 : tn l.length f = 1 + l.length * tc l.length f := rfl; rw [HLN.out] at *; omega)
            have hqx : q ∉ [bo, vb, c0, c1] ++ v.ownBlock.toList := fun hx => by have h1 := HQV.out q hx; have h2 := HQ.out; omega
            have p0 := HL.out.chg.cell q0 hqx
            have p1 := HL.out.chg.cell q1 hqx
            haveI : In q wr := ⟨World.block_lt_of_cell? wr _ p0⟩
            clear hqx hi hin
            cases sm with
            | true =>
              go_wp2_with fail
              exact bodyPost_ret (results_tmp2 rfl _ _ _) rfl ⟨true, true, v1, cn1, zs1, rfl, by rw [← HUA.out]; exact HL.out.came, fun _ => HL.out.sm_, HL.out.st, by have := HCBN.out; omega, HL.out.j, (Chg.of_nw HN1.out).trans HL.out.chg, fun z hz => (HL.out.mv z hz).imp id fun h => Nat.le_trans HN1.out.grown.size h⟩
            | false =>
              have hz0 : zs1 = [] := by
                have := HL.out.sm_
                cases zs1 with
                | nil => rfl
                | cons => simp at this
              have hvn : Vn l D z := ⟨o, s, HMSK.out, HORD.out, HMS.out.nums, HMS.out.ok.u64, HZ.out, by
                have h1 := HL.out.came.all rfl
                rw [HUA.out, hz0] at h1
                rw [show l.length + 1 - o.length = f + 1 by have := HLEN.out; omega]
                exact h1.symm⟩
              obtain ⟨W7, hput, hv7, hg7⟩ := vain_put (HL.out.st.nw (Nw.drew (Nw.refl wr))).vn HMSK.out.1 HZL.out (by have := HCBN.out; have := HCNT.out; unfold maxLen; omega) hvn
              have hc7 : Chg [vb] wr W7 := (Chg.of_nw (Nw.drew (Nw.refl wr))).trans (Chg.of_grown hg7)
              have HC7 := Lib.hid hc7
              have HV7 := Lib.hid hv7
              have HZ0 := Lib.hid hz0
              clear hg7 hv7 hc7 hvn hz0
              go_wp2_with fail
              go_still_tail 5, (by kernel_rfl)
              go_wp2_with fail
              have hx4 := HS.out.x4
              have hb := HL.out.st
              refine bodyPost_ret (results_tmp2 rfl _ _ _) rfl ⟨false, true, v1, cn1 + 1, zs1, rfl, by rw [← HUA.out]; exact HL.out.came, fun _ => HL.out.sm_, ⟨hb.chg.trans (HC7.out.le (by simp)), HC7.out.cell hb.ob (by simp; exact hx4.1), (HC7.out.frozen (World.block_lt_of_cell? wr _ hb.ob) (by simp; exact hx4.1)).trans hb.oz, OwnI.chg hb.own HC7.out (fun g hg => by have h1 := (hb.own.lt g hg).1; have h2 := HS.out.lv; simp; omega), HV7.out⟩, HCBN.out, HJ.out _ _ _ _ _ _ HL.out.j HC7.out (fun z hz => by simp at hz; exact .inr (.inl hz)) (fun _ h => .inl h), ((Chg.of_nw HN1.out).trans HL.out.chg).trans (HC7.out.le (by simp)), fun z hz => (HL.out.mv z hz).imp id fun h => Nat.le_trans HN1.out.grown.size h⟩
    · have hm : D &&& mu l ≠ mu l := fun e => hfull ((mu_iff HMSK.out).1 e)
      have hc : ¬ ((D &&& mu l : Nat) : Int) = ((mu l : Nat) : Int) := by omega
      have hc1 : (((D &&& mu l : Nat) : Int) == ((mu l : Nat) : Int)) = false := by simpa using hc
      have HI0 := Lib.hid (show Li go J W0 W1 l bo vb c0 c1 f o s ys v cnt 0 false W1.drew.drew v [] cnt from ⟨by
          have e : upTo l f o s 0 = [] := by unfold upTo; rw [if_neg hfull]; rfl
          rw [e]; exact Came.nil go ys, rfl, HST1.out.nw (Nw.drew (Nw.drew (Nw.refl _))), by omega, by rw [List.append_nil]; exact HJ.out ys W _ v v [] HJ0.out (Chg.of_nw (HN1.out.trans (Nw.drew (Nw.drew (Nw.refl _))))) (by simp) (fun _ h => .inl h), Chg.of_nw (Nw.drew (Nw.drew (Nw.refl _))), fun k hk => .inl hk⟩)
      clear hfull hm
      go_region
      go_wp2_with fail
      go_loopw [8, 45] (fun a8 a45 wr => ∃ i : Nat, i ≤ n ∧ a45 = .int .i64 i ∧ ∃ sm : Bool, a8 = .bool sm ∧ Hid (∃ v' zs cnt', Li go J W0 W1 l bo vb c0 c1 f o s ys v cnt i sm wr v' zs cnt')) (fun _ a45 _ => n - (intOf a45).toNat)
      case atStart => exact ⟨0, Nat.zero_le _, rfl, false, rfl, Lib.hid ⟨v, [], cnt, HI0.out⟩⟩
      case round =>
        obtain ⟨i, hi, rfl, sm, rfl, HE⟩ := hrel
        obtain ⟨v1, zs1, cn1, hL⟩ := HE.out
        have HL := Lib.hid hL
        clear HE hL
        clear i0 i2 i3 i4 i5 i6 i7 i9 iz
        obtain ⟨i0, i2, i3, i4, i5, i6, i7⟩ := HS.out.at_ HL.out.st.chg
        have i9 := HL.out.st.ob
        have iz := HL.out.st.oz
        haveI : In sb wr := ⟨World.block_lt_of_cell? wr _ i0⟩
        haveI : In bs wr := ⟨World.block_lt_of_cell? wr _ i5⟩
        haveI : In by_ wr := ⟨World.block_lt_of_cell? wr _ i6⟩
        haveI : In bq wr := ⟨World.block_lt_of_cell? wr _ i7⟩
        haveI : In bo wr := ⟨World.block_lt_of_cell? wr _ i9⟩
        haveI : In gm wr := ⟨Nat.lt_of_lt_of_le (by assumption : In gm W).lt (Nat.le_trans HN1.out.grown.size HL.out.chg.size)⟩
        by_cases hin : i < n
        · have hx0 : i < l.length := by have := HLN.out; omega
          obtain ⟨x, hx⟩ : ∃ x, l[i]? = some x := ⟨_, List.getElem?_eq_getElem hx0⟩
          have hi2 : (i : Int) < (n : Int) := by omega
          have hi3 : (i : Int) ≤ 64 := by have := H10.out; omega
          have hbit := bits_and64 (D / 2 ^ i) 1 (Nat.lt_of_le_of_lt (Nat.div_le_self _ _) (by have := HMSK.out.1; omega)) (by decide)
          rw [HMSK.out.in_] at hbit
          rw [show ((D / 2 ^ i : Nat) : Int) = (D : Int) / 2 ^ i by simp] at hbit
          have hiff := bm_iff HMSK.out (by have := HLN.out; have := H10.out; omega) hx0
          have HIN := Lib.hid hin
          have HX := Lib.hid hx
          clear hi hin hx
          by_cases hmem : i ∈ o
          · rw [if_pos hmem] at hbit
            have hbit : bits .and .i64 ((D : Int) / 2 ^ i) 1 = 1 := hbit
            have HNO := Lib.hid (show mayB l o i = false by simp [mayB, hmem])
            clear hmem hiff hx0
            go_wp2_with fail
            exact ⟨⟨i + 1, by have := HIN.out; omega, by go_num, sm, rfl, Lib.hid ⟨v1, zs1, cn1, HL.out.skip HJ.out (upTo_no HNO.out) (nwa)⟩⟩, by have := HIN.out; simp [intOf]; omega⟩
          · rw [if_neg hmem] at hbit
            have hbit : bits .and .i64 ((D : Int) / 2 ^ i) 1 = 0 := hbit
            obtain ⟨b2, o2, u0, e1, hb2, hu0, hcu⟩ := (HS.out.rows HL.out.st.chg).get HIN.out
            have hu1 : u0 = (bm l i : Int) := by
              rw [List.getElem?_map, List.getElem?_range HIN.out] at hu0
              injection hu0 with hu0; exact hu0.symm
            subst e1 hu1
            haveI : In b2 wr := ⟨hb2⟩
            have han := bits_andNot64 (bm l i) D (by have := mk_lt20 (bmP l i) (k := l.length) (by have := HLN.out; have := H10.out; omega); unfold bm; omega) (by have := HMSK.out.1; omega)
            by_cases hu : bm l i &&& (18446744073709551615 - D) = 0
            · rw [hu] at han
              have han : bits .andNot .i64 (bm l i : Int) (D : Int) = 0 := han
              have HYES := Lib.hid (hiff.1 ⟨hmem, hu⟩)
              have HMEM := Lib.hid hmem
              clear hu hiff hmem hu0 hb2
              have hms : MS wr p s o.length := (HMS.out.nw HN1.out).chg HL.out.chg (fun g hg hx => by
                rcases List.mem_append.1 hx with hx | hx
                · exact (HPX.out g hg).1 hx
                · exact (HPX.out g hg).2 (by simpa using hx))
              have hP := lnx_any wr p s o.length hms (by have := HLEN.out; have := HLN.out; have := H10.out; omega) sb A n cap i l x i0 (by have := H10.out; omega) (HS.out.calls HL.out.st.chg) HIN.out HX.out (HS.out.wf x (List.mem_of_getElem? HX.out))
              rw [← HGM.out] at hP
              have HP := Lib.hid hP
              clear hP hms
              go_wp2_with fail
              refine HP.out.mono ?_
              intro e Wn hP2
              unfold NextP at hP2
              cases hns : nextM s x with
              | none =>
                rw [hns] at hP2
                obtain ⟨rfl, hnn⟩ := hP2
                have HNN := Lib.hid hnn
                have HNS := Lib.hid hns
                clear hnn hns
                go_wp2_with fail
                exact ⟨⟨i + 1, by have := HIN.out; omega, by go_num, sm, rfl, Lib.hid ⟨v1, zs1, cn1, HL.out.skip HJ.out (upTo_none HX.out HNS.out) (HNN.out.trans (nwa))⟩⟩, by have := HIN.out; simp [intOf]; omega⟩
              | some s' =>
                rw [hns] at hP2
                obtain ⟨p2, rfl, hms2, hft2, hnn⟩ := hP2
                have HNN := Lib.hid hnn
                have HNS := Lib.hid hns
                have HMS2 := Lib.hid hms2
                have HFT2 := Lib.hid hft2
                have HSTN := Lib.hid (HL.out.st.nw hnn)
                obtain ⟨g2, hg2⟩ : ∃ g, g = p2.gm := ⟨_, rfl⟩
                rw [← hg2]
                haveI : In g2 Wn := ⟨hg2 ▸ hms2.at_.im⟩
                have HG2 := Lib.hid hg2
                clear hnn hns hms2 hft2 hg2
                clear i0 i2 i3 i4 i5 i6 i7 i9 iz
                obtain ⟨i0, i2, i3, i4, i5, i6, i7⟩ := HS.out.at_ HSTN.out.chg
                have i9 := HSTN.out.ob
                have iz := HSTN.out.oz
                haveI : In sb Wn := ⟨World.block_lt_of_cell? Wn _ i0⟩
                haveI : In bs Wn := ⟨World.block_lt_of_cell? Wn _ i5⟩
                haveI : In by_ Wn := ⟨World.block_lt_of_cell? Wn _ i6⟩
                haveI : In bq Wn := ⟨World.block_lt_of_cell? Wn _ i7⟩
                haveI : In bo Wn := ⟨World.block_lt_of_cell? Wn _ i9⟩
                obtain ⟨k, hk⟩ : ∃ k, k = o.length := ⟨_, rfl⟩
                have HKL := Lib.hid hk
                obtain ⟨A1, cv1, hv1, -⟩ := OwnI.form HSTN.out.own
                rw [natI_len, ← hk] at hv1
                subst hv1
                have hown : Wn.ownsRow W0.heap.size 3 1 (.slice A1 k cv1) k (ints (natI o)) := by have := HSTN.out.own; unfold OwnI at this; rw [natI_len, ← hk] at this; exact this
                have HK10 := Lib.hid (show k + 1 ≤ n by
                  have h1 : Ord l.length (o ++ [i]) := ⟨by
                    rw [List.nodup_append]
                    exact ⟨HORD.out.1, by simp, fun a ha b hb => by simp at hb; subst hb; rintro rfl; exact HMEM.out ha⟩, fun j hj => by
                    rcases List.mem_append.1 hj with h | h
                    · exact HORD.out.2 j h
                    · simp at h; have := HIN.out; have := HLN.out; omega⟩
                  have := nodup_len l.length (o ++ [i]) h1.1 h1.2
                  simp at this; have := HLN.out; omega)
                clear hk
                go_wp2_with (at_builtin; refine wpList_appC rfl _ _ 31 rfl 3 (.int .i64 0) 1 8 Tryz.underlying31 intInfo rfl (by decide) W0.heap.size Wn HSTN.out.chg.size (.slice A1 k cv1) k _ rfl hown _ 1 1 _ [.int .i64 (i : Int)] rfl rfl rfl (by intro u hu; simp at hu; subst hu; rfl) (by unfold maxLen; have := HK10.out; have := H10.out; omega) (by have := HK10.out; have := H10.out; omega) ?_; intro v2 wA hA hcA hmA; have hA2 : OwnI wA W0.heap.size v2 (natI (o ++ [i])) := OwnI.cast hA (by rw [natI_len]; simp [HKL.out]) (by simp [natI, ints]); obtain ⟨A2, cv2, hv2, -⟩ := OwnI.form hA2; rw [natI_len] at hv2; simp only [List.length_append, List.length_cons, List.length_nil, Nat.zero_add, ← HKL.out] at hv2; subst hv2; have j9 := hcA.cell i9 (own_at HSTN.out.own HS.out.lo); have jz := (hcA.frozen (World.block_lt_of_cell? Wn _ i9) (own_at HSTN.out.own HS.out.lo)).trans iz; haveI : In bo wA := ⟨World.block_lt_of_cell? wA _ j9⟩; have HA2 := Lib.hid hA2; have HCA := Lib.hid hcA; have HMA := Lib.hid hmA; clear hA hA2 hcA hmA hown)
                obtain ⟨wS, hwS⟩ : ∃ w, w = wA.setCell ⟨bo, 0, none⟩ (.slice A2 (k + 1) cv2) := ⟨_, rfl⟩
                rw [← hwS]
                have hstS : Ss W0 l bo vb c0 c1 (o ++ [i]) (.slice A2 (k + 1) cv2) cn1 wS := by rw [hwS]; exact HSTN.out.push HCA.out HA2.out HS.out.x4.1 HS.out.lo HS.out.lv
                have hcS : Chg ([bo] ++ (Value.slice A1 k cv1).ownBlock.toList) Wn wS := by rw [hwS]; exact (HCA.out.le (fun z hz => List.mem_append_right _ hz)).trans ((Chg.set1 wA bo 0 _).le (fun z hz => List.mem_append_left _ hz))
                have HCS := Lib.hid hcS
                have HSTS := Lib.hid hstS
                clear hwS hstS hcS j9 jz
                clear i0 i2 i3 i4 i5 i6 i7 i9 iz
                obtain ⟨i0, i2, i3, i4, i5, i6, i7⟩ := HS.out.at_ HSTS.out.chg
                have i9 := HSTS.out.ob
                have iz := HSTS.out.oz
                haveI : In sb wS := ⟨World.block_lt_of_cell? wS _ i0⟩
                haveI : In bs wS := ⟨World.block_lt_of_cell? wS _ i5⟩
                haveI : In by_ wS := ⟨World.block_lt_of_cell? wS _ i6⟩
                haveI : In bq wS := ⟨World.block_lt_of_cell? wS _ i7⟩
                haveI : In bo wS := ⟨World.block_lt_of_cell? wS _ i9⟩
                haveI : In g2 wS := ⟨Nat.lt_of_lt_of_le (by assumption : In g2 Wn).lt HCS.out.size⟩
                obtain ⟨f', hf'⟩ : ∃ f', f = f' + 1 := ⟨f - 1, by have := HK10.out; have := HLEN.out; have := HLN.out; have := HKL.out; omega⟩
                have htc : tc l.length f = tn l.length f' := by rw [hf']; rfl
                have hmulL : i * tn l.length f' + tn l.length f' ≤ l.length * tn l.length f' := by
                  rw [← Nat.succ_mul]; exact Nat.mul_le_mul_right _ (by have := HIN.out; have := HLN.out; omega)
                have hcbL : cn1 + tn l.length f' ≤ cnt + tn l.length f ∧ cn1 + tn l.length f' ≤ cnt + (i + 1) * tc l.length f := by
                  have h1 := HL.out.cb
                  rw [htc] at h1 ⊢
                  rw [Nat.succ_mul]
                  have h2 : tn l.length f = 1 + l.length * tn l.length f' := by rw [← htc]; rfl
                  omega
                have HCB := Lib.hid hcbL
                have hjS : J (ys ++ zs1) (.slice A2 (k + 1) cv2) wS := HJ.out _ _ _ (.slice A1 k cv1) _ _ HL.out.j ((Chg.of_nw HNN.out).trans HCS.out) (fun z hz => by
                    rcases List.mem_append.1 hz with hz | hz
                    · simp at hz; exact .inl hz
                    · exact .inr (.inr (by simpa using hz))) (fun z hz => (HMA.out z hz).imp id fun h => Nat.le_trans HNN.out.grown.size h)
                have hfS : ∀ g ∈ p2.foot, g ∉ [bo] ++ (Value.slice A1 k cv1).ownBlock.toList := fun g hg hx => by
                  have h1 := HFT2.out g hg
                  rcases List.mem_append.1 hx with hx | hx
                  · simp at hx
                    have h2 := HS.out.lo
                    have h3 := HL.out.st.chg.size
                    omega
                  · have h2 := (HL.out.st.own.lt g (by simpa using hx)).2
                    omega
                have hpS : ∀ g ∈ p2.foot, g ∉ [bo, vb, c0, c1] ∧ (Value.slice A2 (k + 1) cv2).ownBlock ≠ some g := fun g hg => ⟨fun hx => by
                  have h1 := HFT2.out g hg
                  have h3 := HL.out.st.chg.size
                  have e0 := HS.out.lo
                  have e1 := HS.out.lv
                  have e2 := HS.out.l0
                  have e3 := HS.out.l1
                  simp at hx
                  omega, fun hx => by
                  have h1 := HFT2.out g hg
                  have h2 := HMS2.out.at_.lt hg
                  rcases HMA.out g hx with h | h
                  · have := (HL.out.st.own.lt g h).2; omega
                  · omega⟩
                have hord' : Ord l.length (o ++ [i]) := ⟨by
                    rw [List.nodup_append]
                    exact ⟨HORD.out.1, by simp, fun a ha b hb => by simp at hb; subst hb; rintro rfl; exact HMEM.out ha⟩, fun j hj => by
                    rcases List.mem_append.1 hj with h | h
                    · exact HORD.out.2 j h
                    · simp at h; have := HIN.out; have := HLN.out; omega⟩
                have hI := fun wq (hq : Nw wS wq) => HIH.out f' hf' (o ++ [i]) s' (D ||| 2 ^ i) wq (.slice A2 (k + 1) cv2) p2 cn1 (ys ++ zs1) (by have := HLEN.out; simp; omega) hord' (HMSK.out.snoc (by have := HIN.out; have := H10.out; omega))
                  (HSTS.out.nw hq) (HJ.out _ _ _ _ _ [] hjS (Chg.of_nw hq) (by simp) (fun _ h => .inl h))
                  (by have h9 := (HMS2.out.chg HCS.out hfS).nw hq; rw [show (o ++ [i]).length = o.length + 1 by simp]; exact h9) hpS (by have := HCB.out.1; have := HCNT.out; omega)
                simp only [← or_form2 HMSK.out.1 (show i < 20 by have := HIN.out; have := H10.out; omega), ← HG2.out] at hI
                have HII := Lib.hid hI
                have HFF := Lib.hid hf'
                clear hI hord' hpS hfS hjS hcbL hmulL hf' htc
                have HK7 := Lib.hid (fun wq (hq : Nw wS wq) => cell_nw i7 hq)
                go_region_held3 (fun wq => wq.cell? ⟨bq, 0, none⟩ = some (.func (.func 35) #[] #[.pointer (some ⟨bs, 0, none⟩), .pointer (some ⟨by_, 0, none⟩), .pointer (some ⟨bo, 0, none⟩), .pointer (some ⟨bq, 0, none⟩)])) (first | exact (HS.out.at_ hst3.chg).2.2.2.2.2.2 | exact i7 | exact HK7.out _ (Nw.drew (Nw.refl _)))
                  ((go_at_call 35; with_reducible refine (HII.out _ (Nw.drew (Nw.refl _))).mono ?_; intro e W5 hP5; unfold FromP at hP5; obtain ⟨sm2, gg, v3, cn3, zs2, he5, hcame, hsm2, hst3, hcn3, hj3, hchg3, hmv3⟩ := hP5; subst he5))
                rename_i hHeld
                clear hHeld
                have HCAME := Lib.hid hcame
                have HSM2 := Lib.hid hsm2
                have HST3 := Lib.hid hst3
                have HCN3 := Lib.hid hcn3
                have HJ3 := Lib.hid hj3
                have HCH3 := Lib.hid hchg3
                have HMV3 := Lib.hid hmv3
                obtain ⟨A3, c3, hv3, -, hc3, -⟩ := OwnI.form2 hst3.own
                rw [natI_len] at hv3 hc3
                simp only [List.length_append, List.length_cons, List.length_nil, Nat.zero_add, ← HKL.out] at hv3 hc3
                subst hv3
                clear hcame hsm2 hst3 hcn3 hj3 hchg3 hmv3
                clear i0 i2 i3 i4 i5 i6 i7 i9 iz
                obtain ⟨i0, i2, i3, i4, i5, i6, i7⟩ := HS.out.at_ HST3.out.chg
                have i9 := HST3.out.ob
                have iz := HST3.out.oz
                haveI : In sb W5 := ⟨World.block_lt_of_cell? W5 _ i0⟩
                haveI : In bs W5 := ⟨World.block_lt_of_cell? W5 _ i5⟩
                haveI : In by_ W5 := ⟨World.block_lt_of_cell? W5 _ i6⟩
                haveI : In bq W5 := ⟨World.block_lt_of_cell? W5 _ i7⟩
                haveI : In bo W5 := ⟨World.block_lt_of_cell? W5 _ i9⟩
                have hc4 : (k : Int) ≤ (c3 : Int) := by omega
                have hc5 : k ≤ c3 := by omega
                have hk0 : (0 : Int) ≤ (k : Int) := by omega
                have hwk : wrap64 (k : Int) = k := by have := HK10.out; have := H10.out; unfold wrap64; omega
                have HSS := Lib.hid (HST3.out.pop HKL.out.symm HS.out.x4.1 HS.out.lo)
                have HCH6 := Lib.hid (show Chg ([bo, vb, c0, c1] ++ v.ownBlock.toList) W1 (W5.setCell ⟨bo, 0, none⟩ (.slice A3 k c3)) ∧ (∀ z, (Value.slice A3 k c3).ownBlock = some z → v.ownBlock = some z ∨ W1.heap.size ≤ z) by
                  have e1 : Chg ([bo, vb, c0, c1] ++ v.ownBlock.toList) W1 wr := HL.out.chg
                  have l1 := e1.size
                  have l2 := HNN.out.grown.size
                  have l3 := HCS.out.size
                  have own1 : ∀ z, (Value.slice A1 k cv1).ownBlock = some z → v.ownBlock = some z ∨ W1.heap.size ≤ z := HL.out.mv
                  have own2 : ∀ z, (Value.slice A2 (k + 1) cv2).ownBlock = some z → v.ownBlock = some z ∨ W1.heap.size ≤ z := fun z hz => by
                    rcases HMA.out z hz with h | h
                    · exact own1 z h
                    · right; omega
                  refine ⟨?_, fun z hz => ?_⟩
                  · have e2 := e1.trans (Chg.of_nw HNN.out)
                    have e3 := e2.then HCS.out (fun z hz => by
                      rcases List.mem_append.1 hz with hz | hz
                      · simp at hz; subst hz; simp
                      · rcases own1 z (by simpa using hz) with h | h
                        · left; simp [h]
                        · exact .inr h)
                    have e4 := (e3.trans (Chg.of_nw (Nw.drew (Nw.refl _)))).then HCH3.out (fun z hz => by
                      rcases List.mem_append.1 hz with hz | hz
                      · exact .inl (List.mem_append_left _ hz)
                      · rcases own2 z (by simpa using hz) with h | h
                        · left; simp [h]
                        · exact .inr h)
                    exact e4.trans ((Chg.set1 W5 bo 0 _).le (by simp))
                  · rw [own_slice_pop] at hz
                    rcases HMV3.out z hz with h | h
                    · exact own2 z h
                    · right
                      have h : wS.heap.size ≤ z := h
                      omega)
                have HJ6 := Lib.hid (show J (ys ++ (zs1 ++ zs2)) (.slice A3 k c3) (W5.setCell ⟨bo, 0, none⟩ (.slice A3 k c3)) by
                  rw [← List.append_assoc]
                  exact HJ.out _ _ _ (.slice A3 (k + 1) c3) _ _ HJ3.out (Chg.set1 W5 bo 0 _) (fun z hz => by simp at hz; exact .inl hz) (fun z hz => by rw [own_slice_pop] at hz; exact .inl hz))
                have HUP := Lib.hid (upTo_some (f := f) HYES.out HX.out HNS.out)
                cases gg with
                | false =>
                  have hfin : ∀ b : Bool, FromP go J W0 W l bo vb c0 c1 f o s ys v cnt (.returned (.tuple #[.bool b, .bool false])) (W5.setCell ⟨bo, 0, none⟩ (.slice A3 k c3)) := fun b => by
                    refine ⟨b, false, .slice A3 k c3, cn3, zs1 ++ zs2, rfl, ?_, fun h => by (cases h), HSS.out, by have := HCB.out.1; have := HCN3.out; omega, HJ6.out, (Chg.of_nw HN1.out).trans HCH6.out.1, fun z hz => (HCH6.out.2 z hz).imp id fun h => Nat.le_trans HN1.out.grown.size h⟩
                    obtain ⟨r, hr⟩ := upTo_pre l f o s (l.length - (i + 1)) (i + 1)
                    rw [show i + 1 + (l.length - (i + 1)) = l.length by have := HIN.out; have := HLN.out; omega, upTo_all] at hr
                    rw [hr, HUP.out]
                    have hcm := HCAME.out
                    rw [← HFF.out] at hcm
                    exact (HL.out.came.app hcm).more
                  have HFIN := Lib.hid hfin
                  clear hfin
                  cases sm with
                  | true =>
                    go_wp2_with fail
                    refine bodyPost_ret (results_tmp2 rfl _ _ _) rfl ?_
                    exact HFIN.out true
                  | false =>
                    go_wp2_with fail
                    refine bodyPost_ret (results_tmp2 rfl _ _ _) rfl ?_
                    exact HFIN.out sm2
                | true =>
                  have hfin : Li go J W0 W1 l bo vb c0 c1 f o s ys v cnt (i + 1) (sm || sm2) (W5.setCell ⟨bo, 0, none⟩ (.slice A3 k c3)) (.slice A3 k c3) (zs1 ++ zs2) cn3 := by
                    have hcm := HCAME.out
                    rw [← HFF.out] at hcm
                    refine ⟨by rw [HUP.out]; exact HL.out.came.app hcm, ?_, HSS.out, by have := HCB.out.2; have := HCN3.out; omega, HJ6.out, HCH6.out.1, HCH6.out.2⟩
                    rw [HL.out.sm_, HSM2.out rfl]
                    cases zs1 <;> cases zs2 <;> rfl
                  have HFIN := Lib.hid hfin
                  clear hfin
                  cases sm with
                  | true =>
                    go_wp2_with fail
                    exact ⟨⟨i + 1, by have := HIN.out; omega, by go_num, _, rfl, Lib.hid ⟨_, _, _, HFIN.out⟩⟩, by have := HIN.out; simp [intOf]; omega⟩
                  | false =>
                    go_wp2_with fail
                    exact ⟨⟨i + 1, by have := HIN.out; omega, by go_num, _, rfl, Lib.hid ⟨_, _, _, HFIN.out⟩⟩, by have := HIN.out; simp [intOf]; omega⟩
            · have hne : (((bm l i &&& (18446744073709551615 - D) : Nat) : Int) != 0) = true := by simp; omega
              have HNO := Lib.hid (show mayB l o i = false by
                cases hmb : mayB l o i with
                | false => rfl
                | true => exact absurd (hiff.2 hmb).2 hu)
              clear hu hiff hmem hu0 hb2
              go_wp2_with fail
              exact ⟨⟨i + 1, by have := HIN.out; omega, by go_num, sm, rfl, Lib.hid ⟨v1, zs1, cn1, HL.out.skip HJ.out (upTo_no HNO.out) (nwa)⟩⟩, by have := HIN.out; simp [intOf]; omega⟩
        · have j1 : ¬ (i : Int) < (n : Int) := by omega
          have hii : n = i := by omega
          subst hii
          have HUA := Lib.hid (show upTo l f o s n = exts l (f + 1) o s by rw [← HLN.out, upTo_all])
          have HCBN := Lib.hid (show cn1 + 1 ≤ cnt + tn l.length f by have h1 := HL.out.cb; have h2 : tn l.length f = 1 + l.length * tc l.length f := rfl; rw [HLN.out] at *; omega)
          have hqx : q ∉ [bo, vb, c0, c1] ++ v.ownBlock.toList := fun hx => by have h1 := HQV.out q hx; have h2 := HQ.out; omega
          have p0 := HL.out.chg.cell q0 hqx
          have p1 := HL.out.chg.cell q1 hqx
          haveI : In q wr := ⟨World.block_lt_of_cell? wr _ p0⟩
          clear hqx hi hin
          cases sm with
          | true =>
            go_wp2_with fail
            exact bodyPost_ret (results_tmp2 rfl _ _ _) rfl ⟨true, true, v1, cn1, zs1, rfl, by rw [← HUA.out]; exact HL.out.came, fun _ => HL.out.sm_, HL.out.st, by have := HCBN.out; omega, HL.out.j, (Chg.of_nw HN1.out).trans HL.out.chg, fun z hz => (HL.out.mv z hz).imp id fun h => Nat.le_trans HN1.out.grown.size h⟩
          | false =>
            have hz0 : zs1 = [] := by
              have := HL.out.sm_
              cases zs1 with
              | nil => rfl
              | cons => simp at this
            have hvn : Vn l D z := ⟨o, s, HMSK.out, HORD.out, HMS.out.nums, HMS.out.ok.u64, HZ.out, by
              have h1 := HL.out.came.all rfl
              rw [HUA.out, hz0] at h1
              rw [show l.length + 1 - o.length = f + 1 by have := HLEN.out; omega]
              exact h1.symm⟩
            obtain ⟨W7, hput, hv7, hg7⟩ := vain_put (HL.out.st.nw (Nw.drew (Nw.refl wr))).vn HMSK.out.1 HZL.out (by have := HCBN.out; have := HCNT.out; unfold maxLen; omega) hvn
            have hc7 : Chg [vb] wr W7 := (Chg.of_nw (Nw.drew (Nw.refl wr))).trans (Chg.of_grown hg7)
            have HC7 := Lib.hid hc7
            have HV7 := Lib.hid hv7
            have HZ0 := Lib.hid hz0
            clear hg7 hv7 hc7 hvn hz0
            go_wp2_with fail
            go_still_tail 5, (by kernel_rfl)
            go_wp2_with fail
            have hx4 := HS.out.x4
            have hb := HL.out.st
            refine bodyPost_ret (results_tmp2 rfl _ _ _) rfl ⟨false, true, v1, cn1 + 1, zs1, rfl, by rw [← HUA.out]; exact HL.out.came, fun _ => HL.out.sm_, ⟨hb.chg.trans (HC7.out.le (by simp)), HC7.out.cell hb.ob (by simp; exact hx4.1), (HC7.out.frozen (World.block_lt_of_cell? wr _ hb.ob) (by simp; exact hx4.1)).trans hb.oz, OwnI.chg hb.own HC7.out (fun g hg => by have h1 := (hb.own.lt g hg).1; have h2 := HS.out.lv; simp; omega), HV7.out⟩, HCBN.out, HJ.out _ _ _ _ _ _ HL.out.j HC7.out (fun z hz => by simp at hz; exact .inr (.inl hz)) (fun _ h => .inl h), ((Chg.of_nw HN1.out).trans HL.out.chg).trans (HC7.out.le (by simp)), fun z hz => (HL.out.mv z hz).imp id fun h => Nat.le_trans HN1.out.grown.size h⟩
end
end Go.Proofs.YtmbjpjpdcmjjgaaGreatDoor
