import Derived.Test.YtmbjpjpdcmjjgaaGreatDoorGFe
import Derived.Test.YtmbjpjpdcmjjgaaGreatDoorGP
set_option linter.unusedVariables false
set_option linter.unusedSimpArgs false
set_option linter.unnecessarySimpa false
namespace Go.Proofs.YtmbjpjpdcmjjgaaGreatDoor
open Go.RowKit Go.Xt
/-! Valid. -/
theorem wrap_k {k : Nat} (h : k < 1000) : wrap64 ((k : Int) + 1) = ((k + 1 : Nat) : Int) := by unfold wrap64; omega
def ValidP (w : World) (c : Cf) (cuts : List Nat) (o : List Int) (l : List Cl) (e : Ending) (w' : World) : Prop := e = .returned (.int .i64 (validE c cuts o l)) ∧ Nw w w'
set_option maxRecDepth 20000 in
set_option maxHeartbeats 8000000 in
theorem valid_err {w : World} {c : Cf} {cuts : List Nat} {A : Option Addr} {n cap : Nat} {l : List Cl} {O : Option Addr} {m oc : Nat} {o : List Int} (h : In2 w c cuts A n cap l) (he : begE c cuts l ≠ 0) :
    Calls Tryz.prog 13 #[confV c, .slice O m oc, .slice A n cap] w (ValidP w c cuts o l) := by
  have HB := Lib.hid (fun W (hq : Nw w W) => begin_err (h.nw hq) he)
  have HVE := Lib.hid (show validE c cuts o l = begE c cuts l by unfold validE; rw [if_neg he])
  obtain ⟨er, her⟩ : ∃ er, er = begE c cuts l := ⟨_, rfl⟩
  rw [← her] at HB HVE he
  have hne : (er != 0) = true := by simpa using he
  unfold confV at HB ⊢
  haveI hca : ConfAt (w.alloc (cellsOf c 27)) w.heap.size c := ⟨fun i v hv => by unfold cellsOf; unfold ccells at hv; rw [World.cell?_alloc_new]; simpa using hv, by simp⟩
  obtain ⟨W1, hW1⟩ : ∃ W, W = w.alloc (cellsOf c 27) := ⟨_, rfl⟩
  rw [← hW1] at hca
  have hn1 : Nw w W1 := by rw [hW1]; exact nwa
  unfold cellsOf at hW1
  have HW1 := Lib.hid hW1
  have HN1 := Lib.hid hn1
  haveI : In w.heap.size W1 := ⟨hca.lt⟩
  clear hW1 hn1 h her he
  go_enter Tryz.func13, Tryz.ntmps13
  go_upto_region 1 with (fail)
  rw [← HW1.out]
  go_wp2_with fail
  refine (HB.out W1 HN1.out).mono ?_
  rintro e W2 ⟨rfl, hn2⟩
  go_wp2
  exact bodyPost_ret (results_tmp rfl _ _ _) rfl ⟨by rw [HVE.out]; rfl, HN1.out.trans hn2⟩
set_option maxRecDepth 20000 in
set_option maxHeartbeats 8000000 in
theorem valid_agr {w : World} {c : Cf} {cuts : List Nat} {A : Option Addr} {n cap : Nat} {l : List Cl} {O : Option Addr} {m oc : Nat} {o : List Int} (h : In2 w c cuts A n cap l) (hm : m ≤ 1000) (ho : Is w O m o) (hwo : ∀ x ∈ o, (Lit.int .i64 x).wf = true) (he : begE c cuts l = 0) (ha : agrE o l ≠ 0) :
    Calls Tryz.prog 13 #[confV c, .slice O m oc, .slice A n cap] w (ValidP w c cuts o l) := by
  have HB := Lib.hid (fun W (hq : Nw w W) => begin_ok (h.nw hq) he)
  have HAG := Lib.hid (fun W (hq : Nw w W) => agrees_any O m oc o A n cap l W hm (ho.nw hq) hwo h.n1 h.nc h.cap_ (h.hl.nw hq) (fun y hy => (h.wf y hy).wf))
  have HVE := Lib.hid (show validE c cuts o l = agrE o l by unfold validE; rw [if_pos he, if_neg ha])
  obtain ⟨er, her⟩ : ∃ er, er = agrE o l := ⟨_, rfl⟩
  rw [← her] at HAG HVE ha
  have hne : (er != 0) = true := by simpa using ha
  unfold confV at HB ⊢
  haveI hca : ConfAt (w.alloc (cellsOf c 27)) w.heap.size c := ⟨fun i v hv => by unfold cellsOf; unfold ccells at hv; rw [World.cell?_alloc_new]; simpa using hv, by simp⟩
  obtain ⟨W1, hW1⟩ : ∃ W, W = w.alloc (cellsOf c 27) := ⟨_, rfl⟩
  rw [← hW1] at hca
  have hn1 : Nw w W1 := by rw [hW1]; exact nwa
  unfold cellsOf at hW1
  have HW1 := Lib.hid hW1
  have HN1 := Lib.hid hn1
  haveI : In w.heap.size W1 := ⟨hca.lt⟩
  clear hW1 hn1 h her he ha hm ho hwo
  go_enter Tryz.func13, Tryz.ntmps13
  go_upto_region 1 with (fail)
  rw [← HW1.out]
  go_wp2_with fail
  refine (HB.out W1 HN1.out).mono ?_
  intro e W2 hP
  unfold BegP at hP
  obtain ⟨sb, vb, B, cb, p, rfl, hS⟩ := hP
  have HS := Lib.hid hS
  have hsb : sb < W2.heap.size := World.block_lt_of_cell? W2 _ hS.s0
  haveI : In sb W2 := ⟨hsb⟩
  clear hS
  go_wp2_with fail
  refine (HAG.out _ (HN1.out.trans HS.out.nw)).mono ?_
  rintro e W3 ⟨rfl, hn3⟩
  have HN3 := Lib.hid hn3
  haveI : In sb W3 := ⟨Nat.lt_of_lt_of_le hsb hn3.grown.size⟩
  clear hn3 hsb
  go_wp2
  exact bodyPost_ret (results_tmp rfl _ _ _) rfl ⟨by rw [HVE.out]; rfl, HN1.out.trans (HS.out.nw.trans HN3.out)⟩
set_option maxRecDepth 20000 in
set_option maxHeartbeats 8000000 in
theorem valid_not {w : World} {c : Cf} {cuts : List Nat} {A : Option Addr} {n cap : Nat} {l : List Cl} {O : Option Addr} {m oc : Nat} {o : List Int} (h : In2 w c cuts A n cap l) (hm : m ≤ 1000) (ho : Is w O m o) (hwo : ∀ x ∈ o, (Lit.int .i64 x).wf = true) (he : begE c cuts l = 0) (ha : agrE o l = 0) (hb : agrB o l = false) :
    Calls Tryz.prog 13 #[confV c, .slice O m oc, .slice A n cap] w (ValidP w c cuts o l) := by
  have HB := Lib.hid (fun W (hq : Nw w W) => begin_ok (h.nw hq) he)
  have HAG := Lib.hid (fun W (hq : Nw w W) => agrees_any O m oc o A n cap l W hm (ho.nw hq) hwo h.n1 h.nc h.cap_ (h.hl.nw hq) (fun y hy => (h.wf y hy).wf))
  have HVE := Lib.hid (show validE c cuts o l = 18 by unfold validE; rw [if_pos he, if_pos ha, hb]; simp)
  rw [ha, hb] at HAG
  unfold confV at HB ⊢
  haveI hca : ConfAt (w.alloc (cellsOf c 27)) w.heap.size c := ⟨fun i v hv => by unfold cellsOf; unfold ccells at hv; rw [World.cell?_alloc_new]; simpa using hv, by simp⟩
  obtain ⟨W1, hW1⟩ : ∃ W, W = w.alloc (cellsOf c 27) := ⟨_, rfl⟩
  rw [← hW1] at hca
  have hn1 : Nw w W1 := by rw [hW1]; exact nwa
  unfold cellsOf at hW1
  have HW1 := Lib.hid hW1
  have HN1 := Lib.hid hn1
  haveI : In w.heap.size W1 := ⟨hca.lt⟩
  clear hW1 hn1 h he ha hm ho hwo hb
  go_enter Tryz.func13, Tryz.ntmps13
  go_upto_region 1 with (fail)
  rw [← HW1.out]
  go_wp2_with fail
  refine (HB.out W1 HN1.out).mono ?_
  intro e W2 hP
  unfold BegP at hP
  obtain ⟨sb, vb, B, cb, p, rfl, hS⟩ := hP
  have HS := Lib.hid hS
  have hsb : sb < W2.heap.size := World.block_lt_of_cell? W2 _ hS.s0
  haveI : In sb W2 := ⟨hsb⟩
  clear hS
  go_wp2_with fail
  refine (HAG.out _ (HN1.out.trans HS.out.nw)).mono ?_
  rintro e W3 ⟨rfl, hn3⟩
  have HN3 := Lib.hid hn3
  haveI : In sb W3 := ⟨Nat.lt_of_lt_of_le hsb hn3.grown.size⟩
  clear hn3 hsb
  go_wp2
  exact bodyPost_ret (results_tmp rfl _ _ _) rfl ⟨by rw [HVE.out]; rfl, HN1.out.trans (HS.out.nw.trans HN3.out)⟩
set_option maxRecDepth 20000 in
set_option maxHeartbeats 8000000 in
theorem valid_run {w : World} {c : Cf} {cuts : List Nat} {A : Option Addr} {n cap : Nat} {l : List Cl} {O : Option Addr} {m oc : Nat} {o : List Int} (h : In2 w c cuts A n cap l) (hm : m ≤ 1000) (ho : Is w O m o) (hwo : ∀ x ∈ o, (Lit.int .i64 x).wf = true) (he : begE c cuts l = 0) (ha : agrE o l = 0) (hb : agrB o l = true) (z : List Nat) (hz : o = natI z) (hzo : Ord l.length z) :
    Calls Tryz.prog 13 #[confV c, .slice O m oc, .slice A n cap] w (ValidP w c cuts o l) := by
  have HB := Lib.hid (fun W (hq : Nw w W) => begin_ok (h.nw hq) he)
  have HAG := Lib.hid (fun W (hq : Nw w W) => agrees_any O m oc o A n cap l W hm (ho.nw hq) hwo h.n1 h.nc h.cap_ (h.hl.nw hq) (fun y hy => (h.wf y hy).wf))
  have HVE := Lib.hid (show validE c cuts o l = if (runM l (s0M c) z).isSome = true ∧ fullB l z = true then 0 else 18 by unfold validE; rw [if_pos he, if_pos ha, hb, hz, toNat_natI]; simp)
  rw [ha, hb] at HAG
  have HE := Lib.hid he
  have H := Lib.hid h
  have HZO := Lib.hid hzo
  have hmz : z.length = m := by rw [← natI_len z, ← hz]; exact ho.1
  have HMZ := Lib.hid hmz
  have HIS := Lib.hid (show Is w O m (natI z) from hz ▸ ho)
  have h10 : n ≤ 10 := by have := (begE_ok he).2.2; have := h.hl.1; omega
  have H10 := Lib.hid h10
  have hm10 : m ≤ 10 := by have := sub_len z (List.range n) hzo.1 (fun i hi => by have := hzo.2 i hi; have := h.hl.1; simp; omega); simp at this; omega
  have HM10 := Lib.hid hm10
  unfold confV at HB ⊢
  haveI hca : ConfAt (w.alloc (cellsOf c 27)) w.heap.size c := ⟨fun i v hv => by unfold cellsOf; unfold ccells at hv; rw [World.cell?_alloc_new]; simpa using hv, by simp⟩
  obtain ⟨W1, hW1⟩ : ∃ W, W = w.alloc (cellsOf c 27) := ⟨_, rfl⟩
  rw [← hW1] at hca
  have hn1 : Nw w W1 := by rw [hW1]; exact nwa
  unfold cellsOf at hW1
  have HW1 := Lib.hid hW1
  have HN1 := Lib.hid hn1
  haveI : In w.heap.size W1 := ⟨hca.lt⟩
  clear hW1 hn1 h he ha hm ho hwo hb hz hzo hmz h10 hm10
  go_enter Tryz.func13, Tryz.ntmps13
  go_upto_region 1 with (fail)
  rw [← HW1.out]
  go_wp2_with fail
  refine (HB.out W1 HN1.out).mono ?_
  intro e W2 hP
  unfold BegP at hP
  obtain ⟨sb, vb, B, cb, p, rfl, hS⟩ := hP
  have HS := Lib.hid hS
  have hsb : sb < W2.heap.size := World.block_lt_of_cell? W2 _ hS.s0
  haveI : In sb W2 := ⟨hsb⟩
  clear hS
  go_wp2_with fail
  refine (HAG.out _ (HN1.out.trans HS.out.nw)).mono ?_
  rintro e W3 ⟨rfl, hn3⟩
  have HN3 := Lib.hid hn3
  haveI : In sb W3 := ⟨Nat.lt_of_lt_of_le hsb hn3.grown.size⟩
  clear hn3 hsb
  have hs := HS.out.to HN3.out
  have f0 := hs.s0
  have f1 := hs.s1
  have f2 := hs.s2
  have f3 := hs.s3
  have f4 := hs.s4
  clear hs
  go_wp2_with fail
  have HW3 := Lib.hid (HN1.out.trans (HS.out.nw.trans HN3.out))
  have HLW := Lib.hid (H.out.hl.nw HW3.out)
  have HIW := Lib.hid (HIS.out.nw HW3.out)
  have HM3 := Lib.hid (HS.out.ms.nw HN3.out)
  obtain ⟨gm, hgm⟩ : ∃ g, g = p.gm := ⟨_, rfl⟩
  have HGM := Lib.hid hgm
  rw [← hgm] at f1
  rw [← hgm]
  clear hgm
  go_loopw [10, 11, 40] (fun a10 a11 a40 wr => ∃ k : Nat, k ≤ m ∧ a40 = .int .i64 k ∧ ∃ D : Nat, a11 = .int .i64 D ∧ ∃ g : Nat, a10 = .pointer (some ⟨g, 0, none⟩) ∧ Hid (∃ p' s, g = p'.gm ∧ runM l (s0M c) (z.take k) = some s ∧ MS wr p' s k ∧ Msk D (z.take k) ∧ Nw W3 wr)) (fun _ _ a40 _ => m - (intOf a40).toNat)
  case atStart => exact ⟨0, Nat.zero_le _, rfl, 0, rfl, gm, rfl, Lib.hid ⟨p, s0M c, HGM.out, rfl, HM3.out, Msk.nil, Nw.refl _⟩⟩
  case round =>
    obtain ⟨k, hk, rfl, D, rfl, g, rfl, HI⟩ := hrel
    obtain ⟨p', s, hg, hrun, hms, hD, hnw⟩ := HI.out
    have HRUN := Lib.hid hrun
    have HMS := Lib.hid hms
    have HD := Lib.hid hD
    have HNW := Lib.hid hnw
    have HG := Lib.hid hg
    have i0 := cell_nw f0 hnw
    have i3 := cell_nw f3 hnw
    haveI : In sb wr := ⟨World.block_lt_of_cell? wr _ i0⟩
    by_cases hkm : k < m
    · obtain ⟨ob, oo, q', eO, hob, hq, hqc⟩ := (HIW.out.nw hnw).get hkm
      obtain ⟨q, hzq, rfl⟩ : ∃ q, z[k]? = some q ∧ q' = (q : Int) := by
        rw [natI, List.getElem?_map] at hq
        obtain ⟨q, h1, h2⟩ := Option.map_eq_some_iff.1 hq
        exact ⟨q, h1, h2.symm⟩
      have hqn : q < n := by have := HZO.out.2 q (List.mem_of_getElem? hzq); have := H.out.hl.1; omega
      obtain ⟨x, hx⟩ : ∃ x, l[q]? = some x := ⟨l[q]'(by have := H.out.hl.1; omega), List.getElem?_eq_getElem _⟩
      have hNX := fun W (hq : Nw wr W) => lnx_any W p' s k (HMS.out.nw hq) (by have := HM10.out; omega) sb A n cap q l x (cell_nw i0 hq) H.out.n1 (H.out.hl.nw (HW3.out.trans (HNW.out.trans hq))) hqn hx (H.out.wf x (List.mem_of_getElem? hx))
      rw [← hg] at hNX
      have HNX := Lib.hid hNX
      have hkm2 : (k : Int) < (m : Int) := by omega
      have hz1 : z.take (k + 1) = z.take k ++ [q] := by rw [List.take_add_one, hzq]; rfl
      have HZ1 := Lib.hid hz1
      have HX := Lib.hid hx
      have HZQ := Lib.hid hzq
      have HKM := Lib.hid hkm
      have HQN := Lib.hid hqn
      subst eO
      haveI : In ob wr := ⟨hob⟩
      clear HI hrun hms hD hg hNX hzq hz1 hx hk hkm hob hq hnw
      go_wp2_with fail
      refine (HNX.out wr (Nw.refl _)).mono ?_
      intro e W5 hP
      have hrunS : runM l (s0M c) (z.take (k + 1)) = (nextM s x).bind fun s' => some s' := by
        rw [HZ1.out, runM_app, HRUN.out]
        show runM l s [q] = _
        rw [runM, HX.out]
        cases h : nextM s x with
        | none => simp [h]
        | some s' => simp [h, runM]
      unfold NextP at hP
      cases hnx : nextM s x with
      | none =>
        rw [hnx] at hP hrunS
        obtain ⟨rfl, hn5⟩ := hP
        have hno : runM l (s0M c) z = none := by
          rw [← List.take_append_drop (k + 1) z, runM_app, hrunS]; rfl
        have HVN := Lib.hid (show validE c cuts o l = 18 by rw [HVE.out, hno]; simp)
        have HN5 := Lib.hid hn5
        clear hrunS hnx hno hn5
        go_wp2
        exact bodyPost_ret (results_tmp rfl _ _ _) rfl ⟨by rw [HVN.out]; rfl, HW3.out.trans (HNW.out.trans HN5.out)⟩
      | some s' =>
        rw [hnx] at hP hrunS
        obtain ⟨p5, rfl, hms5, -, hn5⟩ := hP
        obtain ⟨g5, hg5⟩ : ∃ g, g = p5.gm := ⟨_, rfl⟩
        rw [← hg5]
        have HG5 := Lib.hid hg5
        have HMS5 := Lib.hid hms5
        have HN5 := Lib.hid hn5
        have HR5 := Lib.hid hrunS
        have hq20 : q < 20 := by have := HQN.out; have := H10.out; omega
        have HQ20 := Lib.hid hq20
        have hqneg : ¬ (q : Int) < 0 := by omega
        clear hrunS hnx hms5 hn5 hg5
        go_wp2
        have hwk : wrap64 ((k : Int) + 1) = ((k + 1 : Nat) : Int) := wrap_k (by have := HKM.out; have := HM10.out; omega)
        rw [hwk]
        refine ⟨⟨k + 1, by have := HKM.out; omega, rfl, D ||| 2 ^ q, by rw [or_form HD.out.1 HQ20.out], g5, rfl, Lib.hid ⟨p5, s', HG5.out, by rw [HR5.out]; rfl, HMS5.out, by rw [HZ1.out]; exact HD.out.snoc HQ20.out, HNW.out.trans HN5.out⟩⟩, by have := HKM.out; simp [intOf]; omega⟩
    · have hkk : k = m := by omega
      have j1 : ¬ (k : Int) < (m : Int) := by omega
      subst hkk
      have hzz : z.take k = z := List.take_of_length_le (by rw [HMZ.out]; exact Nat.le_refl _)
      rw [hzz] at hrun hD
      have HR := Lib.hid hrun
      have HDF := Lib.hid hD
      have hml : mu l < 1048576 := mk_lt20 _ (by have := H.out.hl.1; have := H10.out; omega)
      have hbits := bits_and64 D (mu l) (by have := hD.1; omega) (by omega)
      clear HI hrun hms hg hk hnw hzz hml hD
      by_cases hfull : fullB l z = true
      · have hmu := (mu_iff HDF.out).2 hfull
        rw [hmu] at hbits
        have HVN := Lib.hid (show validE c cuts o l = 0 by rw [HVE.out, HR.out, hfull]; simp)
        clear hfull hmu
        go_wp2
        go_region
        go_wp2
        exact bodyPost_ret (results_tmp rfl _ _ _) rfl ⟨by rw [HVN.out]; rfl, HW3.out.trans (HNW.out.trans (Nw.drew (Nw.refl _)))⟩
      · have hmu : ¬ ((D &&& mu l : Nat) : Int) = ((mu l : Nat) : Int) := fun e => hfull ((mu_iff HDF.out).1 (by omega))
        have HVN := Lib.hid (show validE c cuts o l = 18 by rw [HVE.out, if_neg (fun h => hfull h.2)])
        obtain ⟨dm, hdm⟩ : ∃ d, d = D &&& mu l := ⟨_, rfl⟩
        rw [← hdm] at hbits hmu
        clear hfull hdm
        go_wp2
        go_region
        go_wp2
        exact bodyPost_ret (results_tmp rfl _ _ _) rfl ⟨by rw [HVN.out]; rfl, HW3.out.trans (HNW.out.trans (Nw.drew (Nw.refl _)))⟩
theorem validL_any {w : World} {c : Cf} {cuts : List Nat} {A : Option Addr} {n cap : Nat} {l : List Cl} {O : Option Addr} {m oc : Nat} {o : List Int} (h : In2 w c cuts A n cap l) (hm : m ≤ 1000) (ho : Is w O m o) (hwo : ∀ x ∈ o, (Lit.int .i64 x).wf = true) :
    Calls Tryz.prog 13 #[confV c, .slice O m oc, .slice A n cap] w (ValidP w c cuts o l) := by
  by_cases he : begE c cuts l = 0
  · by_cases ha : agrE o l = 0
    · cases hb : agrB o l with
      | true =>
        obtain ⟨z, hz, hzo⟩ := agr_ord (begE_ok he).2.1 ha
        exact valid_run h hm ho hwo he ha hb z hz hzo
      | false => exact valid_not h hm ho hwo he ha hb
    · exact valid_agr h hm ho hwo he ha
  · exact valid_err h he
end Go.Proofs.YtmbjpjpdcmjjgaaGreatDoor
namespace Go.Proofs.YtmbjpjpdcmjjgaaGreatDoor
open Go.RowKit Go.Xt
/-! What the laws use: copies of calls and of a configuration. -/
class BoxAt (w : World) (b : Nat) : Prop where
  row : ∃ (old : Array Value) (t : TypeId), w.heap[b]? = some (.cells old t (0, 0)) ∧ old.size = 16
theorem BoxAt.lt {w : World} {b : Nat} (h : BoxAt w b) : b < w.heap.size := by
  obtain ⟨old, t, h1, h2⟩ := h.row
  rcases Nat.lt_or_ge b w.heap.size with h | h
  · exact h
  · rw [Array.getElem?_eq_none h] at h1; cases h1
theorem BoxAt.nw {w w' : World} {b : Nat} (h : BoxAt w b) (hn : Nw w w') : BoxAt w' b := by
  obtain ⟨old, t, h1, h2⟩ := h.row
  exact ⟨old, t, (hn.grown.block b h.lt (by simp)).trans h1, h2⟩
instance {w d : World} {b : Nat} [h : BoxAt w b] : BoxAt (w.ext none d) b := h.nw ⟨d, rfl⟩
instance {w : World} {b : Nat} {x : Obj} [h : BoxAt w b] : BoxAt (w.alloc x) b := h.nw ((Nw.refl _).alloc _)
instance {w : World} {b : Nat} [h : BoxAt w b] : BoxAt w.drew b := ⟨h.row⟩
instance {w : World} {b o : Nat} {v : Value} [h : BoxAt w b] : BoxAt (w.setCell ⟨b, o, none⟩ v) b := by
  obtain ⟨old, t, h1, h2⟩ := h.row
  rw [setCell_eq_setRow w b o old t _ v h1]
  exact ⟨_, t, setRow_heap w b old _ t _ h1, by simpa using h2⟩
theorem ConfAt.box {w : World} {c : Cf} {t : TypeId} : BoxAt (w.alloc (cellsOf c t)) w.heap.size := ⟨_, t, _root_.Go.heap_alloc_last w _, rfl⟩
def storeConf (p v : Value) : Sem Unit := Instr.storeAt 27 p v
@[go_sem ↓] theorem storeConf_in (p v : Value) : Instr.storeAt 27 p v = storeConf p v := rfl
theorem ccells_one (c : Cf) : (ccells c).toArray.all (·.oneCell') = true := by simp [ccells, Value.oneCell']
def putConf (w : World) (b : Nat) (c : Cf) : World := w.setRow b (ccells c).toArray
theorem run_storeConf {w : World} {b : Nat} {c : Cf} (h : BoxAt w b) : (storeConf (.pointer (some ⟨b, 0, none⟩)) (confV c)).run Tryz.prog w = .ok () (putConf w b c) := by
  obtain ⟨old, t, h1, h2⟩ := h.row
  show (Instr.storeAt _ _ _).run _ _ = _
  simp only [Instr.storeAt, Instr.sureAddr, Sem.run_bind, Sem.run_pure, Result.andThen_ok]
  exact run_storeVar_row w b t 27 old (ccells c).toArray h1 sizeConf h2 (ccells_one c)
theorem putConf_at {w : World} {b : Nat} {c : Cf} (h : BoxAt w b) : ConfAt (putConf w b c) b c := by
  obtain ⟨old, t, h1, h2⟩ := h.row
  refine ⟨fun i v hv => ?_, by unfold putConf; rw [setRow_size]; exact h.lt⟩
  unfold putConf
  rw [cell_setRow_same w b i old _ t _ h1]
  simpa using hv
theorem putConf_chg (w : World) (b : Nat) (c : Cf) : Chg [b] w (putConf w b c) :=
  ⟨rfl, rfl, rfl, by unfold putConf; simp, fun k _ hk => setRow_other w b k _ (by simpa using hk)⟩
theorem results_conf {fn : Func} {p : Tmp} {tmps : Array Value} {w : World} {b : Nat} {c : Cf} (h : fn.results = #[.cell p 27]) (hp : tmps.getD p undef = .pointer (some ⟨b, 0, none⟩)) (hc : ConfAt w b c) : (results fn tmps).run Tryz.prog w = .ok (confV c) w := by
  have hp' : tmps[p]?.getD undef = .pointer (some ⟨b, 0, none⟩) := by simpa using hp
  have hl := run_loadVar_mid (P := Tryz.prog) w b 0 27 (ccells c) _ (fun j v hv => by rw [Nat.zero_add]; exact hc.at_ j v hv) Tryz.underlying27 rfl sizeConf
  simp only [results, h]
  simp [hp', asAddr, hl]
  rfl
theorem rd_chg {w w' : World} {size n : Nat} {A : Option Addr} {xs : List Value} {X : List Nat} (h : Rd w size A n xs) (hc : Chg X w w') (hx : ∀ b o, A = some ⟨b, o, none⟩ → b ∉ X) : Rd w' size A n xs :=
  ⟨h.1, fun hn => by
    obtain ⟨b, o, rfl, hb, hcl⟩ := h.2 hn
    exact ⟨b, o, rfl, Nat.lt_of_lt_of_le hb hc.size, fun j u hu => hc.cell (hcl j u hu) (hx b o rfl)⟩⟩
theorem nInfo : (Tryz.prog.info? 32).map (fun i => (i.zero, i.size, i.bytes)) = some (some (.int .u64 0), 1, 8) := by kernel_rfl
def OwnN (w : World) (base : Nat) (v : Value) (l : List Nat) : Prop := w.ownsRow base 32 1 v l.length (nums l)
theorem nums_cells (l : List Nat) : ∀ u ∈ nums l, u.oneCell' = true := by
  intro u hu
  obtain ⟨x, _, rfl⟩ := List.mem_map.1 hu
  rfl
theorem Rd.take1 {w : World} {A : Option Addr} {n : Nat} {l : List Nat} (h : Rd w 1 A n (nums l)) {k : Nat} (hk : k ≤ n) : Rd w 1 A k (nums (l.take k)) :=
  ⟨by have := h.1; simp [nums] at this ⊢; omega, fun hn => by
    obtain ⟨b, o, hA, hb, hc⟩ := h.2 (by omega)
    refine ⟨b, o, hA, hb, fun j u hu => hc j u ?_⟩
    simp only [nums, List.map_take] at hu ⊢
    rw [List.getElem?_take] at hu
    split at hu
    · exact hu
    · cases hu⟩
theorem OwnN.form {w : World} {base : Nat} {v : Value} {l : List Nat} (h : OwnN w base v l) : ∃ A c, v = .slice A l.length c ∧ Rd w 1 A l.length (nums l) ∧ c ≤ maxLen := by
  rcases h.2 with ⟨rfl, h0⟩ | ⟨g, cap, cur, rfl, hb, hg, hn, hm, hcs, ht⟩
  · exact ⟨none, 0, by rw [h0], ⟨by simp [nums], fun hp => absurd hp (by omega)⟩, Nat.zero_le _⟩
  · refine ⟨_, cap, rfl, ⟨by simp [nums], fun _ => ⟨g, 0, rfl, (Array.getElem?_eq_some_iff.1 hg).1, fun i x hx => ?_⟩⟩, hm⟩
    have hi : i < l.length := by have := (List.getElem?_eq_some_iff.1 hx).1; simpa [nums] using this
    have k0 := World.ownsRow.cellAt h i (by omega)
    rw [Nat.zero_add]
    simpa [hx] using k0
set_option maxHeartbeats 2000000 in
theorem copyUints_any (A : Option Addr) (n c : Nat) (l : List Nat) (w : World) (hn : n ≤ 1000) (hl : Rd w 1 A n (nums l)) :
    Calls Tryz.prog 14 #[.slice A n c] w fun e w' => ∃ A' c', e = .returned (.slice A' n c') ∧ OwnN w' w.heap.size (.slice A' n c') l ∧ c' ≤ maxLen ∧ Nw w w' := by
  have hlen : l.length = n := by have := hl.1; simpa [nums] using this
  have HL := Lib.hid hl
  clear hl
  go_enter Tryz.func14, Tryz.ntmps14
  go_wp2_with (at_builtin; refine wpList_appS rfl _ _ 22 rfl 32 (.int .u64 0) 1 8 Tryz.underlying22 nInfo rfl (by decide) w _ (Nw.refl w) _ 0 [] rfl (World.ownsRow_nil _ _ _ _) _ n c (nums l) rfl HL.out (nums_cells l) (by unfold maxLen; omega) (by omega) ?_; intro vA dA hownA hnil)
  have h' : OwnN (w.ext none dA) w.heap.size vA l := by unfold OwnN; rw [hlen]; simpa using hownA
  obtain ⟨Av, cv, rfl, h2, h3⟩ := h'.form
  rw [hlen] at h' h2 ⊢
  exact bodyPost_ret (results_tmp rfl _ _ _) rfl ⟨Av, cv, rfl, h', h3, nwa⟩
set_option maxRecDepth 20000 in
set_option maxHeartbeats 2000000 in
theorem small_any (c : Cf) (cuts : List Nat) (w : World) (hcn : c.cn = cuts.length) (hcc : c.cn ≤ c.cc) (hcm : c.cc ≤ maxLen) (hl : Rd w 1 c.cA cuts.length (nums cuts)) :
    Calls Tryz.prog 5 #[confV c] w fun e w' => ∃ c' : Cf, e = .returned (confV c') ∧ c' = { c with cA := c'.cA, cn := min c.cn 70, cc := c'.cc } ∧ Rd w' 1 c'.cA (cuts.take 70).length (nums (cuts.take 70)) ∧ (∀ b o, c'.cA = some ⟨b, o, none⟩ → w.heap.size ≤ b) ∧ Nw w w' := by
  obtain ⟨m, hm⟩ : ∃ m, m = min c.cn 70 := ⟨_, rfl⟩
  have hmin : min (c.cn : Int) 70 = (m : Int) := by omega
  have hmn : m ≤ c.cn := by omega
  have hcu := fun W (hq : Nw w W) => copyUints_any c.cA m c.cc (cuts.take m) W (by omega) (Rd.take1 (Rd.nw hl hq) (by omega))
  have HCU := Lib.hid hcu
  have HM := Lib.hid hm
  have HCN := Lib.hid hcn
  have hmcc : (m : Int) ≤ (c.cc : Int) := by omega
  unfold confV at *
  obtain ⟨b0, hb0⟩ : ∃ b, b = w.heap.size := ⟨_, rfl⟩
  obtain ⟨Wb, hWb⟩ : ∃ W, W = (w.alloc (cellsOf c 27)).alloc (cellsOf ⟨0, 0, 0, 0, 0, 0, none, 0, 0, 0, 0, 0, 0, 0, 0, 0, 0, 0⟩ 27) := ⟨_, rfl⟩
  have hnb : Nw w Wb := by rw [hWb]; exact nwa
  haveI hca : ConfAt Wb b0 c := by
    have h1 : ConfAt (w.alloc (cellsOf c 27)) b0 c := ⟨fun i v hv => by unfold cellsOf; unfold ccells at hv; rw [hb0, World.cell?_alloc_new]; simpa using hv, by rw [hb0]; simp⟩
    rw [hWb]; infer_instance
  have HSZ := Lib.hid (show Wb.heap.size = b0 + 2 by rw [hWb, hb0]; simp)
  have hbx : BoxAt Wb (b0 + 1) := ⟨_, _, by rw [hWb, hb0]; exact heap_alloc2_new w _ _, rfl⟩
  have k6 : Wb.cell? ⟨b0, 6, none⟩ = some (.slice c.cA c.cn c.cc) := hca.at_ 6 _ rfl
  have z6 : Wb.frozen? ⟨b0, 6, none⟩ = false := by rw [hWb, hb0]; simp [go_sem, cellsOf]
  unfold cellsOf at hWb
  have HWB := Lib.hid hWb
  have HNB := Lib.hid hnb
  have HB0 := Lib.hid hb0
  have HBX := Lib.hid hbx
  have HCA := Lib.hid hca
  haveI : In b0 Wb := ⟨hca.lt⟩
  clear hcu hm hcn hl hWb hnb hb0 hbx
  go_enter Tryz.func5, Tryz.ntmps5
  go_upto_region 1 with (fail)
  rw [← HWB.out, ← HB0.out]
  go_wp2_with fail
  refine (HCU.out Wb HNB.out).mono ?_
  rintro e W2 ⟨A', cp', rfl, hown, hcp, hn2⟩
  obtain ⟨c', hc'⟩ : ∃ c' : Cf, c' = { c with cA := A', cn := m, cc := cp' } := ⟨_, rfl⟩
  have t6 := cell_nw k6 hn2
  have y6 := (frozen_nw (World.block_lt_of_cell? Wb _ k6) hn2).trans z6
  haveI : In b0 W2 := ⟨World.block_lt_of_cell? W2 _ t6⟩
  obtain ⟨W3, hW3⟩ : ∃ W, W = W2.setCell ⟨b0, 6, none⟩ (.slice A' m cp') := ⟨_, rfl⟩
  have hca3 : ConfAt W3 b0 c' := by
    refine ⟨fun i v hv => ?_, by rw [hW3, World.size_setCell]; exact (by assumption : In b0 W2).lt⟩
    rw [hW3]
    have hca2 := HCA.out.nw hn2
    by_cases h6 : i = 6
    · subst h6
      rw [World.cell?_setCell_same' _ _ _ (by rw [t6]; rfl)]
      rw [hc'] at hv; exact hv
    · rw [World.cell?_setCell_other _ _ _ _ (by simp [h6])]
      refine hca2.at_ i v ?_
      rw [hc'] at hv
      have hi : i < 16 := (List.getElem?_eq_some_iff.1 hv).1
      unfold ccells at hv ⊢
      match i, hi, h6 with
      | 0, _, _ => exact hv
      | 1, _, _ => exact hv
      | 2, _, _ => exact hv
      | 3, _, _ => exact hv
      | 4, _, _ => exact hv
      | 5, _, _ => exact hv
      | 7, _, _ => exact hv
      | 8, _, _ => exact hv
      | 9, _, _ => exact hv
      | 10, _, _ => exact hv
      | 11, _, _ => exact hv
      | 12, _, _ => exact hv
      | 13, _, _ => exact hv
      | 14, _, _ => exact hv
      | 15, _, _ => exact hv
  have hch3 : Chg [b0] W2 W3 := by rw [hW3]; exact Chg.set1 W2 b0 6 _
  have hbx3 : BoxAt W3 (b0 + 1) := by
    obtain ⟨old, t, h1, h2⟩ := (HBX.out.nw hn2).row
    exact ⟨old, t, (hch3.block _ ((HBX.out.nw hn2).lt) (by simp)).trans h1, h2⟩
  have hst : (storeConf (.pointer (some ⟨b0 + 1, 0, none⟩)) (confV c')).run Tryz.prog W3 = .ok () (putConf W3 (b0 + 1) c') := run_storeConf hbx3
  have hcf := putConf_at (c := c') hbx3
  have hch4 := putConf_chg W3 (b0 + 1) c'
  have HW3 := Lib.hid hW3
  have HC' := Lib.hid hc'
  have HN2 := Lib.hid hn2
  have HOWN := Lib.hid hown
  have HCF := Lib.hid hcf
  have HCH3 := Lib.hid hch3
  have HCH4 := Lib.hid hch4
  unfold confV at hst
  clear k6 z6 hn2 hW3 hc' hown hcf hbx3 hch3 hch4
  go_upto_region 2 with (fail)
  rw [← HW3.out]
  go_wp2
  have hb := HB0.out
  have hsz := HNB.out.grown.size
  refine bodyPost_ret (v := confV c') (results_conf rfl rfl HCF.out) rfl ⟨c', rfl, ?_, ?_, ?_, ?_⟩
  · rw [HC'.out, HM.out]
  · have hlen : (cuts.take 70).length = m := by rw [List.length_take]; have := HM.out; have := HCN.out; omega
    have htk : cuts.take m = cuts.take 70 := by
      rcases Nat.le_total cuts.length 70 with h | h
      · rw [List.take_of_length_le h, List.take_of_length_le (by have := HM.out; have := HCN.out; omega)]
      · rw [show m = 70 by have := HM.out; have := HCN.out; omega]
    have h1 := HOWN.out
    rw [htk] at h1
    have hcA : c'.cA = A' := by rw [HC'.out]
    rw [hcA]
    have h2 : OwnN (putConf W3 (b0 + 1) c') Wb.heap.size (.slice A' m cp') (cuts.take 70) := by
      unfold OwnN at h1 ⊢
      refine own_chg h1 ((HCH3.out.le (Y := [b0, b0 + 1]) (by simp)).trans (HCH4.out.le (by simp))) (fun g hg => ?_)
      have := (World.ownsRow.lt h1 g hg).1
      have := HSZ.out
      simp; omega
    obtain ⟨A2, c2, e, h3, -⟩ := h2.form
    injection e with e1 e2 e3
    rw [e1]; exact h3
  · intro b o e
    have h1 := HOWN.out
    unfold OwnN at h1
    have h2 := (World.ownsRow.lt h1 b (by rw [HC'.out] at e; rw [show A' = some ⟨b, o, none⟩ from e]; rfl)).1
    omega
  · have := HB0.out
    exact nw_chg2 (HNB.out.trans HN2.out) ((HCH3.out.le (Y := [b0, b0 + 1]) (by simp)).trans (HCH4.out.le (by simp))) (fun k hk => by simp at hk; omega)
end Go.Proofs.YtmbjpjpdcmjjgaaGreatDoor
