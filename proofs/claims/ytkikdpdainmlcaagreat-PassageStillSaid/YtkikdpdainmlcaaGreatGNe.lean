import Derived.Test.YtkikdpdainmlcaaGreatGNc
import Derived.Test.YtkikdpdainmlcaaGreatGKg
import Derived.Test.YtkikdpdainmlcaaGreatGOp
import Derived.RangeFuncNested
import Derived.RangeFuncBound
import Derived.RangeFuncCalls
import Derived.RangeFuncLeaves
import Derived.RangeFuncBox
import Derived.OwnWalkIn
import Derived.TacticsInMore
import Derived.LoopNIn
import Derived.LoopIn
import Derived.Sort.QuietIn
import Derived.Sort.CutIn
set_option linter.unusedVariables false
set_option linter.unusedSimpArgs false
set_option linter.unnecessarySimpa false
namespace Go.Proofs.YtkikdpdainmlcaaGreat
open Go.RowKit Go.Xt
/-! perform and states. -/
def s1M (c : Cf) : Md := ⟨c.sl, [], List.replicate c.thr.toNat Th0⟩
def finX : Except Nat (List Sta) → Except (Int × Int) (List Sta)
  | .error i => .error ((i : Int), 18)
  | .ok out => .ok out
def wX (c : Cf) (cuts : List Nat) (l : List Cl) : Except (Int × Int) (List Sta) :=
  if chkC c cuts ≠ 0 then .error (0, 2) else match bad l with
    | some i => .error ((i : Int), 15)
    | none => finX (mapsX (s1M c) l)
theorem wX_err {c : Cf} {cuts : List Nat} {l : List Cl} {z : Int × Int} (h : wX c cuts l = .error z) : z.2 ≠ 0 := by
  unfold wX at h
  split at h
  · injection h with h; subst h; show (2 : Int) ≠ 0; decide
  · split at h
    · injection h with h; subst h; show (15 : Int) ≠ 0; decide
    · unfold finX at h
      split at h
      · injection h with h; subst h; show (18 : Int) ≠ 0; decide
      · cases h
theorem putS_len (out : List Sta) (st : Int) (p : List (Int × Int)) : (putS out st p).length ≤ out.length + 1 := by
  unfold putS
  split
  · split
    · omega
    · simp
  · simp
theorem statesM_len (l : List Cl) : ∀ (ord : List Nat) (s : Md) (out o2 : List Sta), statesM l ord s out = .ok o2 → o2.length ≤ out.length + ord.length
  | [], s, out, o2, h => by simp only [statesM] at h; injection h with h; subst h; simp
  | i :: t, s, out, o2, h => by
    rw [statesM] at h
    cases hx : l[i]? with
    | none => rw [hx] at h; cases h
    | some c =>
      rw [hx] at h
      simp only at h
      cases hf : fitsM s c with
      | none => rw [hf] at h; cases h
      | some s' =>
        rw [hf] at h
        have h1 := statesM_len l t s' _ o2 h
        have h2 := putS_len out c.took s'.l
        rw [List.length_cons]; omega
theorem wX_ok {c : Cf} {cuts : List Nat} {l : List Cl} {out : List Sta} (h : wX c cuts l = .ok out) : chkC c cuts = 0 ∧ bad l = none ∧ mapsX (s1M c) l = .ok out := by
  unfold wX at h
  split at h
  · cases h
  · rename_i h0
    split at h
    · cases h
    · rename_i hb
      refine ⟨by omega, hb, ?_⟩
      unfold finX at h
      split at h
      · cases h
      · rename_i o ho; rw [ho]; injection h with h; rw [h]
theorem wX_len (c : Cf) (cuts : List Nat) (l : List Cl) : ∀ out, wX c cuts l = .ok out → out.length ≤ l.length + 1 := fun out h => by
  obtain ⟨-, hb, hm⟩ := wX_ok h
  have h1 := statesM_len l _ _ _ _ hm
  have h2 := (effL_is hb).len
  simp [out0] at h1; omega
structure In3 (w : World) (c : Cf) (cuts : List Nat) (A : Option Addr) (n cap : Nat) (l : List Cl) : Prop where
  rd : Rd w 1 c.cA cuts.length (nums cuts)
  cn : c.cn = cuts.length
  eng : 0 ≤ c.eng ∧ c.eng < 256
  n1 : n ≤ 1000
  nc : n ≤ cap
  cap_ : cap ≤ 9223372036854775807
  hl : Cs w A n l
  wf : ∀ y ∈ l, WfX y
theorem In3.nw {w w' : World} {c : Cf} {cuts : List Nat} {A : Option Addr} {n cap : Nat} {l : List Cl} (h : In3 w c cuts A n cap l) (hn : Nw w w') : In3 w' c cuts A n cap l :=
  { h with rd := h.rd.nw hn, hl := h.hl.nw hn }
theorem In3.lt {w : World} {c : Cf} {cuts : List Nat} {A : Option Addr} {n cap : Nat} {l : List Cl} (h : In3 w c cuts A n cap l) {b o : Nat} (hA : A = some ⟨b, o, none⟩) (hn : 0 < n) : b < w.heap.size := by
  obtain ⟨b', o', e, hb, -⟩ := h.hl.2 hn
  rw [hA] at e; injection e with e; injection e with e1 e2; omega
def Pf (wb : World) (ob gm : Nat) (l : List Cl) (ord : List Nat) (Ao : Option Addr) (no : Nat) (X : Except Nat (List Sta)) (k : Nat) (wr : World) : Prop :=
  ∃ (s : Md) (N : Nat) (p : Pl) (v : Value) (zs : List (Int × Value)) (out : List Sta), SmA wb ob p s N v zs out wr ∧ p.gm = gm ∧ statesM l (ord.drop k) s out = X ∧ N ≤ k ∧ out.length ≤ k + 1 ∧ Is wr Ao no (natI ord) ∧ ∀ b o, Ao = some ⟨b, o, none⟩ → b ∉ p.foot ∧ b ≠ ob ∧ v.ownBlock ≠ some b
def PerfP (wb : World) (ob : Nat) (X : Except (Int × Int) (List Sta)) (e : Ending) (W' : World) : Prop := match X with
  | .error z => e = .returned (.tuple #[.int .i64 z.1, .int .i64 z.2]) ∧ Nw wb W'
  | .ok out => e = .returned (.tuple #[.int .i64 0, .int .i64 0]) ∧ ∃ v zs, W'.cell? ⟨ob, 0, none⟩ = some v ∧ Sts W' wb.heap.size v zs out ∧ Nw wb W'
structure Ob (wb : World) (ob : Nat) (W : World) : Prop where
  nw : Nw wb W
  le : wb.heap.size ≤ ob
  c0 : W.cell? ⟨ob, 0, none⟩ = some (.slice none 0 0)
  z0 : W.frozen? ⟨ob, 0, none⟩ = false
theorem effS_drop {l : List Cl} {ord : List Nat} {s : Md} {out : List Sta} {k i : Nat} {x : Cl} (hk : ord[k]? = some i) (hx : l[i]? = some x) :
    statesM l (ord.drop k) s out = match fitsM s x with | none => .error i | some s' => statesM l (ord.drop (k + 1)) s' (putS out x.took s'.l) := by
  obtain ⟨p, e⟩ := List.getElem?_eq_some_iff.1 hk
  rw [List.drop_eq_getElem_cons p, e, statesM, hx]
  simp only
  cases fitsM s x <;> rfl
theorem perf_fin {c : Cf} {cuts : List Nat} {l : List Cl} (h1 : chkC c cuts = 0) (h2 : bad l = none) : wX c cuts l = finX (mapsX (s1M c) l) := by
  unfold wX
  rw [if_neg (by omega), h2]
set_option maxRecDepth 20000 in
set_option maxHeartbeats 8000000 in
theorem perform_bad {wb W : World} {ob : Nat} {c : Cf} {cuts : List Nat} {A : Option Addr} {n cap : Nat} {l : List Cl} (hi0 : In3 wb c cuts A n cap l) (hob : Ob wb ob W) (hno : chkC c cuts = 2) :
    Calls Tryz.prog 59 #[confV c, .slice A n cap, .func (.func 60) #[] #[.pointer (some ⟨ob, 0, none⟩)]] W (PerfP wb ob (wX c cuts l)) := by
  have hi := hi0.nw hob.nw
  have hx : wX c cuts l = .error (0, 2) := by unfold wX; rw [if_pos (by omega)]
  rw [hx]
  have HM := Lib.hid (fun W' (hq : Nw W W') => new_no c cuts W' (hi.rd.nw hq) hi.cn hi.eng hno)
  have HOB := Lib.hid hob
  unfold confV at HM ⊢
  haveI hca : ConfAt (W.alloc (cellsOf c 27)) W.heap.size c := ⟨fun i v hv => by unfold cellsOf; unfold ccells at hv; rw [World.cell?_alloc_new]; simpa using hv, by simp⟩
  obtain ⟨W1, hW1⟩ : ∃ W1, W1 = W.alloc (cellsOf c 27) := ⟨_, rfl⟩
  rw [← hW1] at hca
  have hn1 : Nw W W1 := by rw [hW1]; exact nwa
  unfold cellsOf at hW1
  have HW1 := Lib.hid hW1
  have HN1 := Lib.hid hn1
  haveI : In W.heap.size W1 := ⟨hca.lt⟩
  clear hW1 hn1 hi hi0 hob hno hx
  go_enter Tryz.func59, Tryz.ntmps59
  go_upto_region 1 with (fail)
  rw [← HW1.out]
  go_wp2_with (go_at_call 73; refine (HM.out _ (HN1.out.trans (nwa))).mono ?_; rintro e w' ⟨rfl, dW, rfl⟩)
  exact bodyPost_ret (results_tmp2 rfl _ _ _) rfl ⟨rfl, HOB.out.nw.trans (HN1.out.trans nwa)⟩
set_option maxRecDepth 20000 in
set_option maxHeartbeats 8000000 in
theorem perform_hist {wb W : World} {ob : Nat} {c : Cf} {cuts : List Nat} {A : Option Addr} {n cap : Nat} {l : List Cl} (hi0 : In3 wb c cuts A n cap l) (hob : Ob wb ob W) (hyes : chkC c cuts = 0) (hb : bad l ≠ none) :
    Calls Tryz.prog 59 #[confV c, .slice A n cap, .func (.func 60) #[] #[.pointer (some ⟨ob, 0, none⟩)]] W (PerfP wb ob (wX c cuts l)) := by
  have hi := hi0.nw hob.nw
  obtain ⟨i, hbi, hvi⟩ : ∃ i : Nat, bad l = some i ∧ chkV l = .tuple #[.int .i64 (i : Int), .int .i64 15] := by
    rcases chk_cases l with ⟨h1, h2⟩ | ⟨i, h1, h2⟩
    · exact absurd h1 hb
    · exact ⟨i, h1, h2⟩
  have hx : wX c cuts l = .error ((i : Int), 15) := by unfold wX; rw [if_neg (by omega), hbi]
  rw [hx]
  obtain ⟨th1, th2⟩ := cf_thr hyes
  obtain ⟨nt, hnt⟩ : ∃ nt : Nat, c.thr = nt := ⟨c.thr.toNat, by omega⟩
  have HM := Lib.hid (fun W' (hq : Nw W W') => new_yes c cuts nt W' (hi.rd.nw hq) hi.cn hi.eng hyes hnt (by omega))
  have HCK := Lib.hid (fun W' (hq : Nw W W') => check_anyH A n cap l W' hi.n1 hi.nc hi.cap_ (hi.hl.nw hq) (fun y hy => (hi.wf y hy).wf))
  have HOB := Lib.hid hob
  rw [hvi] at HCK
  unfold confV at HM ⊢
  haveI hca : ConfAt (W.alloc (cellsOf c 27)) W.heap.size c := ⟨fun i v hv => by unfold cellsOf; unfold ccells at hv; rw [World.cell?_alloc_new]; simpa using hv, by simp⟩
  obtain ⟨W1, hW1⟩ : ∃ W1, W1 = W.alloc (cellsOf c 27) := ⟨_, rfl⟩
  rw [← hW1] at hca
  have hn1 : Nw W W1 := by rw [hW1]; exact nwa
  unfold cellsOf at hW1
  have HW1 := Lib.hid hW1
  have HN1 := Lib.hid hn1
  haveI : In W.heap.size W1 := ⟨hca.lt⟩
  clear hW1 hn1 hi hi0 hob hyes hx hb hbi hvi hnt th1 th2
  go_enter Tryz.func59, Tryz.ntmps59
  go_upto_region 1 with (fail)
  rw [← HW1.out]
  go_wp2_with fail
  refine (HM.out W1 HN1.out).mono ?_
  rintro e W2 ⟨P0, rfl, -, -, hn2⟩
  go_wp2_with fail
  refine (HCK.out W2 (HN1.out.trans hn2)).mono ?_
  rintro e W3 ⟨rfl, hn3⟩
  have HN3 := Lib.hid ((HN1.out.trans hn2).trans hn3)
  clear hn2 hn3
  go_wp2
  exact bodyPost_ret (results_tmp2 rfl _ _ _) rfl ⟨rfl, HOB.out.nw.trans (HN3.out.trans (nwa))⟩
set_option maxRecDepth 20000 in
set_option maxHeartbeats 8000000 in
theorem perform_run {wb W : World} {ob : Nat} {c : Cf} {cuts : List Nat} {A : Option Addr} {n cap : Nat} {l : List Cl} (hi0 : In3 wb c cuts A n cap l) (hob : Ob wb ob W) (hyes : chkC c cuts = 0) (hb : bad l = none) :
    Calls Tryz.prog 59 #[confV c, .slice A n cap, .func (.func 60) #[] #[.pointer (some ⟨ob, 0, none⟩)]] W (PerfP wb ob (wX c cuts l)) := by
  have hi := hi0.nw hob.nw
  rw [perf_fin hyes hb]
  obtain ⟨X, hX⟩ : ∃ X, X = mapsX (s1M c) l := ⟨_, rfl⟩
  rw [← hX]
  have HXD := Lib.hid hX
  clear hX
  have hvi : chkV l = .tuple #[.int .i64 0, .int .i64 0] := by
    rcases chk_cases l with ⟨h1, h2⟩ | ⟨i, h1, h2⟩
    · exact h2
    · rw [hb] at h1; cases h1
  have hee : chkE l = 0 := by rw [chkE, if_pos hb]
  obtain ⟨th1, th2⟩ := cf_thr hyes
  obtain ⟨nt, hnt⟩ : ∃ nt : Nat, c.thr = nt := ⟨c.thr.toNat, by omega⟩
  have HM := Lib.hid (fun W' (hq : Nw W W') => new_yes c cuts nt W' (hi.rd.nw hq) hi.cn hi.eng hyes hnt (by omega))
  have HCK := Lib.hid (fun W' (hq : Nw W W') => check_anyH A n cap l W' hi.n1 hi.nc hi.cap_ (hi.hl.nw hq) (fun y hy => (hi.wf y hy).wf))
  have HEF := Lib.hid (fun W' (hq : Nw W W') => effects_any A n cap l W' hi.n1 hi.nc hi.cap_ (hi.hl.nw hq) (fun y hy => (hi.wf y hy).wf))
  rw [hvi] at HCK
  rw [hee] at HEF
  have HOB := Lib.hid hob
  have HI := Lib.hid hi
  have HI0 := Lib.hid hi0
  have HB := Lib.hid hb
  have HY := Lib.hid hyes
  have HNT := Lib.hid (show s1M c = ⟨c.sl, [], List.replicate nt Th0⟩ ∧ 1 ≤ nt ∧ nt ≤ 64 from ⟨by unfold s1M; rw [hnt, Int.toNat_natCast], by omega, by omega⟩)
  unfold confV at HM ⊢
  haveI hca : ConfAt (W.alloc (cellsOf c 27)) W.heap.size c := ⟨fun i v hv => by unfold cellsOf; unfold ccells at hv; rw [World.cell?_alloc_new]; simpa using hv, by simp⟩
  obtain ⟨W1, hW1⟩ : ∃ W1, W1 = W.alloc (cellsOf c 27) := ⟨_, rfl⟩
  rw [← hW1] at hca
  have hn1 : Nw W W1 := by rw [hW1]; exact nwa
  unfold cellsOf at hW1
  have HW1 := Lib.hid hW1
  have HN1 := Lib.hid hn1
  haveI : In W.heap.size W1 := ⟨hca.lt⟩
  clear hW1 hn1 hi hi0 hob hyes hb hvi hee hnt th1 th2
  go_enter Tryz.func59, Tryz.ntmps59
  go_upto_region 1 with (fail)
  rw [← HW1.out]
  go_wp2_with fail
  refine (HM.out W1 HN1.out).mono ?_
  rintro e W2 ⟨P0, rfl, hm2, hf2, hn2⟩
  obtain ⟨gm, hgm⟩ : ∃ g, g = P0.gm := ⟨_, rfl⟩
  rw [← hgm]
  have HGM := Lib.hid hgm
  have HM2 := Lib.hid (And.intro hm2 hf2)
  clear hgm hm2 hf2
  go_wp2_with fail
  refine (HCK.out W2 (HN1.out.trans hn2)).mono ?_
  rintro e W3 ⟨rfl, hn3⟩
  have HN3 := Lib.hid ((HN1.out.trans hn2).trans hn3)
  have HM3 := Lib.hid (And.intro (HM2.out.1.nw hn3) hn2)
  clear hn2 hn3
  go_wp2_with fail
  refine (HEF.out W3 HN3.out).mono ?_
  rintro e W4 ⟨vo, ys, rfl, hys, hown, hn4⟩
  have hyo : ys = effL l := (hys.1 HB.out).unique (effL_is HB.out)
  obtain ⟨no, hno⟩ : ∃ no, no = ys.length := ⟨_, rfl⟩
  obtain ⟨Ao, co, rfl, his, hle, hcm, hba⟩ := hown.newc (n := no) (by rw [natI_len, hno])
  have hnl : no ≤ 1000 := by rw [hno, hyo]; have := (effL_is HB.out).len; have := HI.out.hl.1; have := HI.out.n1; omega
  have HIS := Lib.hid his
  have HBL := Lib.hid (show ∀ b o, Ao = some ⟨b, o, none⟩ → b < W4.heap.size from fun b o e => (hown.lt b (by rw [e]; rfl)).2)
  have HNO := Lib.hid hno
  have HYO := Lib.hid hyo
  have HBA := Lib.hid hba
  have HN4 := Lib.hid (HN3.out.trans hn4)
  -- the model and the maps' box at the start
  have hsm : SmA wb ob P0 (s1M c) 0 (.slice none 0 0) [] [] W4 := by
    have hob4 := cell_nw HOB.out.c0 HN4.out
    have hszW := HOB.out.nw.grown.size
    have hobW : ob < W.heap.size := World.block_lt_of_cell? W _ HOB.out.c0
    have hW1s := HN1.out.grown.size
    refine ⟨⟨by rw [HNT.out.1]; exact HM3.out.1.nw hn4, by rw [HNT.out.1]; exact ⟨Nat.le_refl _, List.Pairwise.nil, fun _ h => (by cases h), (by simp; have := HNT.out.2; omega), fun x hx => (by rw [List.eq_of_mem_replicate hx]; exact ⟨fun h => (by cases h), fun h => (by cases h), fun h => (by cases h)⟩)⟩, by rw [HNT.out.1]; simp; have := HNT.out.2; omega⟩, fun g hg => ?_, HOB.out.nw.trans HN4.out, HOB.out.le, hob4, (frozen_nw hobW HN4.out).trans HOB.out.z0, ⟨World.ownsRow_nil _ _ _ _, rfl, fun i z s hz => by simp at hz, fun s hs => (by cases hs)⟩, fun g hg => (by cases hg), fun z hz => (by cases hz)⟩
    have := HM2.out.2 g hg
    exact ⟨by omega, by omega⟩
  have hft : ∀ g ∈ P0.foot, g < W3.heap.size := fun g hg => HM3.out.1.lt hg
  have HFT := Lib.hid hft
  have HSM := Lib.hid hsm
  have hput := wput_any wb ob P0 (s1M c) 0 (.slice none 0 0) [] [] W4 hsm (by omega) (by simp) (-1)
  rw [← HGM.out] at hput
  have HPUT := Lib.hid hput
  clear hsm hput hys hown his hno hyo hba hn4 hft
  go_wp2_with fail
  refine HPUT.out.mono ?_
  rintro e W5 ⟨rfl, v5, zs5, hsm5, hch5, hmv5⟩
  have hs1l : (s1M c).l = [] := rfl
  have hstart : Pf wb ob gm l ys Ao no (mapsX (s1M c) l) 0 W5 := by
    refine ⟨s1M c, 0, P0, v5, zs5, _, hsm5, HGM.out.symm, ?_, Nat.le_refl _, by rw [putS_nil]; simp, ?_, ?_⟩
    · rw [List.drop_zero, HYO.out, putS_nil, hs1l]; rfl
    · refine Is.chg HIS.out hch5 fun b o e hb => ?_
      have h1 := (HBA.out b o e).1
      have h2 : ob < W.heap.size := World.block_lt_of_cell? W _ HOB.out.c0
      have h3 := HN3.out.grown.size
      simp [Value.ownBlock] at hb; omega
    · intro b o e
      have h1 := (HBA.out b o e).1
      have h2 : ob < W.heap.size := World.block_lt_of_cell? W _ HOB.out.c0
      have h3 := HN3.out.grown.size
      refine ⟨fun hb => by have := HFT.out b hb; omega, by omega, fun hb => ?_⟩
      rcases hmv5 b hb with h | h
      · cases h
      · have := HBL.out b o e; omega
  have HST := Lib.hid hstart
  have HN5 := Lib.hid hsm5.nw
  clear hstart hsm5 hch5 hmv5 hs1l
  rw [← HXD.out] at HST
  have HEF2 := Lib.hid (show ∀ i ∈ ys, ∃ x, l[i]? = some x ∧ 0 ≤ x.took from fun i hi => by
    have := HYO.out; subst this; exact ((effL_is HB.out).2 i).1 hi)
  go_wp2_with fail
  go_loopw [13, 44] (fun _ a wr => ∃ k : Nat, k ≤ no ∧ a = .int .i64 k ∧ Hid (Pf wb ob gm l ys Ao no X k wr)) (fun _ a _ => no - (intOf a).toNat)
  case atStart => exact ⟨0, Nat.zero_le _, rfl, HST⟩
  case round =>
    obtain ⟨k, hk, rfl, hpf⟩ := hrel
    by_cases hlt : k < no
    · obtain ⟨s, N, p, v, zs, out, hsm, hg, hst, hNk, hol, his, hap⟩ := hpf.out
      obtain ⟨i, hi⟩ : ∃ i, ys[k]? = some i := ⟨_, List.getElem?_eq_getElem (by rw [← HNO.out]; exact hlt)⟩
      obtain ⟨x, hx, -⟩ := HEF2.out i (List.mem_of_getElem? hi)
      have hin : i < n := by rw [← HI.out.hl.1]; exact (List.getElem?_eq_some_iff.1 hx).1
      have hwx := HI.out.wf x (List.mem_of_getElem? hx)
      obtain ⟨b, o, z, rfl, hb, hz, hc⟩ := his.get hlt
      obtain ⟨q, rfl, hq⟩ := natI_get hz
      obtain rfl : q = i := by rw [hi] at hq; injection hq with hq; exact hq.symm
      obtain ⟨b2, o2, x2, rfl, hb2, hx2, hc2⟩ := (HI0.out.hl.nw hsm.nw).get hin
      obtain rfl : x = x2 := by rw [hx] at hx2; injection hx2
      haveI : CallAt wr b2 (o2 + q * 18) x := ⟨hc2, hb2⟩
      haveI : In b wr := ⟨hb⟩
      haveI : In b2 wr := ⟨hb2⟩
      have hF := fits_any wr p s N hsm.ms (by omega) x hwx
      rw [hg] at hF
      have HF := Lib.hid hF
      have HSM := Lib.hid hsm
      have HST2 := Lib.hid (effS_drop (s := s) (out := out) hi hx)
      have HST3 := Lib.hid hst
      have HG := Lib.hid hg
      have HIS2 := Lib.hid his
      have HAP := Lib.hid (hap b o rfl)
      have HNK := Lib.hid (show N ≤ k ∧ out.length ≤ k + 1 ∧ b < wr.heap.size from ⟨hNk, hol, hb⟩)
      have HX := Lib.hid hx
      have i1 : (k : Int) < (no : Int) := by omega
      have i2 : (q : Int) < (n : Int) := by omega
      have i3 : k < 1000000 := by omega
      clear hpf hsm hg hst hNk hol his hap hi hx hin hwx hb hz hq hb2 hx2 hc2 hF
      go_wp2_with fail
      refine HF.out.mono ?_
      intro e W6 hP
      unfold FitP at hP
      obtain ⟨rfl, s', p', hu, hm, hf⟩ := hP
      cases hfit : fitsM s x with
      | none =>
        have hX : X = .error q := by rw [← HST3.out, HST2.out, hfit]
        have hnw := (HSM.out.up hu hm).nw
        have HXX := Lib.hid hX
        have HNW := Lib.hid hnw
        clear hu hm hf hfit hX hnw
        go_wp2
        refine bodyPost_ret (results_tmp2 rfl _ _ _) rfl ?_
        rw [HXX.out]
        exact ⟨rfl, HNW.out⟩
      | some s2 =>
        obtain rfl := hf s2 hfit
        have hsm6 := HSM.out.up hu hm
        have hput := wput_any wb ob p' s2 (N + 1) v zs out W6 hsm6 (by have := HNK.out; omega) (by have := HNK.out; omega) x.took
        rw [hu.gm.trans HG.out] at hput
        have hcs6 := (HI0.out.hl.nw hsm6.nw).get (show q < n by omega)
        obtain ⟨b3, o3, x3, e3, hb3, hx3, hc3⟩ := hcs6
        obtain ⟨rfl, rfl⟩ : b2 = b3 ∧ o2 = o3 := by injection e3 with e3; injection e3 with e4 e5; exact ⟨e4, e5⟩
        obtain rfl : x = x3 := by have := HX.out; rw [this] at hx3; injection hx3
        have ht : W6.cell? ⟨b2, o2 + q * 18 + 10, none⟩ = some (.int .i64 x.took) := by
          obtain ⟨_, _, _, _, _, _, _, _, _, _, h10, _⟩ := hc3
          exact h10
        haveI : In b2 W6 := ⟨hb3⟩
        have his6 := HIS2.out.chg hu.chg (fun b' o' e => by injection e with e; injection e with e1 e2; subst e1; exact HAP.out.1)
        have hst4 : statesM l (ys.drop (k + 1)) s2 (putS out x.took s2.l) = X := by rw [← HST3.out, HST2.out, hfit]
        have HPUT2 := Lib.hid hput
        have HU := Lib.hid hu
        have HIS6 := Lib.hid his6
        have HST4 := Lib.hid hst4
        clear hu hm hf hfit hsm6 hput hx3 hc3 his6 hst4 hb3
        go_wp2_with fail
        refine HPUT2.out.mono ?_
        rintro e W7 ⟨rfl, v7, zs7, hsm7, hch7, hmv7⟩
        have hpf7 : Pf wb ob gm l ys (some ⟨b, o, none⟩) no X (k + 1) W7 := by
          have hbw := HNK.out.2.2
          have h67 : wr.heap.size ≤ W6.heap.size := HU.out.chg.size
          refine ⟨s2, N + 1, p', v7, zs7, _, hsm7, HU.out.gm.trans HG.out, HST4.out, by have := HNK.out; omega, ?_, ?_, ?_⟩
          · have := HNK.out.2.1
            unfold putS
            split
            · split
              · omega
              · simp; omega
            · simp; omega
          · refine HIS6.out.chg hch7 fun b' o' e => ?_
            injection e with e; injection e with e1 e2; subst e1
            simp only [List.mem_cons, Option.mem_toList, not_or]
            exact ⟨HAP.out.2.1, HAP.out.2.2⟩
          · intro b' o' e
            injection e with e; injection e with e1 e2; subst e1
            refine ⟨fun hb => ?_, HAP.out.2.1, fun hb => ?_⟩
            · rcases HU.out.mv b hb with h | h
              · exact HAP.out.1 h
              · omega
            · rcases hmv7 b hb with h | h
              · exact HAP.out.2.2 h
              · omega
        have HPF7 := Lib.hid hpf7
        clear hsm7 hch7 hmv7 hpf7
        go_wp2
        exact ⟨⟨k + 1, by omega, by go_num, HPF7⟩, by simp [intOf]; omega⟩
    · have hkn : k = no := by omega
      subst hkn
      obtain ⟨s, N, p, v, zs, out, hsm, hg, hst, hNk, hol, his, hap⟩ := hpf.out
      have hX : X = .ok out := by
        rw [← hst, List.drop_of_length_le (by rw [← HNO.out]; exact Nat.le_refl _)]; rfl
      have HXX := Lib.hid hX
      have HSM := Lib.hid hsm
      clear hpf hsm hg hst hNk hol his hap hX
      go_wp2
      refine bodyPost_ret (results_tmp2 rfl _ _ _) rfl ?_
      rw [HXX.out]
      exact ⟨rfl, v, zs, HSM.out.c0, HSM.out.sts, HSM.out.nw⟩
theorem wperform_any {wb W : World} {ob : Nat} {c : Cf} {cuts : List Nat} {A : Option Addr} {n cap : Nat} {l : List Cl} (hi : In3 wb c cuts A n cap l) (hob : Ob wb ob W) :
    Calls Tryz.prog 59 #[confV c, .slice A n cap, .func (.func 60) #[] #[.pointer (some ⟨ob, 0, none⟩)]] W (PerfP wb ob (wX c cuts l)) := by
  rcases chk_two c cuts with h | h
  · by_cases hb : bad l = none
    · exact perform_run hi hob h hb
    · exact perform_hist hi hob h hb
  · exact perform_bad hi hob h
def StP (w : World) (X : Except (Int × Int) (List Sta)) (e : Ending) (W' : World) : Prop := match X with
  | .error z => e = .returned (.tuple #[.slice none 0 0, .int .i64 z.1, .int .i64 z.2]) ∧ Nw w W'
  | .ok out => ∃ v zs, e = .returned (.tuple #[v, .int .i64 0, .int .i64 0]) ∧ Sts W' w.heap.size v zs out ∧ Nw w W'
set_option maxRecDepth 20000 in
set_option maxHeartbeats 8000000 in
theorem states_any {w : World} {c : Cf} {cuts : List Nat} {A : Option Addr} {n cap : Nat} {l : List Cl} (hi : In3 w c cuts A n cap l) :
    Calls Tryz.prog 37 #[confV c, .slice A n cap] w (StP w (wX c cuts l)) := by
  have HP := Lib.hid (fun W ob (hob : Ob w ob W) => wperform_any hi hob)
  have HE := Lib.hid (fun z (h : wX c cuts l = .error z) => wX_err h)
  obtain ⟨X, hX⟩ : ∃ X, X = wX c cuts l := ⟨_, rfl⟩
  rw [← hX] at HP HE ⊢
  unfold confV at HP ⊢
  obtain ⟨b0, hb0⟩ : ∃ b, b = w.heap.size := ⟨_, rfl⟩
  obtain ⟨Wb, hWb⟩ : ∃ W, W = (w.alloc (cellsOf c 27)).alloc (.cells #[.slice none 0 0] 88) := ⟨_, rfl⟩
  have hnb : Nw w Wb := by rw [hWb]; exact nwa
  haveI hca : ConfAt Wb b0 c := by
    have h1 : ConfAt (w.alloc (cellsOf c 27)) b0 c := ⟨fun i v hv => by unfold cellsOf; unfold ccells at hv; rw [hb0, World.cell?_alloc_new]; simpa using hv, by rw [hb0]; simp⟩
    rw [hWb]; infer_instance
  have hob : Ob w (b0 + 1) Wb := ⟨hnb, by omega, by rw [hWb, hb0]; simp [go_sem], by rw [hWb, hb0]; simp [go_sem]⟩
  unfold cellsOf at hWb
  have HWB := Lib.hid hWb
  have HB0 := Lib.hid hb0
  have HOB := Lib.hid hob
  haveI : In b0 Wb := ⟨hca.lt⟩
  have hmf : ∀ (fn : Fn) (first cap : Array Value) (w : World), (Instr.makeFunc fn first cap).run Tryz.prog w = .ok (.func fn first cap) w := fun _ _ _ _ => rfl
  clear hWb hnb hb0 hob hi hX
  go_enter Tryz.func37, Tryz.ntmps37
  go_upto_region 2 with (fail)
  rw [← HWB.out, ← HB0.out]
  go_wp2_with fail
  refine (HP.out Wb (b0 + 1) HOB.out).mono ?_
  intro e W2 hP
  unfold PerfP at hP
  cases X with
  | error z =>
    obtain ⟨rfl, hn⟩ := hP
    have hz := HE.out z rfl
    obtain ⟨z1, z2⟩ := z
    have hne : (z2 != 0) = true := by simpa using hz
    have HN := Lib.hid hn
    clear hz hn
    go_wp2
    exact bodyPost_ret (results_tmp3 rfl _ _ _) rfl ⟨rfl, HN.out⟩
  | ok out =>
    obtain ⟨rfl, v, zs, hc, hs, hn⟩ := hP
    obtain ⟨Av, cv, rfl⟩ := own_slice hs.row
    haveI : In (b0 + 1) W2 := ⟨World.block_lt_of_cell? W2 _ hc⟩
    have HS := Lib.hid hs
    have HN := Lib.hid hn
    clear hs hn
    go_wp2
    exact bodyPost_ret (results_tmp3 rfl _ _ _) rfl ⟨_, zs, rfl, HS.out, HN.out⟩
end Go.Proofs.YtkikdpdainmlcaaGreat
namespace Go.Proofs.YtkikdpdainmlcaaGreat
open Go.RowKit Go.Xt
attribute [local go_sem] Oper.semAt_some
/-! during: the maps between two steps, ranged over. -/
structure KCe (A B : World) : Prop where
  size : A.heap.size ≤ B.heap.size
  same : ∀ (b : Nat) (o : Obj), A.heap[b]? = some o → o.isCells = true → B.heap[b]? = some o
theorem KCe.refl (A : World) : KCe A A := ⟨Nat.le_refl _, fun _ _ h _ => h⟩
theorem KCe.trans {A B C : World} (h : KCe A B) (k : KCe B C) : KCe A C := ⟨Nat.le_trans h.size k.size, fun b o h1 h2 => k.same b o (h.same b o h1 h2) h2⟩
theorem KCe.nw {A B : World} (h : Nw A B) : KCe A B := ⟨h.grown.size, fun b o h1 _ => (h.grown.block b (Array.getElem?_eq_some_iff.1 h1).1 (by simp)).trans h1⟩
theorem KCe.put (W : World) (l : Nat) (o o' : Obj) (h : W.heap[l]? = some o) (hc : o.isCells = false) : KCe W (W.putObj l o') := by
  refine ⟨(grownBy_putObj' W l o').size, fun b o2 h1 h2 => ?_⟩
  have hb : b ≠ l := by rintro rfl; rw [h] at h1; injection h1 with h1; rw [h1] at hc; rw [hc] at h2; cases h2
  exact ((grownBy_putObj' W l o').block b (Array.getElem?_eq_some_iff.1 h1).1 (by simp; exact hb)).trans h1
theorem cells_of_cell {A : World} {b i : Nat} {v : Value} (hc : A.cell? ⟨b, i, none⟩ = some v) : ∃ o : Obj, A.heap[b]? = some o ∧ o.isCells = true := by
  unfold World.cell? at hc
  split at hc
  · rename_i h
    exact ⟨_, h, rfl⟩
  · cases hc
theorem KCe.heap {A B : World} (h : KCe A B) {b i : Nat} {v : Value} (hc : A.cell? ⟨b, i, none⟩ = some v) : B.heap[b]? = A.heap[b]? := by
  obtain ⟨o, h1, h2⟩ := cells_of_cell hc
  rw [h1]; exact h.same b o h1 h2
theorem KCe.cell {A B : World} (h : KCe A B) {b i : Nat} {v : Value} (hc : A.cell? ⟨b, i, none⟩ = some v) : B.cell? ⟨b, i, none⟩ = some v := (World.cell?_of_block (h.heap hc)).trans hc
theorem KCe.frozen {A B : World} (h : KCe A B) {b i : Nat} {v : Value} (hc : A.cell? ⟨b, i, none⟩ = some v) : B.frozen? ⟨b, i, none⟩ = A.frozen? ⟨b, i, none⟩ := World.frozen?_of_block (h.heap hc)
theorem KCe.rd {A B : World} (h : KCe A B) {size n : Nat} {Ad : Option Addr} {xs : List Value} (hs : 0 < size) (hr : Rd A size Ad n xs) : Rd B size Ad n xs :=
  ⟨hr.1, fun hn => by
    obtain ⟨b, o, rfl, hb, hc⟩ := hr.2 hn
    exact ⟨b, o, rfl, Nat.lt_of_lt_of_le hb h.size, fun j u hu => h.cell (hc j u hu)⟩⟩
def encS {β : Type} (vf : β → Value) (x : Int × β) : Array Value := #[.int .i64 x.1, vf x.2]
def ecells {β : Type} (vf : β → Value) (E : List (Int × β)) : List Value := stcs (E.map fun e => (e.1, vf e.2))
theorem ecells_get {β : Type} {vf : β → Value} {E : List (Int × β)} {i : Nat} {x : Int × β} (h : E[i]? = some x) : (ecells vf E)[i * 2]? = some (.int .i64 x.1) ∧ (ecells vf E)[i * 2 + 1]? = some (vf x.2) :=
  stcs_get _ i (x.1, vf x.2) (by rw [List.getElem?_map, h]; rfl)
theorem durL_drop {β : Type} {E : List (Int × β)} {k : Nat} {x : Int × β} (hx : E[k]? = some x) : E.drop k = x :: E.drop (k + 1) := by
  obtain ⟨p, e⟩ := List.getElem?_eq_some_iff.1 hx
  rw [List.drop_eq_getElem_cons p, e]
set_option maxRecDepth 100000 in
set_option maxHeartbeats 4000000 in
theorem dur1_in {β : Type} (vf : β → Value) (hvf : ∀ y, ∃ A n c, vf y = .slice A n c) (n : Nat) (hn : 1 ≤ n) (l Bm Bt Bf : Nat) (fr hi : Int) (A : Option Addr) (len cap : Nat) (E : List (Int × β)) (hlen : len ≤ 2000) (hE : E.length = len) (J Jx : List (Int × β) → World → Prop)
    (hY : ∀ pre x W, J pre W → pre.length < len → YieldAt Fence.wide (n - 1) Tryz.prog l (encS vf x) W fun e W' =>
      (e = .returned (.bool true) ∧ J (pre ++ [x]) W' ∧ KCe W W') ∨ (e = .returned (.bool false) ∧ Jx (pre ++ [x]) W'))
    (W : World) (hJ : AbidesFrom W.heap.size J) (hBm : W.cell? ⟨Bm, 0, none⟩ = some (.slice A len cap)) (hBt : W.cell? ⟨Bt, 0, none⟩ = some (.int .i64 hi)) (hBf : W.cell? ⟨Bf, 0, none⟩ = some (.int .i64 fr)) (hr : Rd W 2 A len (ecells vf E)) (h0 : J [] W) :
    CallsIn Fence.wide n Tryz.prog 77 #[.func (.yield l) #[] #[], .pointer (some ⟨Bm, 0, none⟩), .pointer (some ⟨Bt, 0, none⟩), .pointer (some ⟨Bf, 0, none⟩)] W fun e W' => (∃ v, e = .returned v) ∧
      ((∃ ys, ys = durL fr hi E ∧ J ys W') ∨ (∃ pre, (∃ suf, pre ++ suf = durL fr hi E) ∧ Jx pre W')) := by
  refine callsIn_of_wp Tryz.func77 rfl trivial ?_ rfl
  simp only [Tryz.ntmps77, List.size_toArray, List.length_cons, List.length_nil, Nat.reduceAdd, Nat.reduceSub, Array.replicate_succ, Array.replicate_zero, List.push_toArray, List.append_toArray, List.nil_append, List.cons_append]
  have HR := Lib.hid hr
  have HE := Lib.hid hE
  clear hr hE
  gi_wp2
  gi_loopw [5, 6, 9] (fun _ _ i wr => ∃ (k : Nat) (pre : List (Int × β)), k ≤ len ∧ i = .int .i64 k ∧ J pre wr ∧ Hid (pre ++ durL fr hi (E.drop k) = durL fr hi E ∧ KCe W wr ∧ pre.length ≤ k))
    (fun _ _ i _ => len - (intOf i).toNat)
  case atStart => exact ⟨0, [], Nat.zero_le _, rfl, h0, Lib.hid ⟨by simp, KCe.refl _, Nat.zero_le _⟩⟩
  case round =>
    obtain ⟨k, pre, hk, rfl, hJs, hH⟩ := hrel
    have hm := hH.out.2.1.cell hBm
    have ht := hH.out.2.1.cell hBt
    have hf := hH.out.2.1.cell hBf
    by_cases hlt : k < len
    · obtain ⟨x, hx⟩ : ∃ x, E[k]? = some x := ⟨_, List.getElem?_eq_getElem (by rw [HE.out]; exact hlt)⟩
      obtain ⟨x1, y⟩ := x
      obtain ⟨Ax, nx, cx, hxs⟩ := hvf y
      obtain ⟨b, o, rfl, hb, hc⟩ := (hH.out.2.1.rd (by decide) HR.out).2 (by omega)
      obtain ⟨g0, g1⟩ := ecells_get (vf := vf) hx
      simp only [hxs] at g1
      have a0 : wr.cell? ⟨b, o + k * 2, none⟩ = some (.int .i64 x1) := hc _ _ g0
      have a1 : wr.cell? ⟨b, o + k * 2 + 1, none⟩ = some (.slice Ax nx cx) := by have := hc _ _ g1; rw [← Nat.add_assoc] at this; exact this
      haveI : In b wr := ⟨hb⟩
      haveI : In Bm wr := ⟨World.block_lt_of_cell? wr _ hm⟩
      haveI : In Bt wr := ⟨World.block_lt_of_cell? wr _ ht⟩
      haveI : In Bf wr := ⟨World.block_lt_of_cell? wr _ hf⟩
      have HXS := Lib.hid hxs
      have i1 : (k : Int) < (len : Int) := by omega
      have i3 : k < 1000000 := by omega
      have HD := Lib.hid (durL_drop hx)
      have hJb : J pre (wr.alloc (.cells #[.int .i64 x1, .slice Ax nx cx] 92)) := hJ _ _ _ none hJs (World.grownBy_alloc wr _ none) (fun r e => by cases e)
      have hKb : KCe W (wr.alloc (.cells #[.int .i64 x1, .slice Ax nx cx] 92)) := hH.out.2.1.trans (KCe.nw nwa)
      have hH3 := hH.out.2.2
      clear hJs g0 g1 hc hb hxs
      by_cases hs : hi < x1
      · have d1 : decide (hi < x1) = true := by simpa using hs
        have hfin : Hid (pre = durL fr hi E) := by
          have := hH.out.1
          rw [HD.out, durL_stop (s := (x1, y)) hs] at this
          exact Lib.hid (by simpa using this)
        clear hs hx hH
        gi_wp2
        refine bodyPost_ret (results_none rfl _ _ _) rfl ?_
        exact ⟨⟨_, rfl⟩, .inl ⟨_, hfin.out, hJb⟩⟩
      · have d1 : decide (hi < x1) = false := by simpa using hs
        have m0 : (wr.alloc (.cells #[.int .i64 x1, .slice Ax nx cx] 92)).cell? ⟨Bm, 0, none⟩ = some (.slice (some ⟨b, o, none⟩) len cap) := cell_nw hm nwa
        have f0 : (wr.alloc (.cells #[.int .i64 x1, .slice Ax nx cx] 92)).cell? ⟨Bf, 0, none⟩ = some (.int .i64 fr) := cell_nw hf nwa
        have HKB := Lib.hid hKb
        have HJB := Lib.hid (fun nq : Nat => hJ _ _ _ none hJb (Nw.drewN (Nw.refl (wr.alloc (.cells #[.int .i64 x1, .slice Ax nx cx] 92))) nq).grown (fun r e => by cases e))
        have HJ := Lib.hid hH.out.1
        have HS := Lib.hid hs
        have w1 : IntKind.i64.wrap ((k : Int) + 1) = (k : Int) + 1 := by rw [IntKind.wrap_i64] <;> omega
        have w2 : wrap64 ((k : Int) + 1) = (k : Int) + 1 := by unfold wrap64; omega
        rcases (by omega : k + 1 = len ∨ k + 1 < len) with hl | hl
        · have d2 : decide ((k : Int) + 1 < (len : Int)) = false := by simp; omega
          have d3 : decide (k + 1 < len) = false := by simp; omega
          have HN := Lib.hid (show (pre ++ [(max x1 fr, y)]) ++ durL fr hi (E.drop (k + 1)) = durL fr hi E by
            have h1 := HJ.out
            rw [HD.out, List.drop_of_length_le (by rw [HE.out]; omega), durL_last (s := (x1, y)) HS.out] at h1
            rw [List.drop_of_length_le (by rw [HE.out]; omega), ← h1]; simp [durL])
          clear hs hx hH hJb hKb
          gi_upto_region 4 with (fail)
          gi_quiet (fail)
          obtain ⟨fn, tmps, assign, body, hy, hR⟩ := hY pre (max x1 fr, y) _ (HJB.out nq) (by omega)
          dsimp only [encS] at hy
          rw [HXS.out] at hy
          gi_wp2
          refine hR.mono ?_
          rintro e W3 (⟨rfl, hJ3, hk3⟩ | ⟨rfl, hJx3⟩)
          · have HK3 := Lib.hid hk3
            gi_wp2
            go_roundw
            case rel => exact ⟨k + 1, pre ++ [(max x1 fr, y)], by omega, by simp, hJ3, Lib.hid ⟨HN.out, (HKB.out.trans (KCe.nw nwa)).trans HK3.out, by simp; omega⟩⟩
            case measure => simp [intOf]; omega
          · gi_wp2
            refine bodyPost_ret (results_none rfl _ _ _) rfl ?_
            exact ⟨⟨_, rfl⟩, .inr ⟨_, ⟨_, HN.out⟩, hJx3⟩⟩
        · obtain ⟨⟨z1, zy⟩, hz⟩ : ∃ z, E[k + 1]? = some z := ⟨_, List.getElem?_eq_getElem (by rw [HE.out]; exact hl)⟩
          have HDZ := Lib.hid (durL_drop hz)
          obtain ⟨gz, -⟩ := ecells_get (vf := vf) hz
          have z0 : (wr.alloc (.cells #[.int .i64 x1, .slice Ax nx cx] 92)).cell? ⟨b, o + (k + 1) * 2, none⟩ = some (.int .i64 z1) := by
            obtain ⟨b', o', e, -, hc'⟩ := (HKB.out.rd (by decide) HR.out).2 (by omega)
            injection e with e; injection e with e1 e2; subst e1 e2
            exact hc' _ _ gz
          have d2 : decide ((k : Int) + 1 < (len : Int)) = true := by simp; omega
          have d3 : decide (k + 1 < len) = true := by simp; omega
          have i5 : (k : Int) + 1 < (len : Int) := by omega
          by_cases hzf : z1 ≤ fr
          · have d4 : decide (z1 ≤ fr) = true := by simpa using hzf
            have HN := Lib.hid (show pre ++ durL fr hi (E.drop (k + 1)) = durL fr hi E by
              have h1 := HJ.out
              rw [HD.out, HDZ.out, durL_skip (s := (x1, y)) (z := (z1, zy)) HS.out hzf, ← HDZ.out] at h1
              exact h1)
            clear hs hx hz hH hKb gz hzf
            gi_upto_region 4 with (fail)
            gi_quiet (fail)
            gi_wp2
            go_roundw
            case rel => exact ⟨k + 1, pre, by omega, by simp, HJB.out nq, Lib.hid ⟨HN.out, HKB.out.trans (KCe.nw nwa), by omega⟩⟩
            case measure => simp [intOf]; omega
          · have d4 : decide (z1 ≤ fr) = false := by simpa using hzf
            have HN := Lib.hid (show (pre ++ [(max x1 fr, y)]) ++ durL fr hi (E.drop (k + 1)) = durL fr hi E by
              have h1 := HJ.out
              rw [HD.out, HDZ.out, durL_go (s := (x1, y)) (z := (z1, zy)) HS.out hzf, ← HDZ.out] at h1
              rw [← h1]; simp)
            clear hs hx hz hH hJb hKb gz hzf
            gi_upto_region 4 with (fail)
            gi_quiet (fail)
            obtain ⟨fn, tmps, assign, body, hy, hR⟩ := hY pre (max x1 fr, y) _ (HJB.out nq) (by omega)
            dsimp only [encS] at hy
            rw [HXS.out] at hy
            gi_wp2
            refine hR.mono ?_
            rintro e W3 (⟨rfl, hJ3, hk3⟩ | ⟨rfl, hJx3⟩)
            · have HK3 := Lib.hid hk3
              gi_wp2
              go_roundw
              case rel => exact ⟨k + 1, pre ++ [(max x1 fr, y)], by omega, by simp, hJ3, Lib.hid ⟨HN.out, (HKB.out.trans (KCe.nw nwa)).trans HK3.out, by simp; omega⟩⟩
              case measure => simp [intOf]; omega
            · gi_wp2
              refine bodyPost_ret (results_none rfl _ _ _) rfl ?_
              exact ⟨⟨_, rfl⟩, .inr ⟨_, ⟨_, HN.out⟩, hJx3⟩⟩
    · obtain rfl : k = len := by omega
      have hfin : Hid (pre = durL fr hi E) := by
        have := hH.out.1
        rw [List.drop_of_length_le (by rw [HE.out]; exact Nat.le_refl _)] at this
        exact Lib.hid (by simpa [durL] using this)
      gi_wp2
      go_end0
      exact ⟨⟨_, rfl⟩, .inl ⟨_, hfin.out, hJs⟩⟩
end Go.Proofs.YtkikdpdainmlcaaGreat
