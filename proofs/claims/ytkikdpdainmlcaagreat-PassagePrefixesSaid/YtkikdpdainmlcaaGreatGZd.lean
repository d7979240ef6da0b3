import Derived.Test.YtkikdpdainmlcaaGreatGNq
import Derived.Test.YtkikdpdainmlcaaGreatGNg
import Derived.Test.YtkikdpdainmlcaaGreatGPh
import Derived.Test.YtkikdpdainmlcaaGreatGP
set_option linter.unusedVariables false
set_option linter.unusedSimpArgs false
set_option linter.unnecessarySimpa false
namespace Go.Proofs.YtkikdpdainmlcaaGreat
open Go.RowKit Go.Xt
/-! The plain law of PassagePrefixes. -/
theorem pfx_keep {s : Int} {x : Cl} (h1 : x.took ≤ s) (h2 : x.ans ≤ s) : pfx s x = x := by
  unfold pfx; rw [if_neg (by omega), if_neg (by omega)]
theorem fold_late {A : Int → Mp} {fr tz : Int} : ∀ (ts : List Int) (out : List Mp), (∀ t ∈ ts, tz < t) → ts.foldl (putM A fr tz) out = out
  | [], out, _ => rfl
  | t :: ts, out, h => by
    rw [List.foldl_cons]
    have e : putM A fr tz out t = out := by unfold putM; rw [if_pos (.inr (h t (by simp)))]
    rw [e]; exact fold_late ts out (fun u hu => h u (by simp [hu]))
theorem fold_same {A B : Int → Mp} {fr tz s : Int} (hz : tz ≤ s) (hfr : -1 ≤ fr) (he : ∀ t, -1 ≤ t → t ≤ s → A t = B t) : ∀ (ts : List Int) (out : List Mp), ts.foldl (putM A fr tz) out = ts.foldl (putM B fr tz) out
  | [], out => rfl
  | t :: ts, out => by
    rw [List.foldl_cons, List.foldl_cons]
    have e : putM A fr tz out t = putM B fr tz out t := by
      unfold putM
      split
      · rfl
      · rename_i h
        rw [he t (by omega) (by omega)]
    rw [e]; exact fold_same hz hfr he ts _
theorem dur_same {A B : Int → Mp} {fr tz s : Int} {ts ts' ts2 : List Int} (hz : tz ≤ s) (hfr : -1 ≤ fr) (hfs : fr ≤ s) (he : ∀ t, -1 ≤ t → t ≤ s → A t = B t) (h1 : ts = ts' ++ ts2) (h2 : ∀ t ∈ ts2, s < t) : durM A ts fr tz = durM B ts' fr tz := by
  unfold durM
  rw [h1, List.foldl_append, fold_late ts2 _ (fun t ht => by have := h2 t ht; omega), he fr hfr hfs]
  exact fold_same hz hfr he ts' _
theorem keep_same {A B : Int → Mp} {fr s : Int} {ts ts' ts2 : List Int} {c : Cl} {x : Lf} (hz : c.took ≤ s) (hfr : -1 ≤ fr) (hfs : fr ≤ s) (he : ∀ t, -1 ≤ t → t ≤ s → A t = B t) (h1 : ts = ts' ++ ts2) (h2 : ∀ t ∈ ts2, s < t) : keepM A ts fr c x = keepM B ts' fr c x := by
  unfold keepM; rw [dur_same hz hfr hfs he h1 h2]
theorem ofG_none {th : Int} : ∀ (r : List Cl) (i : Nat), (∀ c ∈ r, c.th ≠ th) → ofG th i r = []
  | [], i, _ => rfl
  | c :: r, i, h => by rw [ofG, if_pos (.inl (h c (by simp)))]; exact ofG_none r (i + 1) (fun d hd => h d (by simp [hd]))
abbrev cutP (s : Int) (r : List Cl) : List Cl := (r.takeWhile fun x => decide (x.inv ≤ s)).map (pfx s)
theorem run_cutP {A B : Int → Mp} {fr s : Int} {ts ts' ts2 : List Int} {l : List Cl} {th : Int} (hs : -1 ≤ s) (hfr : -1 ≤ fr) (hfs : fr ≤ s) (he : ∀ t, -1 ≤ t → t ≤ s → A t = B t) (h1 : ts = ts' ++ ts2) (h2 : ∀ t ∈ ts2, s < t) :
    ∀ (r : List Cl) (i : Nat) (x : Lf), (∀ j c, r[j]? = some c → l[i + j]? = some c) → (∀ j c, (cutP s r)[j]? = some c → (pres s l)[i + j]? = some c) → (∀ c ∈ r, 0 ≤ c.ans → c.took ≤ c.ans) →
      (r.Pairwise fun a b => a.th = b.th → 0 ≤ a.ans ∧ a.ans < b.inv) → runP A ts l fr x (ofG th i r) = none → runP B ts' (pres s l) fr x (ofG th i (cutP s r)) = none
  | [], i, x, _, _, _, _, _ => rfl
  | c :: r, i, x, hl, hp, ht, hw, hr => by
    have hw2 := List.pairwise_cons.1 hw
    have hl2 : ∀ j d, r[j]? = some d → l[i + 1 + j]? = some d := fun j d hd => by
      have := hl (j + 1) d (by simpa using hd)
      rw [show i + 1 + j = i + (j + 1) by omega]; exact this
    by_cases hinv : c.inv ≤ s
    · have hcut : cutP s (c :: r) = pfx s c :: cutP s r := by unfold cutP; rw [List.takeWhile_cons_of_pos (by simpa using hinv), List.map_cons]
      rw [hcut] at hp ⊢
      have hp2 : ∀ j d, (cutP s r)[j]? = some d → (pres s l)[i + 1 + j]? = some d := fun j d hd => by
        have := hp (j + 1) d (by simpa using hd)
        rw [show i + 1 + j = i + (j + 1) by omega]; exact this
      have ih := fun y => run_cutP (A := A) (B := B) (ts := ts) (ts' := ts') (l := l) (th := th) hs hfr hfs he h1 h2 r (i + 1) y hl2 hp2 (fun d hd => ht d (by simp [hd])) hw2.2
      by_cases hth : c.th = th
      · by_cases han : c.ans < 0
        · rw [ofG, if_pos (.inr han)] at hr
          rw [ofG, if_pos (.inr (by rw [pfx_ans]; split <;> omega))]
          exact ih x hr
        · by_cases has : c.ans ≤ s
          · have htk := ht c (by simp) (by omega)
            have e : pfx s c = c := pfx_keep (by omega) has
            rw [e] at hp ⊢
            rw [ofG, if_neg (by rintro (h | h); exact h hth; omega)] at hr ⊢
            by_cases hb : begB c = true
            · rw [if_pos hb]; rfl
            · rw [if_neg hb] at hr ⊢
              have hli : l[i]? = some c := by have := hl 0 c rfl; simpa using this
              have hpi : (pres s l)[i]? = some c := by have := hp 0 c rfl; simpa using this
              have hk : ∀ y, keepM A ts fr c y = keepM B ts' fr c y := fun y => keep_same (by omega) hfr hfs he h1 h2
              by_cases hkd : c.kd = 12 ∨ c.kd = 13 ∨ c.kd = 14
              · rw [if_pos hkd] at hr ⊢
                by_cases hend : c.kd = 14 ∧ c.re = 0
                · rw [if_pos hend] at hr ⊢
                  rw [runP, hli] at hr
                  rw [runP, hpi]
                  simp only at hr ⊢
                  rw [← hk x]
                  split at hr
                  · cases hr
                  · rename_i hn; rw [if_neg hn]; rfl
                · rw [if_neg hend] at hr ⊢
                  rw [runP, hli] at hr
                  rw [runP, hpi]
                  simp only at hr ⊢
                  rw [← hk x]
                  split at hr
                  · cases hr
                  · rename_i hn; rw [if_neg hn]; exact ih _ hr
              · rw [if_neg hkd] at hr ⊢
                exact ih x hr
          · have hskip : ofG th i (pfx s c :: cutP s r) = ofG th (i + 1) (cutP s r) := by
              rw [ofG, if_pos (.inr (by rw [pfx_ans, if_pos (by omega)]; decide))]
            rw [hskip, ofG_none (cutP s r) (i + 1) (fun d hd => by
              obtain ⟨y, hy, rfl⟩ := List.mem_map.1 hd
              rw [pfx_th]
              intro hyt
              have hyr : y ∈ r := (List.takeWhile_prefix _).subset hy
              have := hw2.1 y hyr (hth.trans hyt.symm)
              have hys : y.inv ≤ s := by
                obtain ⟨q, hq⟩ := List.mem_iff_getElem?.1 hy
                exact (tw_get hq).2.1
              omega)]
            rfl
      · rw [ofG, if_pos (.inl hth)] at hr
        rw [ofG, if_pos (.inl (by rw [pfx_th]; exact hth))]
        exact ih x hr
    · have hcut : cutP s (c :: r) = [] := by unfold cutP; rw [List.takeWhile_cons_of_neg (by simpa using hinv)]; rfl
      rw [hcut]; rfl
end Go.Proofs.YtkikdpdainmlcaaGreat
namespace Go.Proofs.YtkikdpdainmlcaaGreat
open Go.RowKit Go.Xt
/-! Final, At and Reads. -/
theorem own_none {W : World} {base : Nat} {e : TypeId} {size : Nat} {A : Option Addr} {n c m : Nat} {xs : List Value} (h : W.ownsRow base e size (.slice A n c) m xs) : A = none → n = 0 ∧ c = 0 := by
  rintro rfl
  rcases h.2 with ⟨h1, -⟩ | ⟨g, cap, cur, h1, -⟩
  · injection h1 with _ h2 h3; exact ⟨h2, h3⟩
  · injection h1 with h1; cases h1
def PairsP (w : World) (r : Int × List (Int × Int)) (e : Ending) (w' : World) : Prop := ∃ v, e = .returned (.tuple #[v, .int .i64 r.1]) ∧ w'.ownsRow w.heap.size 51 2 v r.2.length (pcells r.2) ∧ Nw w w' ∧ r.2.length ≤ 500000
def wFin (c : Cf) (cuts : List Nat) (l : List Cl) : Int × List (Int × Int) := match wX c cuts l with
  | .error z => (z.2, [])
  | .ok out => (0, finL out)
def wAt (c : Cf) (cuts : List Nat) (st : Int) (l : List Cl) : Int × List (Int × Int) := match wX c cuts l with
  | .error z => (z.2, [])
  | .ok out => if st < -1 then (3, []) else (0, atF [] out st)
set_option maxRecDepth 20000 in
set_option maxHeartbeats 8000000 in
theorem wat_any {w : World} {c : Cf} {cuts : List Nat} {A : Option Addr} {n cap : Nat} {l : List Cl} (hi : In3 w c cuts A n cap l) (st : Int) :
    Calls Tryz.prog 16 #[confV c, .int .i64 st, .slice A n cap] w (PairsP w (wAt c cuts st l)) := by
  have HS := Lib.hid (fun W (hq : Nw w W) => states_any (hi.nw hq))
  have HE := Lib.hid (fun z (h : wX c cuts l = .error z) => wX_err h)
  have HL := Lib.hid (wX_len c cuts l)
  have HI := Lib.hid hi
  obtain ⟨r, hr⟩ : ∃ r, r = wAt c cuts st l := ⟨_, rfl⟩
  rw [← hr]
  unfold wAt at hr
  obtain ⟨X, hX⟩ : ∃ X, X = wX c cuts l := ⟨_, rfl⟩
  rw [← hX] at HS HE HL hr
  unfold confV at HS ⊢
  haveI hca : ConfAt (w.alloc (cellsOf c 27)) w.heap.size c := ⟨fun i v hv => by unfold cellsOf; unfold ccells at hv; rw [World.cell?_alloc_new]; simpa using hv, by simp⟩
  obtain ⟨W1, hW1⟩ : ∃ W, W = w.alloc (cellsOf c 27) := ⟨_, rfl⟩
  rw [← hW1] at hca
  have hn1 : Nw w W1 := by rw [hW1]; exact nwa
  unfold cellsOf at hW1
  have HW1 := Lib.hid hW1
  have HN1 := Lib.hid hn1
  haveI : In w.heap.size W1 := ⟨hca.lt⟩
  clear hW1 hn1 hi hX
  cases X with
  | error z =>
    simp only at hr
    obtain ⟨z1, z2⟩ := z
    have hne : (z2 != 0) = true := by simpa using HE.out (z1, z2) rfl
    have HRR := Lib.hid hr
    clear hr
    go_enter Tryz.func16, Tryz.ntmps16
    go_upto_region 1 with (fail)
    rw [← HW1.out]
    go_wp2_with fail
    refine (HS.out W1 HN1.out).mono ?_
    intro e W2 hP
    unfold StP at hP
    obtain ⟨rfl, hn2⟩ := hP
    have HN2 := Lib.hid hn2
    clear hn2
    go_wp2
    refine bodyPost_ret (results_tmp2 rfl _ _ _) rfl ?_
    rw [HRR.out]
    exact ⟨_, rfl, World.ownsRow_nil _ _ _ _, HN1.out.trans HN2.out, Nat.zero_le _⟩
  | ok out =>
    simp only at hr
    by_cases hst : st < -1
    · rw [if_pos hst] at hr
      have d0 : decide (st < -1) = true := by simpa using hst
      have HRR := Lib.hid hr
      clear hr hst
      go_enter Tryz.func16, Tryz.ntmps16
      go_upto_region 1 with (fail)
      rw [← HW1.out]
      go_wp2_with fail
      refine (HS.out W1 HN1.out).mono ?_
      intro e W2 hP
      unfold StP at hP
      obtain ⟨v, zs, rfl, hsts, hn2⟩ := hP
      obtain ⟨Av, cv', rfl⟩ := own_slice hsts.row
      have HN2 := Lib.hid (HN1.out.trans hn2)
      clear hsts hn2
      go_wp2
      refine bodyPost_ret (results_tmp2 rfl _ _ _) rfl ?_
      rw [HRR.out]
      exact ⟨_, rfl, World.ownsRow_nil _ _ _ _, HN2.out, Nat.zero_le _⟩
    · rw [if_neg hst] at hr
      have d0 : decide (st < -1) = false := by simpa using hst
      have HRR := Lib.hid hr
      clear hr hst
      go_enter Tryz.func16, Tryz.ntmps16
      go_upto_region 1 with (fail)
      rw [← HW1.out]
      go_wp2_with fail
      refine (HS.out W1 HN1.out).mono ?_
      intro e W2 hP
      unfold StP at hP
      obtain ⟨v, zs, rfl, hsts, hn2⟩ := hP
      obtain ⟨Av, cv', rfl⟩ := own_slice hsts.row
      obtain ⟨nz, hnz⟩ : ∃ k, k = zs.length := ⟨_, rfl⟩
      rw [← hnz]
      have hnl : nz ≤ 2000 := by
        have h1 := HL.out out rfl
        have h2 := HI.out.n1
        have h3 := HI.out.hl.1
        have h4 := hsts.len
        omega
      have HSTS := Lib.hid hsts
      have HNZ := Lib.hid hnz
      have HNW2 := Lib.hid hn2
      have HN2 := Lib.hid (HN1.out.trans hn2)
      clear hsts hn2 hnz
      go_wp2_with fail
      go_loopw [11, 13, 28] (fun x _ a wr => ∃ k : Nat, k ≤ nz ∧ a = .int .i64 k ∧ Nw W2 wr ∧ ∃ (Ac : Option Addr) (nc cc : Nat), x = .slice Ac nc cc ∧ Hid (W2.ownsRow W1.heap.size 51 2 (.slice Ac nc cc) nc (pcells (atF [] (out.take k) st)) ∧ nc = (atF [] (out.take k) st).length ∧ nc ≤ 500000)) (fun _ _ a _ => nz - (intOf a).toNat)
      case atStart => exact ⟨0, Nat.zero_le _, rfl, nwa, none, 0, 0, rfl, Lib.hid ⟨World.ownsRow_nil _ _ _ _, rfl, Nat.zero_le _⟩⟩
      case round =>
        obtain ⟨k, hk, rfl, ⟨d, rfl⟩, Ac, nc, cc, rfl, hcur⟩ := hrel
        by_cases hlt : k < nz
        · obtain ⟨z, hz⟩ : ∃ z, zs[k]? = some z := ⟨_, List.getElem?_eq_getElem (by rw [← HNZ.out]; exact hlt)⟩
          obtain ⟨t, ht⟩ : ∃ t, out[k]? = some t := ⟨_, List.getElem?_eq_getElem (by rw [← HSTS.out.len, ← HNZ.out]; exact hlt)⟩
          have hrow := own_rd HSTS.out.row
          rw [← HNZ.out] at hrow
          obtain ⟨g, o, rfl, hg, hcl⟩ := hrow.2 (by omega)
          haveI : In g W2 := ⟨hg⟩
          obtain ⟨k0, k1⟩ := stcs_get zs k z hz
          have hel := HSTS.out.el k z t hz ht
          have hok := HSTS.out.ok t (List.mem_of_getElem? ht)
          obtain ⟨At, ct, hzt⟩ := own_slice hel.2
          obtain ⟨lt, hlt'⟩ : ∃ q, q = t.2.length := ⟨_, rfl⟩
          obtain ⟨z1, zv⟩ := z
          simp only at hzt hel k0 k1
          rw [← hlt'] at hzt hel
          subst hzt
          have a0 : W2.cell? ⟨g, o + k * 2, none⟩ = some (.int .i64 z1) := hcl _ _ k0
          have a1 : W2.cell? ⟨g, o + k * 2 + 1, none⟩ = some (.slice At lt ct) := by have := hcl _ _ k1; rw [← Nat.add_assoc] at this; exact this
          have hstep : atF [] (out.take (k + 1)) st = if t.1 ≤ st then t.2 else atF [] (out.take k) st := by
            obtain ⟨p, e⟩ := List.getElem?_eq_some_iff.1 ht
            rw [List.take_succ_eq_append_getElem p, atF_app, e]; rfl
          have hn2 : W2.ownsRow W1.heap.size 51 2 (.slice At lt ct) lt (pcells t.2) ∧ lt = t.2.length ∧ lt ≤ 500000 := ⟨hel.2, hlt', by rw [hlt']; exact hok.len⟩
          have HNX := Lib.hid hn2
          have HSTEP := Lib.hid hstep
          have hz1 : z1 = t.1 := hel.1
          have HZ1 := Lib.hid hz1
          have i1 : (k : Int) < (nz : Int) := by omega
          have i3 : k < 1000000 := by omega
          clear hrow hcl hz ht k0 k1 hel hok hlt' hn2 hstep hz1 hg
          by_cases hle : z1 ≤ st
          · have d1 : decide (z1 ≤ st) = true := by simpa using hle
            have HC2 := Lib.hid (show W2.ownsRow W1.heap.size 51 2 (.slice At lt ct) lt (pcells (atF [] (out.take (k + 1)) st)) ∧ lt = (atF [] (out.take (k + 1)) st).length ∧ lt ≤ 500000 by rw [HSTEP.out, ← HZ1.out, if_pos hle]; exact HNX.out)
            clear hle hcur
            go_wp2_with fail
            exact ⟨⟨k + 1, by omega, by go_num, nwa, _, _, _, by first | exact ⟨rfl, rfl, rfl⟩ | rfl, HC2⟩, by simp [intOf]; omega⟩
          · have d1 : decide (z1 ≤ st) = false := by simpa using hle
            have HC2 := Lib.hid (show W2.ownsRow W1.heap.size 51 2 (.slice Ac nc cc) nc (pcells (atF [] (out.take (k + 1)) st)) ∧ nc = (atF [] (out.take (k + 1)) st).length ∧ nc ≤ 500000 by rw [HSTEP.out, ← HZ1.out, if_neg hle]; exact hcur.out)
            clear hle hcur
            go_wp2_with fail
            exact ⟨⟨k + 1, by omega, by go_num, nwa, _, _, _, by first | exact ⟨rfl, rfl, rfl⟩ | rfl, HC2⟩, by simp [intOf]; omega⟩
        · have hkn : k = nz := by omega
          subst hkn
          have htk : out.take k = out := List.take_of_length_le (by rw [HNZ.out, HSTS.out.len]; exact Nat.le_refl _)
          rw [htk] at hcur
          have HCL := Lib.hid (fun W (hq : Nw W2 W) => clone_any Ac nc cc (atF [] out st) W ((own_rd hcur.out.1).nw hq) (by have := hcur.out.2.2; omega) (own_none hcur.out.1))
          have HCUR := Lib.hid hcur.out
          clear hcur htk
          go_wp2_with fail
          refine (HCL.out _ nwa).mono ?_
          rintro e W3 ⟨v', rfl, hown, hn3⟩
          have HN3 := Lib.hid ((show Nw W2 (W2.ext none d) from ⟨d, rfl⟩).trans hn3)
          have HOWN := Lib.hid hown
          clear hown hn3
          go_wp2
          refine bodyPost_ret (results_tmp2 rfl _ _ _) rfl ⟨v', ?_, ?_, HN2.out.trans HN3.out, ?_⟩
          · (rw [HRR.out]) <;> rfl
          · rw [HRR.out]
            show World.ownsRow _ _ _ _ _ (atF [] out st).length (pcells (atF [] out st))
            rw [← HCUR.out.2.1]
            exact own_le HOWN.out (Nat.le_trans HN2.out.grown.size (le_size _ _ _))
          · rw [HRR.out]
            show (atF [] out st).length ≤ 500000
            rw [← HCUR.out.2.1]
            exact HCUR.out.2.2
def rdL (out : List Sta) (l : List Cl) : List Int := l.map fun x => if readB x = true then explM out x else -1
def wRds (c : Cf) (cuts : List Nat) (l : List Cl) : Int × List Int := match wX c cuts l with
  | .error z => (z.2, [])
  | .ok out => (0, rdL out l)
def ReadsP (w : World) (r : Int × List Int) (e : Ending) (w' : World) : Prop := ∃ v, e = .returned (.tuple #[v, .int .i64 r.1]) ∧ OwnI w' w.heap.size v r.2 ∧ Nw w w'
end Go.Proofs.YtkikdpdainmlcaaGreat
namespace Go.Proofs.YtkikdpdainmlcaaGreat
open Go.RowKit Go.Xt
/-! What Check, Told and Owed say of a history, plain; the laws' plain parts, joined. -/
def tksL (l : List Cl) : List Int := (effL l).map (tk l)
def mapsA (c : Cf) (cuts : List Nat) (l : List Cl) (t : Int) : Mp := (wAt c cuts t l).2
theorem mapsA_eq {c : Cf} {cuts : List Nat} {l : List Cl} {out : List Sta} (h : wX c cuts l = .ok out) {t : Int} (ht : -1 ≤ t) : mapsA c cuts l t = atF [] out t := by
  unfold mapsA wAt; rw [h]; simp only; rw [if_neg (by omega)]
theorem wAt_ok {c : Cf} {cuts : List Nat} {l : List Cl} {out : List Sta} (h : wX c cuts l = .ok out) {t : Int} (ht : -1 ≤ t) : wAt c cuts t l = (0, mapsA c cuts l t) := by
  unfold mapsA wAt; rw [h]; simp only; rw [if_neg (by omega)]
def lfOf (c : Cl) : Lf := ⟨c.ka, c.kb, true⟩
def chkPs (A : Int → Mp) (ts : List Int) (l : List Cl) : List Nat → Option Nat
  | [] => none
  | op :: r => match l[op]? with
    | none => chkPs A ts l r
    | some c => match runP A ts l c.took (lfOf c) (ofP l op).tail with
      | some i => some i
      | none => chkPs A ts l r
def pChk (c : Cf) (cuts : List Nat) (l : List Cl) : Int × Int := if (wChk c cuts l).2 ≠ 0 then wChk c cuts l else match chkPs (mapsA c cuts l) (tksL l) l (opens 0 l) with
  | some i => ((i : Int), 23)
  | none => (0, 0)
def pTld (op : Int) (l : List Cl) : Int × Mp := if bad l ≠ none then (15, []) else if op < 0 then (3, []) else match l[op.toNat]? with
  | none => (3, [])
  | some c => if begB c = true then (0, tldL l (ofP l op.toNat)) else (3, [])
def pOwd (c : Cf) (cuts : List Nat) (op : Int) (l : List Cl) : Int × List Int := if (wChk c cuts l).2 ≠ 0 then ((wChk c cuts l).2, []) else if op < 0 then (3, []) else match l[op.toNat]? with
  | none => (3, [])
  | some x => if begB x = true then match owR l (lfOf x) [] (ofP l op.toNat).tail with
      | none => (8, [])
      | some (e, ps) => (0, owdL (mapsA c cuts l) (tksL l) x.took (tk l e) x.ka x.kb ps)
    else (3, [])
theorem chkPs_none {A : Int → Mp} {ts : List Int} {l : List Cl} : ∀ (r : List Nat), chkPs A ts l r = none ↔ ∀ op ∈ r, ∀ c, l[op]? = some c → runP A ts l c.took (lfOf c) (ofP l op).tail = none
  | [] => by simp [chkPs]
  | op :: r => by
    have ih := chkPs_none (A := A) (ts := ts) (l := l) r
    rw [chkPs]
    cases hc : l[op]? with
    | none =>
      simp only
      rw [ih]
      constructor
      · intro h p hp c hpc
        rcases List.mem_cons.1 hp with rfl | hp
        · rw [hc] at hpc; cases hpc
        · exact h p hp c hpc
      · intro h p hp; exact h p (by simp [hp])
    | some c =>
      simp only
      cases hr : runP A ts l c.took (lfOf c) (ofP l op).tail with
      | some i =>
        simp only
        constructor
        · intro h; cases h
        · intro h; have := h op (by simp) c hc; rw [hr] at this; cases this
      | none =>
        simp only
        rw [ih]
        constructor
        · intro h p hp d hpd
          rcases List.mem_cons.1 hp with rfl | hp
          · rw [hc] at hpd; injection hpd with hpd; subst hpd; exact hr
          · exact h p hp d hpd
        · intro h p hp; exact h p (by simp [hp])
theorem pChk_ok {c : Cf} {cuts : List Nat} {l : List Cl} : (pChk c cuts l).2 = 0 ↔ (wChk c cuts l).2 = 0 ∧ ∀ op x, l[op]? = some x → begB x = true → runP (mapsA c cuts l) (tksL l) l x.took (lfOf x) (ofP l op).tail = none := by
  unfold pChk
  split
  · rename_i h
    constructor
    · intro h2; exact absurd h2 h
    · intro h2; exact absurd h2.1 h
  · rename_i h
    have h0 : (wChk c cuts l).2 = 0 := by omega
    have hn := chkPs_none (A := mapsA c cuts l) (ts := tksL l) (l := l) (opens 0 l)
    split
    · rename_i i hi
      constructor
      · intro h2; simp at h2
      · intro h2
        rw [hn.2 (fun op hop x hx => by
          obtain ⟨y, hy, hb⟩ := opens_iff.1 hop
          rw [hx] at hy; injection hy with hy; subst hy
          exact h2.2 op x hx hb)] at hi
        cases hi
    · rename_i hi
      exact ⟨fun _ => ⟨h0, fun op x hx hb => hn.1 hi op (opens_iff.2 ⟨x, hx, hb⟩) x hx⟩, fun _ => rfl⟩
theorem pChk_zero {c : Cf} {cuts : List Nat} {l : List Cl} (h : (pChk c cuts l).2 = 0) : pChk c cuts l = (0, 0) := by
  have hw := (pChk_ok.1 h).1
  unfold pChk at h ⊢
  rw [if_neg (by omega)] at h ⊢
  split
  · rename_i i hi; rw [hi] at h; simp at h
  · rfl
theorem wpfx_at {c : Cf} {cuts : List Nat} {l : List Cl} {s : Int} (hs : -1 ≤ s) {o2 : List Sta} (h : wX c cuts l = .ok o2) (hb : badR o2 l 0 = none) :
    ∃ o3, wX c cuts (pres s l) = .ok o3 ∧ badR o3 (pres s l) 0 = none ∧ (∀ t, -1 ≤ t → t ≤ s → mapsA c cuts l t = mapsA c cuts (pres s l) t) ∧ ∃ ts2, tksL l = tksL (pres s l) ++ ts2 ∧ ∀ t ∈ ts2, s < t := by
  obtain ⟨o3, h3, hb3, -⟩ := wprefix_plain hs h hb
  refine ⟨o3, h3, hb3, fun t ht hts => ?_, ?_⟩
  · obtain ⟨o4, h4, -, e4⟩ := wprefix_plain ht h hb
    obtain ⟨o5, h5, -, e5⟩ := wprefix_plain ht h3 hb3
    rw [pres_pres hs ht, Int.min_eq_right hts, h4] at h5
    injection h5 with h5
    subst h5
    rw [mapsA_eq h ht, mapsA_eq h3 ht, e4, e5]
  · obtain ⟨hc, hbad, hm⟩ := wX_ok h
    have hE := effL_is hbad
    have hbp := bad_pres hs hbad
    have hEp := effL_is hbp
    obtain ⟨e1, e2, e3⟩ := eff_pres hs hbad hE hEp
    obtain ⟨k, hk⟩ : ∃ k, k = (effL (pres s l)).length := ⟨_, rfl⟩
    rw [← hk] at e1 e2 e3
    refine ⟨((effL l).drop k).map (tk l), ?_, fun t htm => ?_⟩
    · unfold tksL
      have h5 : (effL (pres s l)).map (tk (pres s l)) = ((effL l).take k).map (tk l) := by
        rw [← e1]
        apply List.map_congr_left
        intro i hi
        obtain ⟨y, hy, h0⟩ := (hEp.2 i).1 hi
        obtain ⟨x, hx, hxs, rfl, -⟩ := pres_get hy
        rw [tk_of hy, tk_of hx, pfx_took]
        rw [pfx_took] at h0
        split at h0
        · omega
        · rename_i h6; rw [if_neg h6]
      rw [h5, ← List.map_append, List.take_append_drop]
    · obtain ⟨i, hi, rfl⟩ := List.mem_map.1 htm
      obtain ⟨q, hq⟩ := List.mem_iff_getElem?.1 hi
      rw [List.getElem?_drop] at hq
      have hkl : k < (effL l).length := by have := (List.getElem?_eq_some_iff.1 hq).1; omega
      obtain ⟨x, hx, hsx⟩ := e3 _ (List.getElem?_eq_getElem hkl)
      have h1 : s < tk l ((effL l)[k]) := by rw [tk_of hx]; exact hsx
      by_cases hq0 : q = 0
      · subst hq0
        rw [Nat.add_zero, List.getElem?_eq_getElem hkl] at hq
        injection hq with hq; rw [← hq]; exact h1
      · obtain ⟨hq3, hq4⟩ := List.getElem?_eq_some_iff.1 hq
        have := (List.pairwise_iff_getElem.1 hE.1) k (k + q) hkl hq3 (by omega)
        rw [hq4] at this
        omega
end Go.Proofs.YtkikdpdainmlcaaGreat
namespace Go.Proofs.YtkikdpdainmlcaaGreat
open Go.RowKit Go.Xt
/-! Histories: the order of a thread's calls; the maps' keys ascend. The plain laws PassageKeeps, Still, Prefixes. -/
theorem good_atP {l : List Cl} (hb : bad l = none) {j : Nat} {x : Cl} (hx : l[j]? = some x) : goodP (l.take j) x = true := (badFrom_none l l.length 0 (by omega)).1 hb j x (Nat.zero_le _) hx
theorem good_took {p : List Cl} {x : Cl} (h : goodP p x = true) : -1 ≤ x.took ∧ 0 ≤ x.inv ∧ (0 ≤ x.took → x.inv ≤ x.took) ∧ (0 ≤ x.ans → 0 ≤ x.took ∧ x.inv ≤ x.took ∧ x.took ≤ x.ans) := by
  simp only [goodP, Bool.and_eq_true] at h
  obtain ⟨h1, h2, h3, -, -⟩ := h
  have hi : 0 ≤ x.inv := by
    unfold ordF at h1
    simp only [Bool.and_eq_true, decide_eq_true_eq] at h1
    exact h1.2.2.2.1
  have he : x.took = -1 ∨ x.inv ≤ x.took := by
    unfold effF at h2; simpa using h2
  refine ⟨by omega, hi, by omega, fun ha => ?_⟩
  unfold endF at h3
  rw [if_neg (by omega)] at h3
  split at h3
  · cases h3
  · rename_i h4
    have h5 : ¬ x.took < 0 := fun h => h4 (.inl h)
    have h6 : ¬ x.ans < x.took := fun h => h4 (.inr (.inl h))
    omega
theorem hist_ord {l : List Cl} (hb : bad l = none) : ∀ k, k ≤ l.length → (l.take k).Pairwise fun a b => a.th = b.th → 0 ≤ a.ans ∧ a.ans < b.inv
  | 0, _ => by simp
  | k + 1, hk => by
    have ih := hist_ord hb k (by omega)
    have hx := List.getElem?_eq_getElem (l := l) (show k < l.length by omega)
    obtain ⟨x, hxe⟩ : ∃ x, x = l[k] := ⟨_, rfl⟩
    rw [← hxe] at hx
    have hg := good_atP hb hx
    rw [List.take_add_one, hx]
    refine List.pairwise_append.2 ⟨ih, by simp, fun a ha b hbm => ?_⟩
    simp at hbm
    subst hbm
    intro hth
    have hmem : a ∈ ofT b.th (l.take k) := by unfold ofT; rw [List.mem_filter]; exact ⟨ha, by simpa using hth⟩
    have hp : (ofT b.th (l.take k)).Pairwise fun a b => a.th = b.th → 0 ≤ a.ans ∧ a.ans < b.inv := by unfold ofT; exact ih.filter _
    have hall : ∀ y ∈ ofT b.th (l.take k), y.th = b.th ∧ y ∈ l := fun y hy => by
      unfold ofT at hy
      rw [List.mem_filter] at hy
      exact ⟨by simpa using hy.2, List.mem_of_mem_take hy.1⟩
    simp only [goodP, Bool.and_eq_true] at hg
    have haf := hg.2.2.2.1
    unfold aftF at haf
    obtain ⟨T, hT⟩ : ∃ T, T = ofT b.th (l.take k) := ⟨_, rfl⟩
    rw [← hT] at hmem hp hall haf
    rcases List.eq_nil_or_concat T with h0 | ⟨T', z, h0⟩
    · rw [h0] at hmem; cases hmem
    · rw [List.concat_eq_append] at h0
      subst h0
      rw [show (T' ++ [z]).getLast? = some z by simp] at haf
      simp only at haf
      have hbf : 0 ≤ z.ans ∧ z.ans < b.inv := by unfold bf at haf; simpa using haf
      rcases List.mem_append.1 hmem with h1 | h1
      · have h2 := (List.pairwise_append.1 hp).2.2 a h1 z (by simp)
        have hz := hall z (by simp)
        have ha2 := hall a (by simp [h1])
        have h3 := h2 (ha2.1.trans hz.1.symm)
        obtain ⟨j, hj⟩ := List.mem_iff_getElem?.1 hz.2
        have := (good_took (good_atP hb hj)).2.2.2 hbf.1
        omega
      · simp at h1; subst h1; exact hbf
theorem hist_pw {l : List Cl} (hb : bad l = none) : l.Pairwise fun a b => a.th = b.th → 0 ≤ a.ans ∧ a.ans < b.inv := by
  have := hist_ord hb l.length (Nat.le_refl _)
  rwa [List.take_length] at this
theorem ofP_tail {l : List Cl} {op : Nat} {c : Cl} (hc : l[op]? = some c) : ofP l op = op :: ofG c.th (op + 1) (l.drop (op + 1)) := by unfold ofP; rw [hc]
-- the maps ascend
theorem next_okM {s s' : Md} {N : Nat} {c : Cl} (hok : s.Ok N) (hw : WfX c) (h : nextM s c = some s') : s'.Ok (N + 1) := by
  unfold nextM at h
  split at h
  · injection h with h; subst h; exact doM_ok hok _ hw.op
  · split at h
    · injection h with h; subst h; exact acceptM_ok hok _ hw.op hw.rk.1
    · cases h
theorem fits_okM {s s' : Md} {N : Nat} {c : Cl} (hok : s.Ok N) (hw : WfX c) (h : fitsM s c = some s') : s'.Ok (N + 1) := by
  unfold fitsM at h
  split at h
  · cases h
  · split at h
    · split at h
      · injection h with h; subst h; exact doM_ok hok _ hw.op
      · cases h
    · exact next_okM hok hw h
theorem wChk_bad {c : Cf} {cuts : List Nat} {l : List Cl} (h : (wChk c cuts l).2 = 0) : bad l = none := by
  obtain ⟨o2, h1, -⟩ := wChk_ok.1 h
  exact (wX_ok h1).2.1
theorem prefixes_plain {c : Cf} {cuts : List Nat} {l : List Cl} {s : Int} (hs : -1 ≤ s) (h : (pChk c cuts l).2 = 0) : pChk c cuts (pres s l) = (0, 0) := by
  obtain ⟨h1, h2⟩ := pChk_ok.1 h
  have hbad := wChk_bad h1
  obtain ⟨o2, ho2, hR⟩ := wChk_ok.1 h1
  obtain ⟨o3, ho3, hR3, hA, ts2, hts, hlate⟩ := wpfx_at hs ho2 hR
  refine pChk_zero (pChk_ok.2 ⟨wChk_ok.2 ⟨o3, ho3, hR3⟩, fun op y hy hb => ?_⟩)
  obtain ⟨x, hx, hxs, rfl, htk⟩ := pres_get hy
  have hk : x.kd = 11 ∧ 0 ≤ x.ans ∧ x.re = 0 ∧ x.ans ≤ s := by
    unfold begB at hb
    simp only [Bool.and_eq_true, decide_eq_true_eq] at hb
    have ha := hb.2.1
    rw [pfx_ans] at ha
    have hs2 : x.ans ≤ s := by
      split at ha
      · omega
      · omega
    have hg := (good_took (good_atP hbad hx)).2.2.2
    rw [if_neg (by omega)] at ha
    have := hg ha
    rw [pfx_keep (by omega) hs2] at hb
    exact ⟨hb.1, ha, hb.2.2, hs2⟩
  have hg := (good_took (good_atP hbad hx)).2.2.2 hk.2.1
  have hpx : pfx s x = x := pfx_keep (by omega) (by omega)
  rw [hpx] at hy hb ⊢
  have hrun := h2 op x hx hb
  rw [ofP_tail hx, List.tail_cons] at hrun
  rw [ofP_tail hy, List.tail_cons]
  have hcut : (pres s l).drop (op + 1) = cutP s (l.drop (op + 1)) := by
    obtain ⟨p1, q1⟩ := List.getElem?_eq_some_iff.1 hx
    have hsplit : l = l.take (op + 1) ++ l.drop (op + 1) := (List.take_append_drop _ _).symm
    obtain ⟨p2, q2⟩ := List.getElem?_eq_some_iff.1 hy
    have htl : (l.takeWhile fun z => decide (z.inv ≤ s)).length = (pres s l).length := by rw [pres, List.length_map]
    have hall : ∀ z ∈ l.take (op + 1), decide (z.inv ≤ s) = true := fun z hz => by
      have hpre : l.take (op + 1) = (l.takeWhile fun z => decide (z.inv ≤ s)).take (op + 1) := by
        have h9 := List.takeWhile_prefix (l := l) (fun z => decide (z.inv ≤ s))
        obtain ⟨r, hr⟩ := h9
        conv => lhs; rw [← hr]
        rw [List.take_append_of_le_length (by omega)]
      rw [hpre] at hz
      have := List.mem_of_mem_take hz
      exact List.all_eq_true.1 List.all_takeWhile z this
    have hl : l.length - (op + 1) = (l.drop (op + 1)).length := by rw [List.length_drop]
    unfold cutP pres
    conv => lhs; rw [hsplit]
    rw [List.takeWhile_append_of_pos hall, List.map_append, List.drop_append_of_le_length (by simp; omega), List.drop_of_length_le (by simp; omega), List.nil_append]
  rw [hcut]
  refine run_cutP hs (by have := (good_took (good_atP hbad hx)).1; exact this) (by omega) hA hts hlate _ _ _ (fun j d hd => ?_) (fun j d hd => ?_) (fun d hd ha => ?_) ?_ hrun
  · rw [List.getElem?_drop] at hd; exact hd
  · rw [← hcut, List.getElem?_drop] at hd; exact hd
  · obtain ⟨j, hj⟩ := List.mem_iff_getElem?.1 (List.mem_of_mem_drop hd)
    exact ((good_took (good_atP hbad hj)).2.2.2 ha).2.2
  · exact (hist_pw hbad).sublist (List.drop_sublist _ _)
end Go.Proofs.YtkikdpdainmlcaaGreat
