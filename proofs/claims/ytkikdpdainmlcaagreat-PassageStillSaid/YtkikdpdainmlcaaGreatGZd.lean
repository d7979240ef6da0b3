import Derived.Test.YtkikdpdainmlcaaGreatGNq
import Derived.Test.YtkikdpdainmlcaaGreatGNg
import Derived.Test.YtkikdpdainmlcaaGreatGPh
import Derived.Test.YtkikdpdainmlcaaGreatGP
set_option linter.unusedVariables false
set_option linter.unusedSimpArgs false
set_option linter.unnecessarySimpa false
namespace Go.Proofs.YtkikdpdainmlcaaGreat
open Go.RowKit Go.Xt
/-! The plain law of PassagePrefixes. -/
theorem pfx_keep {s : Int} {x : Cl} (h1 : x.took ≤ s) (h2 : x.ans ≤ s) : pfx s x = x := by
  unfold pfx; rw [if_neg (by omega), if_neg (by omega)]
theorem fold_late {A : Int → Mp} {fr tz : Int} : ∀ (ts : List Int) (out : List Mp), (∀ t ∈ ts, tz < t) → ts.foldl (putM A fr tz) out = out
  | [], out, _ => rfl
  | t :: ts, out, h => by
    rw [List.foldl_cons]
    have e : putM A fr tz out t = out := by unfold putM; rw [if_pos (.inr (h t (by simp)))]
    rw [e]; exact fold_late ts out (fun u hu => h u (by simp [hu]))
theorem fold_same {A B : Int → Mp} {fr tz s : Int} (hz : tz ≤ s) (hfr : -1 ≤ fr) (he : ∀ t, -1 ≤ t → t ≤ s → A t = B t) : ∀ (ts : List Int) (out : List Mp), ts.foldl (putM A fr tz) out = ts.foldl (putM B fr tz) out
  | [], out => rfl
  | t :: ts, out => by
    rw [List.foldl_cons, List.foldl_cons]
    have e : putM A fr tz out t = putM B fr tz out t := by
      unfold putM
      split
      · rfl
      · rename_i h
        rw [he t (by omega) (by omega)]
    rw [e]; exact fold_same hz hfr he ts _
theorem dur_same {A B : Int → Mp} {fr tz s : Int} {ts ts' ts2 : List Int} (hz : tz ≤ s) (hfr : -1 ≤ fr) (hfs : fr ≤ s) (he : ∀ t, -1 ≤ t → t ≤ s → A t = B t) (h1 : ts = ts' ++ ts2) (h2 : ∀ t ∈ ts2, s < t) : durM A ts fr tz = durM B ts' fr tz := by
  unfold durM
  rw [h1, List.foldl_append, fold_late ts2 _ (fun t ht => by have := h2 t ht; omega), he fr hfr hfs]
  exact fold_same hz hfr he ts' _
theorem keep_same {A B : Int → Mp} {fr s : Int} {ts ts' ts2 : List Int} {c : Cl} {x : Lf} (hz : c.took ≤ s) (hfr : -1 ≤ fr) (hfs : fr ≤ s) (he : ∀ t, -1 ≤ t → t ≤ s → A t = B t) (h1 : ts = ts' ++ ts2) (h2 : ∀ t ∈ ts2, s < t) : keepM A ts fr c x = keepM B ts' fr c x := by
  unfold keepM; rw [dur_same hz hfr hfs he h1 h2]
theorem ofG_none {th : Int} : ∀ (r : List Cl) (i : Nat), (∀ c ∈ r, c.th ≠ th) → ofG th i r = []
  | [], i, _ => rfl
  | c :: r, i, h => by rw [ofG, if_pos (.inl (h c (by simp)))]; exact ofG_none r (i + 1) (fun d hd => h d (by simp [hd]))
abbrev cutP (s : Int) (r : List Cl) : List Cl := (r.takeWhile fun x => decide (x.inv ≤ s)).map (pfx s)
end Go.Proofs.YtkikdpdainmlcaaGreat
namespace Go.Proofs.YtkikdpdainmlcaaGreat
open Go.RowKit Go.Xt
/-! Final, At and Reads. -/
theorem own_none {W : World} {base : Nat} {e : TypeId} {size : Nat} {A : Option Addr} {n c m : Nat} {xs : List Value} (h : W.ownsRow base e size (.slice A n c) m xs) : A = none → n = 0 ∧ c = 0 := by
  rintro rfl
  rcases h.2 with ⟨h1, -⟩ | ⟨g, cap, cur, h1, -⟩
  · injection h1 with _ h2 h3; exact ⟨h2, h3⟩
  · injection h1 with h1; cases h1
def PairsP (w : World) (r : Int × List (Int × Int)) (e : Ending) (w' : World) : Prop := ∃ v, e = .returned (.tuple #[v, .int .i64 r.1]) ∧ w'.ownsRow w.heap.size 51 2 v r.2.length (pcells r.2) ∧ Nw w w' ∧ r.2.length ≤ 500000
def wFin (c : Cf) (cuts : List Nat) (l : List Cl) : Int × List (Int × Int) := match wX c cuts l with
  | .error z => (z.2, [])
  | .ok out => (0, finL out)
def wAt (c : Cf) (cuts : List Nat) (st : Int) (l : List Cl) : Int × List (Int × Int) := match wX c cuts l with
  | .error z => (z.2, [])
  | .ok out => if st < -1 then (3, []) else (0, atF [] out st)
set_option maxRecDepth 20000 in
set_option maxHeartbeats 8000000 in
theorem wat_any {w : World} {c : Cf} {cuts : List Nat} {A : Option Addr} {n cap : Nat} {l : List Cl} (hi : In3 w c cuts A n cap l) (st : Int) :
    Calls Tryz.prog 16 #[confV c, .int .i64 st, .slice A n cap] w (PairsP w (wAt c cuts st l)) := by
  have HS := Lib.hid (fun W (hq : Nw w W) => states_any (hi.nw hq))
  have HE := Lib.hid (fun z (h : wX c cuts l = .error z) => wX_err h)
  have HL := Lib.hid (wX_len c cuts l)
  have HI := Lib.hid hi
  obtain ⟨r, hr⟩ : ∃ r, r = wAt c cuts st l := ⟨_, rfl⟩
  rw [← hr]
  unfold wAt at hr
  obtain ⟨X, hX⟩ : ∃ X, X = wX c cuts l := ⟨_, rfl⟩
  rw [← hX] at HS HE HL hr
  unfold confV at HS ⊢
  haveI hca : ConfAt (w.alloc (cellsOf c 27)) w.heap.size c := ⟨fun i v hv => by unfold cellsOf; unfold ccells at hv; rw [World.cell?_alloc_new]; simpa using hv, by simp⟩
  obtain ⟨W1, hW1⟩ : ∃ W, W = w.alloc (cellsOf c 27) := ⟨_, rfl⟩
  rw [← hW1] at hca
  have hn1 : Nw w W1 := by rw [hW1]; exact nwa
  unfold cellsOf at hW1
  have HW1 := Lib.hid hW1
  have HN1 := Lib.hid hn1
  haveI : In w.heap.size W1 := ⟨hca.lt⟩
  clear hW1 hn1 hi hX
  cases X with
  | error z =>
    simp only at hr
    obtain ⟨z1, z2⟩ := z
    have hne : (z2 != 0) = true := by simpa using HE.out (z1, z2) rfl
    have HRR := Lib.hid hr
    clear hr
    go_enter Tryz.func16, Tryz.ntmps16
    go_upto_region 1 with (fail)
    rw [← HW1.out]
    go_wp2_with fail
    refine (HS.out W1 HN1.out).mono ?_
    intro e W2 hP
    unfold StP at hP
    obtain ⟨rfl, hn2⟩ := hP
    have HN2 := Lib.hid hn2
    clear hn2
    go_wp2
    refine bodyPost_ret (results_tmp2 rfl _ _ _) rfl ?_
    rw [HRR.out]
    exact ⟨_, rfl, World.ownsRow_nil _ _ _ _, HN1.out.trans HN2.out, Nat.zero_le _⟩
  | ok out =>
    simp only at hr
    by_cases hst : st < -1
    · rw [if_pos hst] at hr
      have d0 : decide (st < -1) = true := by simpa using hst
      have HRR := Lib.hid hr
      clear hr hst
      go_enter Tryz.func16, Tryz.ntmps16
      go_upto_region 1 with (fail)
      rw [← HW1.out]
      go_wp2_with fail
      refine (HS.out W1 HN1.out).mono ?_
      intro e W2 hP
      unfold StP at hP
      obtain ⟨v, zs, rfl, hsts, hn2⟩ := hP
      obtain ⟨Av, cv', rfl⟩ := own_slice hsts.row
      have HN2 := Lib.hid (HN1.out.trans hn2)
      clear hsts hn2
      go_wp2
      refine bodyPost_ret (results_tmp2 rfl _ _ _) rfl ?_
      rw [HRR.out]
      exact ⟨_, rfl, World.ownsRow_nil _ _ _ _, HN2.out, Nat.zero_le _⟩
    · rw [if_neg hst] at hr
      have d0 : decide (st < -1) = false := by simpa using hst
      have HRR := Lib.hid hr
      clear hr hst
      go_enter Tryz.func16, Tryz.ntmps16
      go_upto_region 1 with (fail)
      rw [← HW1.out]
      go_wp2_with fail
      refine (HS.out W1 HN1.out).mono ?_
      intro e W2 hP
      unfold StP at hP
      obtain ⟨v, zs, rfl, hsts, hn2⟩ := hP
      obtain ⟨Av, cv', rfl⟩ := own_slice hsts.row
      obtain ⟨nz, hnz⟩ : ∃ k, k = zs.length := ⟨_, rfl⟩
      rw [← hnz]
      have hnl : nz ≤ 2000 := by
        have h1 := HL.out out rfl
        have h2 := HI.out.n1
        have h3 := HI.out.hl.1
        have h4 := hsts.len
        omega
      have HSTS := Lib.hid hsts
      have HNZ := Lib.hid hnz
      have HNW2 := Lib.hid hn2
      have HN2 := Lib.hid (HN1.out.trans hn2)
      clear hsts hn2 hnz
      go_wp2_with fail
      go_loopw [11, 13, 28] (fun x _ a wr => ∃ k : Nat, k ≤ nz ∧ a = .int .i64 k ∧ Nw W2 wr ∧ ∃ (Ac : Option Addr) (nc cc : Nat), x = .slice Ac nc cc ∧ Hid (W2.ownsRow W1.heap.size 51 2 (.slice Ac nc cc) nc (pcells (atF [] (out.take k) st)) ∧ nc = (atF [] (out.take k) st).length ∧ nc ≤ 500000)) (fun _ _ a _ => nz - (intOf a).toNat)
      case atStart => exact ⟨0, Nat.zero_le _, rfl, nwa, none, 0, 0, rfl, Lib.hid ⟨World.ownsRow_nil _ _ _ _, rfl, Nat.zero_le _⟩⟩
      case round =>
        obtain ⟨k, hk, rfl, ⟨d, rfl⟩, Ac, nc, cc, rfl, hcur⟩ := hrel
        by_cases hlt : k < nz
        · obtain ⟨z, hz⟩ : ∃ z, zs[k]? = some z := ⟨_, List.getElem?_eq_getElem (by rw [← HNZ.out]; exact hlt)⟩
          obtain ⟨t, ht⟩ : ∃ t, out[k]? = some t := ⟨_, List.getElem?_eq_getElem (by rw [← HSTS.out.len, ← HNZ.out]; exact hlt)⟩
          have hrow := own_rd HSTS.out.row
          rw [← HNZ.out] at hrow
          obtain ⟨g, o, rfl, hg, hcl⟩ := hrow.2 (by omega)
          haveI : In g W2 := ⟨hg⟩
          obtain ⟨k0, k1⟩ := stcs_get zs k z hz
          have hel := HSTS.out.el k z t hz ht
          have hok := HSTS.out.ok t (List.mem_of_getElem? ht)
          obtain ⟨At, ct, hzt⟩ := own_slice hel.2
          obtain ⟨lt, hlt'⟩ : ∃ q, q = t.2.length := ⟨_, rfl⟩
          obtain ⟨z1, zv⟩ := z
          simp only at hzt hel k0 k1
          rw [← hlt'] at hzt hel
          subst hzt
          have a0 : W2.cell? ⟨g, o + k * 2, none⟩ = some (.int .i64 z1) := hcl _ _ k0
          have a1 : W2.cell? ⟨g, o + k * 2 + 1, none⟩ = some (.slice At lt ct) := by have := hcl _ _ k1; rw [← Nat.add_assoc] at this; exact this
          have hstep : atF [] (out.take (k + 1)) st = if t.1 ≤ st then t.2 else atF [] (out.take k) st := by
            obtain ⟨p, e⟩ := List.getElem?_eq_some_iff.1 ht
            rw [List.take_succ_eq_append_getElem p, atF_app, e]; rfl
          have hn2 : W2.ownsRow W1.heap.size 51 2 (.slice At lt ct) lt (pcells t.2) ∧ lt = t.2.length ∧ lt ≤ 500000 := ⟨hel.2, hlt', by rw [hlt']; exact hok.len⟩
          have HNX := Lib.hid hn2
          have HSTEP := Lib.hid hstep
          have hz1 : z1 = t.1 := hel.1
          have HZ1 := Lib.hid hz1
          have i1 : (k : Int) < (nz : Int) := by omega
          have i3 : k < 1000000 := by omega
          clear hrow hcl hz ht k0 k1 hel hok hlt' hn2 hstep hz1 hg
          by_cases hle : z1 ≤ st
          · have d1 : decide (z1 ≤ st) = true := by simpa using hle
            have HC2 := Lib.hid (show W2.ownsRow W1.heap.size 51 2 (.slice At lt ct) lt (pcells (atF [] (out.take (k + 1)) st)) ∧ lt = (atF [] (out.take (k + 1)) st).length ∧ lt ≤ 500000 by rw [HSTEP.out, ← HZ1.out, if_pos hle]; exact HNX.out)
            clear hle hcur
            go_wp2_with fail
            exact ⟨⟨k + 1, by omega, by go_num, nwa, _, _, _, by first | exact ⟨rfl, rfl, rfl⟩ | rfl, HC2⟩, by simp [intOf]; omega⟩
          · have d1 : decide (z1 ≤ st) = false := by simpa using hle
            have HC2 := Lib.hid (show W2.ownsRow W1.heap.size 51 2 (.slice Ac nc cc) nc (pcells (atF [] (out.take (k + 1)) st)) ∧ nc = (atF [] (out.take (k + 1)) st).length ∧ nc ≤ 500000 by rw [HSTEP.out, ← HZ1.out, if_neg hle]; exact hcur.out)
            clear hle hcur
            go_wp2_with fail
            exact ⟨⟨k + 1, by omega, by go_num, nwa, _, _, _, by first | exact ⟨rfl, rfl, rfl⟩ | rfl, HC2⟩, by simp [intOf]; omega⟩
        · have hkn : k = nz := by omega
          subst hkn
          have htk : out.take k = out := List.take_of_length_le (by rw [HNZ.out, HSTS.out.len]; exact Nat.le_refl _)
          rw [htk] at hcur
          have HCL := Lib.hid (fun W (hq : Nw W2 W) => clone_any Ac nc cc (atF [] out st) W ((own_rd hcur.out.1).nw hq) (by have := hcur.out.2.2; omega) (own_none hcur.out.1))
          have HCUR := Lib.hid hcur.out
          clear hcur htk
          go_wp2_with fail
          refine (HCL.out _ nwa).mono ?_
          rintro e W3 ⟨v', rfl, hown, hn3⟩
          have HN3 := Lib.hid ((show Nw W2 (W2.ext none d) from ⟨d, rfl⟩).trans hn3)
          have HOWN := Lib.hid hown
          clear hown hn3
          go_wp2
          refine bodyPost_ret (results_tmp2 rfl _ _ _) rfl ⟨v', ?_, ?_, HN2.out.trans HN3.out, ?_⟩
          · (rw [HRR.out]) <;> rfl
          · rw [HRR.out]
            show World.ownsRow _ _ _ _ _ (atF [] out st).length (pcells (atF [] out st))
            rw [← HCUR.out.2.1]
            exact own_le HOWN.out (Nat.le_trans HN2.out.grown.size (le_size _ _ _))
          · rw [HRR.out]
            show (atF [] out st).length ≤ 500000
            rw [← HCUR.out.2.1]
            exact HCUR.out.2.2
def rdL (out : List Sta) (l : List Cl) : List Int := l.map fun x => if readB x = true then explM out x else -1
def wRds (c : Cf) (cuts : List Nat) (l : List Cl) : Int × List Int := match wX c cuts l with
  | .error z => (z.2, [])
  | .ok out => (0, rdL out l)
def ReadsP (w : World) (r : Int × List Int) (e : Ending) (w' : World) : Prop := ∃ v, e = .returned (.tuple #[v, .int .i64 r.1]) ∧ OwnI w' w.heap.size v r.2 ∧ Nw w w'
end Go.Proofs.YtkikdpdainmlcaaGreat
namespace Go.Proofs.YtkikdpdainmlcaaGreat
open Go.RowKit Go.Xt
/-! What Check, Told and Owed say of a history, plain; the laws' plain parts, joined. -/
def tksL (l : List Cl) : List Int := (effL l).map (tk l)
def mapsA (c : Cf) (cuts : List Nat) (l : List Cl) (t : Int) : Mp := (wAt c cuts t l).2
theorem wAt_ok {c : Cf} {cuts : List Nat} {l : List Cl} {out : List Sta} (h : wX c cuts l = .ok out) {t : Int} (ht : -1 ≤ t) : wAt c cuts t l = (0, mapsA c cuts l t) := by
  unfold mapsA wAt; rw [h]; simp only; rw [if_neg (by omega)]
def lfOf (c : Cl) : Lf := ⟨c.ka, c.kb, true⟩
def chkPs (A : Int → Mp) (ts : List Int) (l : List Cl) : List Nat → Option Nat
  | [] => none
  | op :: r => match l[op]? with
    | none => chkPs A ts l r
    | some c => match runP A ts l c.took (lfOf c) (ofP l op).tail with
      | some i => some i
      | none => chkPs A ts l r
def pChk (c : Cf) (cuts : List Nat) (l : List Cl) : Int × Int := if (wChk c cuts l).2 ≠ 0 then wChk c cuts l else match chkPs (mapsA c cuts l) (tksL l) l (opens 0 l) with
  | some i => ((i : Int), 23)
  | none => (0, 0)
def pTld (op : Int) (l : List Cl) : Int × Mp := if bad l ≠ none then (15, []) else if op < 0 then (3, []) else match l[op.toNat]? with
  | none => (3, [])
  | some c => if begB c = true then (0, tldL l (ofP l op.toNat)) else (3, [])
def pOwd (c : Cf) (cuts : List Nat) (op : Int) (l : List Cl) : Int × List Int := if (wChk c cuts l).2 ≠ 0 then ((wChk c cuts l).2, []) else if op < 0 then (3, []) else match l[op.toNat]? with
  | none => (3, [])
  | some x => if begB x = true then match owR l (lfOf x) [] (ofP l op.toNat).tail with
      | none => (8, [])
      | some (e, ps) => (0, owdL (mapsA c cuts l) (tksL l) x.took (tk l e) x.ka x.kb ps)
    else (3, [])
theorem chkPs_none {A : Int → Mp} {ts : List Int} {l : List Cl} : ∀ (r : List Nat), chkPs A ts l r = none ↔ ∀ op ∈ r, ∀ c, l[op]? = some c → runP A ts l c.took (lfOf c) (ofP l op).tail = none
  | [] => by simp [chkPs]
  | op :: r => by
    have ih := chkPs_none (A := A) (ts := ts) (l := l) r
    rw [chkPs]
    cases hc : l[op]? with
    | none =>
      simp only
      rw [ih]
      constructor
      · intro h p hp c hpc
        rcases List.mem_cons.1 hp with rfl | hp
        · rw [hc] at hpc; cases hpc
        · exact h p hp c hpc
      · intro h p hp; exact h p (by simp [hp])
    | some c =>
      simp only
      cases hr : runP A ts l c.took (lfOf c) (ofP l op).tail with
      | some i =>
        simp only
        constructor
        · intro h; cases h
        · intro h; have := h op (by simp) c hc; rw [hr] at this; cases this
      | none =>
        simp only
        rw [ih]
        constructor
        · intro h p hp d hpd
          rcases List.mem_cons.1 hp with rfl | hp
          · rw [hc] at hpd; injection hpd with hpd; subst hpd; exact hr
          · exact h p hp d hpd
        · intro h p hp; exact h p (by simp [hp])
theorem pChk_ok {c : Cf} {cuts : List Nat} {l : List Cl} : (pChk c cuts l).2 = 0 ↔ (wChk c cuts l).2 = 0 ∧ ∀ op x, l[op]? = some x → begB x = true → runP (mapsA c cuts l) (tksL l) l x.took (lfOf x) (ofP l op).tail = none := by
  unfold pChk
  split
  · rename_i h
    constructor
    · intro h2; exact absurd h2 h
    · intro h2; exact absurd h2.1 h
  · rename_i h
    have h0 : (wChk c cuts l).2 = 0 := by omega
    have hn := chkPs_none (A := mapsA c cuts l) (ts := tksL l) (l := l) (opens 0 l)
    split
    · rename_i i hi
      constructor
      · intro h2; simp at h2
      · intro h2
        rw [hn.2 (fun op hop x hx => by
          obtain ⟨y, hy, hb⟩ := opens_iff.1 hop
          rw [hx] at hy; injection hy with hy; subst hy
          exact h2.2 op x hx hb)] at hi
        cases hi
    · rename_i hi
      exact ⟨fun _ => ⟨h0, fun op x hx hb => hn.1 hi op (opens_iff.2 ⟨x, hx, hb⟩) x hx⟩, fun _ => rfl⟩
end Go.Proofs.YtkikdpdainmlcaaGreat
namespace Go.Proofs.YtkikdpdainmlcaaGreat
open Go.RowKit Go.Xt
/-! Histories: the order of a thread's calls; the maps' keys ascend. The plain laws PassageKeeps, Still, Prefixes. -/
theorem good_atP {l : List Cl} (hb : bad l = none) {j : Nat} {x : Cl} (hx : l[j]? = some x) : goodP (l.take j) x = true := (badFrom_none l l.length 0 (by omega)).1 hb j x (Nat.zero_le _) hx
theorem good_took {p : List Cl} {x : Cl} (h : goodP p x = true) : -1 ≤ x.took ∧ 0 ≤ x.inv ∧ (0 ≤ x.took → x.inv ≤ x.took) ∧ (0 ≤ x.ans → 0 ≤ x.took ∧ x.inv ≤ x.took ∧ x.took ≤ x.ans) := by
  simp only [goodP, Bool.and_eq_true] at h
  obtain ⟨h1, h2, h3, -, -⟩ := h
  have hi : 0 ≤ x.inv := by
    unfold ordF at h1
    simp only [Bool.and_eq_true, decide_eq_true_eq] at h1
    exact h1.2.2.2.1
  have he : x.took = -1 ∨ x.inv ≤ x.took := by
    unfold effF at h2; simpa using h2
  refine ⟨by omega, hi, by omega, fun ha => ?_⟩
  unfold endF at h3
  rw [if_neg (by omega)] at h3
  split at h3
  · cases h3
  · rename_i h4
    have h5 : ¬ x.took < 0 := fun h => h4 (.inl h)
    have h6 : ¬ x.ans < x.took := fun h => h4 (.inr (.inl h))
    omega
theorem hist_ord {l : List Cl} (hb : bad l = none) : ∀ k, k ≤ l.length → (l.take k).Pairwise fun a b => a.th = b.th → 0 ≤ a.ans ∧ a.ans < b.inv
  | 0, _ => by simp
  | k + 1, hk => by
    have ih := hist_ord hb k (by omega)
    have hx := List.getElem?_eq_getElem (l := l) (show k < l.length by omega)
    obtain ⟨x, hxe⟩ : ∃ x, x = l[k] := ⟨_, rfl⟩
    rw [← hxe] at hx
    have hg := good_atP hb hx
    rw [List.take_add_one, hx]
    refine List.pairwise_append.2 ⟨ih, by simp, fun a ha b hbm => ?_⟩
    simp at hbm
    subst hbm
    intro hth
    have hmem : a ∈ ofT b.th (l.take k) := by unfold ofT; rw [List.mem_filter]; exact ⟨ha, by simpa using hth⟩
    have hp : (ofT b.th (l.take k)).Pairwise fun a b => a.th = b.th → 0 ≤ a.ans ∧ a.ans < b.inv := by unfold ofT; exact ih.filter _
    have hall : ∀ y ∈ ofT b.th (l.take k), y.th = b.th ∧ y ∈ l := fun y hy => by
      unfold ofT at hy
      rw [List.mem_filter] at hy
      exact ⟨by simpa using hy.2, List.mem_of_mem_take hy.1⟩
    simp only [goodP, Bool.and_eq_true] at hg
    have haf := hg.2.2.2.1
    unfold aftF at haf
    obtain ⟨T, hT⟩ : ∃ T, T = ofT b.th (l.take k) := ⟨_, rfl⟩
    rw [← hT] at hmem hp hall haf
    rcases List.eq_nil_or_concat T with h0 | ⟨T', z, h0⟩
    · rw [h0] at hmem; cases hmem
    · rw [List.concat_eq_append] at h0
      subst h0
      rw [show (T' ++ [z]).getLast? = some z by simp] at haf
      simp only at haf
      have hbf : 0 ≤ z.ans ∧ z.ans < b.inv := by unfold bf at haf; simpa using haf
      rcases List.mem_append.1 hmem with h1 | h1
      · have h2 := (List.pairwise_append.1 hp).2.2 a h1 z (by simp)
        have hz := hall z (by simp)
        have ha2 := hall a (by simp [h1])
        have h3 := h2 (ha2.1.trans hz.1.symm)
        obtain ⟨j, hj⟩ := List.mem_iff_getElem?.1 hz.2
        have := (good_took (good_atP hb hj)).2.2.2 hbf.1
        omega
      · simp at h1; subst h1; exact hbf
theorem hist_pw {l : List Cl} (hb : bad l = none) : l.Pairwise fun a b => a.th = b.th → 0 ≤ a.ans ∧ a.ans < b.inv := by
  have := hist_ord hb l.length (Nat.le_refl _)
  rwa [List.take_length] at this
theorem ofP_tail {l : List Cl} {op : Nat} {c : Cl} (hc : l[op]? = some c) : ofP l op = op :: ofG c.th (op + 1) (l.drop (op + 1)) := by unfold ofP; rw [hc]
theorem ofG_took {l : List Cl} (hb : bad l = none) {op : Nat} {c : Cl} (hc : l[op]? = some c) : ((ofP l op).tail).Pairwise fun i j => ∀ a b, l[i]? = some a → l[j]? = some b → a.took ≤ b.took := by
  rw [ofP_tail hc, List.tail_cons]
  refine (ofG_asc _ _).imp_of_mem fun {i j} hi hj hij a b ha hbb => ?_
  obtain ⟨h1, d, h2, h3, h4, -⟩ := ofG_mem _ _ _ hi
  obtain ⟨h5, e, h6, h7, h8, -⟩ := ofG_mem _ _ _ hj
  rw [List.getElem?_drop, show op + 1 + (i - (op + 1)) = i by omega, ha] at h2
  rw [List.getElem?_drop, show op + 1 + (j - (op + 1)) = j by omega, hbb] at h6
  injection h2 with h2; subst h2
  injection h6 with h6; subst h6
  obtain ⟨p1, q1⟩ := List.getElem?_eq_some_iff.1 ha
  obtain ⟨p2, q2⟩ := List.getElem?_eq_some_iff.1 hbb
  have h9 := (List.pairwise_iff_getElem.1 (hist_pw hb)) i j p1 p2 hij
  rw [q1, q2] at h9
  have h10 := h9 (h3.trans h7.symm)
  have h11 := (good_took (good_atP hb ha)).2.2.2 h4
  have h12 := (good_took (good_atP hb hbb)).2.2.2 h8
  omega
-- the maps ascend
theorem next_okM {s s' : Md} {N : Nat} {c : Cl} (hok : s.Ok N) (hw : WfX c) (h : nextM s c = some s') : s'.Ok (N + 1) := by
  unfold nextM at h
  split at h
  · injection h with h; subst h; exact doM_ok hok _ hw.op
  · split at h
    · injection h with h; subst h; exact acceptM_ok hok _ hw.op hw.rk.1
    · cases h
theorem fits_okM {s s' : Md} {N : Nat} {c : Cl} (hok : s.Ok N) (hw : WfX c) (h : fitsM s c = some s') : s'.Ok (N + 1) := by
  unfold fitsM at h
  split at h
  · cases h
  · split at h
    · split at h
      · injection h with h; subst h; exact doM_ok hok _ hw.op
      · cases h
    · exact next_okM hok hw h
theorem states_asc {l : List Cl} (hw : ∀ y ∈ l, WfX y) : ∀ (ord : List Nat) (s : Md) (N : Nat) (out o2 : List Sta), s.Ok N → (∀ z ∈ out, asc z.2) → statesM l ord s out = .ok o2 → ∀ z ∈ o2, asc z.2
  | [], s, N, out, o2, _, ho, h => by rw [statesM] at h; injection h with h; subst h; exact ho
  | i :: t, s, N, out, o2, hok, ho, h => by
    rw [statesM] at h
    cases hc : l[i]? with
    | none => rw [hc] at h; cases h
    | some c =>
      rw [hc] at h
      simp only at h
      cases hf : fitsM s c with
      | none => rw [hf] at h; cases h
      | some s' =>
        rw [hf] at h
        simp only at h
        have hok' := fits_okM hok (hw c (List.mem_of_getElem? hc)) hf
        refine states_asc hw t s' (N + 1) _ o2 hok' (fun z hz => ?_) h
        have hor : z ∈ out ∨ z = (c.took, s'.l) := by
          unfold putS at hz
          split at hz
          · split at hz
            · exact .inl hz
            · simpa using hz
          · simpa using hz
        rcases hor with h1 | rfl
        · exact ho z h1
        · exact hok'.asc
theorem s1M_okM {c : Cf} {cuts : List Nat} (h : chkC c cuts = 0) : (s1M c).Ok 0 := by
  have ht := cf_thr h
  exact ⟨Nat.le_refl _, List.Pairwise.nil, fun _ h => (by cases h), (by show (List.replicate c.thr.toNat Th0).length ≤ 1000; simp; omega), fun x hx => (by rw [List.eq_of_mem_replicate hx]; exact ⟨fun h => (by cases h), fun h => (by cases h), fun h => (by cases h)⟩)⟩
theorem wX_asc {c : Cf} {cuts : List Nat} {l : List Cl} (hw : ∀ y ∈ l, WfX y) {o2 : List Sta} (h : wX c cuts l = .ok o2) : ∀ z ∈ o2, asc z.2 := by
  obtain ⟨hc, hbad, hm⟩ := wX_ok h
  unfold mapsX at hm
  exact states_asc hw _ _ 0 _ _ (s1M_okM hc) (fun z hz => by unfold out0 at hz; simp at hz; subst hz; exact List.Pairwise.nil) hm
theorem atF_in {cur : Mp} : ∀ {maps : List Sta} {st : Int}, atF cur maps st = cur ∨ ∃ z ∈ maps, atF cur maps st = z.2 := by
  intro maps
  induction maps generalizing cur with
  | nil => intro st; exact .inl rfl
  | cons s r ih =>
    intro st
    rw [atF_cons]
    split
    · rcases ih (cur := s.2) (st := st) with h | ⟨z, h1, h2⟩
      · exact .inr ⟨s, by simp, h⟩
      · exact .inr ⟨z, by simp [h1], h2⟩
    · rcases ih (cur := cur) (st := st) with h | ⟨z, h1, h2⟩
      · exact .inl h
      · exact .inr ⟨z, by simp [h1], h2⟩
theorem mapsA_asc {c : Cf} {cuts : List Nat} {l : List Cl} (hw : ∀ y ∈ l, WfX y) (t : Int) : asc (mapsA c cuts l t) := by
  unfold mapsA wAt
  cases h : wX c cuts l with
  | error z => exact List.Pairwise.nil
  | ok out =>
    simp only
    split
    · exact List.Pairwise.nil
    · rcases atF_in (cur := []) (maps := out) (st := t) with h1 | ⟨z, h1, h2⟩
      · simp only; rw [h1]; exact List.Pairwise.nil
      · simp only; rw [h2]; exact wX_asc hw h z h1
theorem tksL_mem {l : List Cl} {t : Int} (h : t ∈ tksL l) (hb : bad l = none) : ∃ c ∈ l, c.took = t := by
  unfold tksL at h
  obtain ⟨i, hi, rfl⟩ := List.mem_map.1 h
  obtain ⟨y, hy, -⟩ := ((effL_is hb).2 i).1 hi
  exact ⟨y, List.mem_of_getElem? hy, (tk_of hy).symm⟩
theorem wChk_bad {c : Cf} {cuts : List Nat} {l : List Cl} (h : (wChk c cuts l).2 = 0) : bad l = none := by
  obtain ⟨o2, h1, -⟩ := wChk_ok.1 h
  exact (wX_ok h1).2.1
theorem tld_open {l : List Cl} {op : Nat} {c : Cl} (hc : l[op]? = some c) (hb : begB c = true) : tldL l (ofP l op) = tldL l (ofP l op).tail := by
  have hk : c.kd = 11 := by unfold begB at hb; simp at hb; exact hb.1
  rw [ofP_tail hc, tldL, hc, List.tail_cons]
  simp only
  rw [if_neg (by omega)]
theorem keeps_told {c : Cf} {cuts : List Nat} {l : List Cl} (h : (pChk c cuts l).2 = 0) {op : Nat} {x : Cl} (hx : l[op]? = some x) (hb : begB x = true) :
    (tldL l (ofP l op)).Pairwise (fun a b => a.1 < b.1) ∧ ∀ q ∈ tldL l (ofP l op), x.ka ≤ q.1 ∧ q.1 ≤ x.kb ∧ (q ∈ mapsA c cuts l x.took ∨ ∃ y ∈ l, x.took ≤ y.took ∧ q ∈ mapsA c cuts l y.took) := by
  obtain ⟨h1, h2⟩ := pChk_ok.1 h
  have hbad := wChk_bad h1
  obtain ⟨-, h4, h5⟩ := told_ok _ _ (h2 op x hx hb)
  rw [tld_open hx hb]
  refine ⟨h4, fun q hq => ?_⟩
  obtain ⟨a1, a2, i, hi, y, hy, p, hp, hqp⟩ := h5 q hq
  refine ⟨a1, a2, ?_⟩
  rcases durM_mem.1 hp with rfl | ⟨t, ht, h6, -, rfl⟩
  · exact .inl hqp
  · obtain ⟨z, hz, rfl⟩ := tksL_mem ht hbad
    exact .inr ⟨z, hz, by omega, hqp⟩
theorem keeps_owed {c : Cf} {cuts : List Nat} {l : List Cl} (hw : ∀ y ∈ l, WfX y) (h : (pChk c cuts l).2 = 0) {op : Nat} {x : Cl} (hx : l[op]? = some x) (hb : begB x = true) :
    ((pOwd c cuts (op : Int) l).1 = 0 ∨ (pOwd c cuts (op : Int) l).1 = 8) ∧ (pOwd c cuts (op : Int) l).2.Pairwise (· < ·) ∧ ∀ k ∈ (pOwd c cuts (op : Int) l).2, k ∈ (tldL l (ofP l op)).map (·.1) := by
  obtain ⟨h1, h2⟩ := pChk_ok.1 h
  have hbad := wChk_bad h1
  have hrun := h2 op x hx hb
  unfold pOwd
  rw [if_neg (by omega), if_neg (by omega), Int.toNat_natCast, hx]
  simp only
  rw [if_pos hb]
  cases ho : owR l (lfOf x) [] (ofP l op).tail with
  | none => exact ⟨.inr rfl, List.Pairwise.nil, fun k hk => by cases hk⟩
  | some r =>
    obtain ⟨e, ps⟩ := r
    simp only
    refine ⟨by simp, ?_, fun k hk => ?_⟩
    · unfold owdL
      refine List.Pairwise.filter _ ?_
      obtain ⟨r, hr⟩ := durM_head (mapsA c cuts l) (tksL l) x.took (tk l e)
      rw [hr, alwM]
      refine List.Pairwise.filter _ ?_
      rw [List.pairwise_map]
      exact mapsA_asc hw _
    · unfold owdL at hk
      rw [List.mem_filter] at hk
      simp only [Bool.and_eq_true, decide_eq_true_eq, Bool.not_eq_true'] at hk
      obtain ⟨h6, h7⟩ := owR_sub _ _ _ _ _ ho
      rw [tld_open hx hb]
      rw [ofP_tail hx, List.tail_cons] at h7
      obtain ⟨h8, z, h9, -⟩ := ofG_mem _ _ _ h7
      rw [List.getElem?_drop, show op + 1 + (e - (op + 1)) = e by omega] at h9
      rw [tk_of h9] at hk
      exact owed_told _ _ _ _ _ z hrun ho h9 (ofG_took hbad hx) k hk.1 (insB_iff.2 ⟨rfl, hk.2.1.1, hk.2.1.2⟩) hk.2.2
theorem still_plain {c : Cf} {cuts : List Nat} {l : List Cl} (hw : ∀ y ∈ l, WfX y) (h : (pChk c cuts l).2 = 0) {op e : Nat} {x z : Cl} (hx : l[op]? = some x) (hb : begB x = true) (he : endS l (ofP l op).tail = some e) (hz : l[e]? = some z)
    (hs : ∀ y ∈ l, x.took < y.took → y.took ≤ z.took → mapsA c cuts l y.took = mapsA c cuts l x.took) :
    tldL l (ofP l op) = (mapsA c cuts l x.took).filter (fun q => decide (x.ka ≤ q.1) && decide (q.1 ≤ x.kb)) := by
  obtain ⟨h1, h2⟩ := pChk_ok.1 h
  have hbad := wChk_bad h1
  rw [tld_open hx hb, still_told (mapsA_asc hw _) _ _ _ _ (h2 op x hx hb) he hz (ofG_took hbad hx) (fun t ht h3 h4 => by
    obtain ⟨y, hy, rfl⟩ := tksL_mem ht hbad
    exact hs y hy h3 h4)]
  apply List.filter_congr
  intro q _
  unfold insB lfOf
  simp
end Go.Proofs.YtkikdpdainmlcaaGreat
