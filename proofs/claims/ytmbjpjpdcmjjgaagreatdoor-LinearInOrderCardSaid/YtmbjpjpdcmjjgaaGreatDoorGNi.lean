import Derived.Test.YtmbjpjpdcmjjgaaGreatDoorGNh
import Derived.Test.YtmbjpjpdcmjjgaaGreatDoorGPh
import Derived.Test.YtmbjpjpdcmjjgaaGreatDoorGP
import Derived.Test.YtmbjpjpdcmjjgaaGreatDoorGSPd
set_option linter.unusedVariables false
set_option linter.unusedSimpArgs false
set_option linter.unnecessarySimpa false
namespace Go.Proofs.YtmbjpjpdcmjjgaaGreatDoor
open Go.RowKit Go.Xt
/-! Final, At and Reads. -/
def PairsP (w : World) (r : Int × List (Int × Int)) (e : Ending) (w' : World) : Prop := ∃ v, e = .returned (.tuple #[v, .int .i64 r.1]) ∧ w'.ownsRow w.heap.size 90 2 v r.2.length (pcells r.2) ∧ Nw w w' ∧ r.2.length ≤ 500000
def wFin (c : Cf) (cuts : List Nat) (l : List Cl) : Int × List (Int × Int) := match wX c cuts l with
  | .error z => (z.2, [])
  | .ok out => (0, finL out)
def wAt (c : Cf) (cuts : List Nat) (st : Int) (l : List Cl) : Int × List (Int × Int) := match wX c cuts l with
  | .error z => (z.2, [])
  | .ok out => if st < -1 then (3, []) else (0, atF [] out st)
def rdL (out : List Sta) (l : List Cl) : List Int := l.map fun x => if readB x = true then explM out x else -1
def wRds (c : Cf) (cuts : List Nat) (l : List Cl) : Int × List Int := match wX c cuts l with
  | .error z => (z.2, [])
  | .ok out => (0, rdL out l)
def ReadsP (w : World) (r : Int × List Int) (e : Ending) (w' : World) : Prop := ∃ v, e = .returned (.tuple #[v, .int .i64 r.1]) ∧ OwnI w' w.heap.size v r.2 ∧ Nw w w'
theorem rdL_take {out : List Sta} {l : List Cl} {k : Nat} {x : Cl} (hx : l[k]? = some x) : rdL out (l.take (k + 1)) = rdL out (l.take k) ++ [if readB x = true then explM out x else -1] := by
  obtain ⟨p, e⟩ := List.getElem?_eq_some_iff.1 hx
  rw [List.take_succ_eq_append_getElem p, rdL, List.map_append, e]; rfl
set_option maxRecDepth 20000 in
set_option maxHeartbeats 8000000 in
theorem wreads_any {w : World} {c : Cf} {cuts : List Nat} {A : Option Addr} {n cap : Nat} {l : List Cl} (hi : In3 w c cuts A n cap l) :
    Calls Tryz.prog 26 #[confV c, .slice A n cap] w (ReadsP w (wRds c cuts l)) := by
  have HS := Lib.hid (fun W (hq : Nw w W) => states_any (hi.nw hq))
  have HE := Lib.hid (fun z (h : wX c cuts l = .error z) => wX_err h)
  have HL := Lib.hid (wX_len c cuts l)
  have HI := Lib.hid hi
  obtain ⟨r, hr⟩ : ∃ r, r = wRds c cuts l := ⟨_, rfl⟩
  rw [← hr]
  unfold wRds at hr
  obtain ⟨X, hX⟩ : ∃ X, X = wX c cuts l := ⟨_, rfl⟩
  rw [← hX] at HS HE HL hr
  unfold confV at HS ⊢
  haveI hca : ConfAt (w.alloc (cellsOf c 27)) w.heap.size c := ⟨fun i v hv => by unfold cellsOf; unfold ccells at hv; rw [World.cell?_alloc_new]; simpa using hv, by simp⟩
  obtain ⟨W1, hW1⟩ : ∃ W, W = w.alloc (cellsOf c 27) := ⟨_, rfl⟩
  rw [← hW1] at hca
  have hn1 : Nw w W1 := by rw [hW1]; exact nwa
  unfold cellsOf at hW1
  have HW1 := Lib.hid hW1
  have HN1 := Lib.hid hn1
  haveI : In w.heap.size W1 := ⟨hca.lt⟩
  clear hW1 hn1 hi hX
  cases X with
  | error z =>
    simp only at hr
    obtain ⟨z1, z2⟩ := z
    have hne : (z2 != 0) = true := by simpa using HE.out (z1, z2) rfl
    have HRR := Lib.hid hr
    clear hr
    go_enter Tryz.func26, Tryz.ntmps26
    go_upto_region 1 with (fail)
    rw [← HW1.out]
    go_wp2_with fail
    refine (HS.out W1 HN1.out).mono ?_
    intro e W2 hP
    unfold StP at hP
    obtain ⟨rfl, hn2⟩ := hP
    have HN2 := Lib.hid hn2
    clear hn2
    go_wp2
    refine bodyPost_ret (results_tmp2 rfl _ _ _) rfl ?_
    rw [HRR.out]
    exact ⟨_, rfl, World.ownsRow_nil _ _ _ _, HN1.out.trans HN2.out⟩
  | ok out =>
    simp only at hr
    have HRR := Lib.hid hr
    clear hr
    go_enter Tryz.func26, Tryz.ntmps26
    go_upto_region 1 with (fail)
    rw [← HW1.out]
    go_wp2_with fail
    refine (HS.out W1 HN1.out).mono ?_
    intro e W2 hP
    unfold StP at hP
    obtain ⟨v, zs, rfl, hsts, hn2⟩ := hP
    have hexp := fun W' (hq : Nw W2 W') (x : Cl) => explains_any (hsts.nw hq) (by have := HL.out out rfl; have := HI.out.n1; have := HI.out.hl.1; omega) x
    obtain ⟨Av, cv', rfl⟩ := own_slice hsts.row
    obtain ⟨nz, hnz⟩ : ∃ k, k = zs.length := ⟨_, rfl⟩
    rw [← hnz] at hexp ⊢
    have HX := Lib.hid hexp
    have HRD := Lib.hid (fun x W' => read_any x W')
    have HC2 := Lib.hid (HI.out.hl.nw (HN1.out.trans hn2))
    have HN2 := Lib.hid (HN1.out.trans hn2)
    have HI1 := Lib.hid HI.out.n1
    clear hsts hexp hn2 hnz
    go_wp2_with fail
    go_loopw [9, 11, 12, 25] (fun r _ _ a wr => ∃ k : Nat, k ≤ n ∧ a = .int .i64 k ∧ Nw W2 wr ∧ ∃ (Ar : Option Addr) (nr cr : Nat), r = .slice Ar nr cr ∧ Hid (nr = k ∧ OwnI wr W2.heap.size (.slice Ar nr cr) (rdL out (l.take k)))) (fun _ _ _ a _ => n - (intOf a).toNat)
    case atStart => exact ⟨0, Nat.zero_le _, rfl, nwa, none, 0, 0, rfl, Lib.hid ⟨rfl, World.ownsRow_nil _ _ _ _⟩⟩
    case round =>
      obtain ⟨k, hk, rfl, ⟨d, rfl⟩, Ar, nr, cr, rfl, hst⟩ := hrel
      obtain ⟨hnk, -⟩ := hst.out
      subst nr
      by_cases hlt : k < n
      · obtain ⟨b, o, x, rfl, hb, hx, hcx⟩ := HC2.out.get hlt
        haveI : CallAt W2 b (o + k * 18) x := ⟨hcx, hb⟩
        haveI : In b W2 := ⟨hb⟩
        have HD := Lib.hid (rdL_take (out := out) hx)
        have HLK := Lib.hid (show (rdL out (l.take k)).length = k by rw [rdL, List.length_map, List.length_take]; have := (List.getElem?_eq_some_iff.1 hx).1; omega)
        have i1 : (k : Int) < (n : Int) := by omega
        have i3 : k < 1000000 := by have := HI1.out; omega
        obtain ⟨rb, hrb⟩ : ∃ rb, rb = readB x := ⟨_, rfl⟩
        have HRB := Lib.hid hrb
        clear hx hcx hb hrb
        go_wp2_with fail
        refine (HRD.out x _).mono ?_
        rintro e w' ⟨rfl, dR, rfl⟩
        rw [← HRB.out]
        cases rb with
        | false =>
          have hown : Hid (((W2.ext none d).alloc (.cells #[.int .i64 x.th, .int .i64 x.ix, .int .u8 x.kd, .int .u64 x.ka, .int .u64 x.kb, .int .u64 x.kc, .int .u64 x.kx, .int .u64 x.ky, .int .u64 x.kz, .int .i64 x.inv, .int .i64 x.took, .int .i64 x.ans, .int .i64 x.st, .int .i64 x.re, .bool x.rf, .int .u64 x.rk, .int .u64 x.rv, .int .i64 x.rc] 39)).ext none dR |>.ownsRow W2.heap.size 3 1 (.slice Ar k cr) k (ints (rdL out (l.take k)))) := by
            have h := hst.out.2
            unfold OwnI at h
            rw [HLK.out] at h
            exact Lib.hid (own_nw h nwa)
          go_wp2_with (at_builtin; refine wpList_app1 rfl _ _ 31 rfl 3 (.int .i64 0) 1 8 Tryz.underlying31 intInfo rfl (by decide) W2 _ nwa (.slice Ar k cr) k _ rfl hown.out _ 1 1 _ [.int .i64 (-1)] rfl rfl rfl (by intro u hu; simp at hu; subst hu; rfl) (by unfold maxLen; omega) (by omega) ?_; intro vA dA hownA; have hA2 : OwnI (W2.ext none dA) W2.heap.size vA (rdL out (l.take (k + 1))) := OwnI.cast hownA (by rw [HD.out, List.length_append, HLK.out]; rfl) (by rw [HD.out, ← HRB.out]; simp [ints]); obtain ⟨A2, c2, hv2, -⟩ := OwnI.form hA2; rw [HD.out, List.length_append, HLK.out] at hv2; simp only [List.length_cons, List.length_nil, Nat.zero_add] at hv2; subst hv2; have HA2 := Lib.hid hA2; clear hownA hA2)
          exact ⟨⟨k + 1, by omega, by go_num, nwa, _, _, _, by first | exact ⟨rfl, rfl, rfl⟩ | rfl, Lib.hid ⟨rfl, HA2.out⟩⟩, by simp [intOf]; omega⟩
        | true =>
          obtain ⟨m, hm⟩ : ∃ m, m = explM out x := ⟨_, rfl⟩
          have HM := Lib.hid hm
          clear hm
          go_wp2_with fail
          refine (HX.out _ nwa x).mono ?_
          rintro e w' ⟨rfl, dX, rfl⟩
          rw [← HM.out]
          have hown : Hid ((((W2.ext none d).alloc (.cells #[.int .i64 x.th, .int .i64 x.ix, .int .u8 x.kd, .int .u64 x.ka, .int .u64 x.kb, .int .u64 x.kc, .int .u64 x.kx, .int .u64 x.ky, .int .u64 x.kz, .int .i64 x.inv, .int .i64 x.took, .int .i64 x.ans, .int .i64 x.st, .int .i64 x.re, .bool x.rf, .int .u64 x.rk, .int .u64 x.rv, .int .i64 x.rc] 39)).ext none dR).ext none dX |>.ownsRow W2.heap.size 3 1 (.slice Ar k cr) k (ints (rdL out (l.take k)))) := by
            have h := hst.out.2
            unfold OwnI at h
            rw [HLK.out] at h
            exact Lib.hid (own_nw h nwa)
          go_wp2_with (at_builtin; refine wpList_app1 rfl _ _ 31 rfl 3 (.int .i64 0) 1 8 Tryz.underlying31 intInfo rfl (by decide) W2 _ nwa (.slice Ar k cr) k _ rfl hown.out _ 1 1 _ [.int .i64 m] rfl rfl rfl (by intro u hu; simp at hu; subst hu; rfl) (by unfold maxLen; omega) (by omega) ?_; intro vA dA hownA; have hA2 : OwnI (W2.ext none dA) W2.heap.size vA (rdL out (l.take (k + 1))) := OwnI.cast hownA (by rw [HD.out, List.length_append, HLK.out]; rfl) (by rw [HD.out, ← HRB.out, HM.out]; simp [ints]); obtain ⟨A2, c2, hv2, -⟩ := OwnI.form hA2; rw [HD.out, List.length_append, HLK.out] at hv2; simp only [List.length_cons, List.length_nil, Nat.zero_add] at hv2; subst hv2; have HA2 := Lib.hid hA2; clear hownA hA2)
          exact ⟨⟨k + 1, by omega, by go_num, nwa, _, _, _, by first | exact ⟨rfl, rfl, rfl⟩ | rfl, Lib.hid ⟨rfl, HA2.out⟩⟩, by simp [intOf]; omega⟩
      · have hkn : k = n := by omega
        subst hkn
        have HN := Lib.hid (show rdL out (l.take k) = rdL out l by rw [List.take_of_length_le (by rw [HC2.out.1]; exact Nat.le_refl _)])
        go_wp2
        refine bodyPost_ret (results_tmp2 rfl _ _ _) rfl ⟨.slice Ar k cr, ?_, ?_, HN2.out.trans nwa⟩
        · (rw [HRR.out]) <;> rfl
        · rw [HRR.out]
          have h := hst.out.2
          rw [HN.out] at h
          exact own_le h HN2.out.grown.size
end Go.Proofs.YtmbjpjpdcmjjgaaGreatDoor
namespace Go.Proofs.YtmbjpjpdcmjjgaaGreatDoor
open Go.RowKit Go.Xt Go.Shelf Go.Sort
/-! The sort of Order. -/
set_option maxRecDepth 20000 in
set_option maxHeartbeats 4000000 in
theorem stable_none (p : Option Addr) (cap : Nat) (fv : Value) (w : World) :
    Calls Tryz.prog 43 #[.slice p 0 cap, .int .i64 0, fv] w fun e w' => e = .returned (.tuple #[]) ∧ w' = w := by
  have HI := Lib.hid (fun W => show Calls Tryz.prog 67 #[.slice p 0 cap, .int .i64 0, .int .i64 0, fv] W fun e w' => e = .returned (.tuple #[]) ∧ w' = W from AnyF.insertionSortCmpFunc_none (L := { sortL with }) p cap fv W)
  go_enter Tryz.func43, Tryz.ntmps43
  go_wp2_with fail
  go_loopw [7, 8] (fun a b wr => a = .int .i64 0 ∧ b = .int .i64 20 ∧ wr = w) (fun _ _ _ => 0)
  case atStart => exact ⟨rfl, rfl, rfl⟩
  case round =>
    obtain ⟨rfl, rfl, rfl⟩ := hrel
    go_wp2_with fail
    refine (HI.out _).mono ?_
    rintro e W1 ⟨rfl, rfl⟩
    go_wp2_with fail
    go_loopw [6, 7, 8, 9] (fun bs _ _ _ wr => bs = .int .i64 20 ∧ wr = W1) (fun _ _ _ _ _ => 0)
    case atStart => exact ⟨rfl, rfl⟩
    case round =>
      obtain ⟨rfl, rfl⟩ := hrel
      go_wp2
      go_end0
      exact ⟨rfl, rfl⟩
def stF (out : List Sta) (x : Cl) : Int := if readB x = true then explM out x else if 0 ≤ x.took then x.took else -1
def rdF (out : List Sta) (x : Cl) : Int := if readB x = true then explM out x else -1
def stK (out : List Sta) (l : List Cl) (k : Nat) : List Int := (l.take k).map (stF out) ++ (l.drop k).map (rdF out)
theorem stK_zero (out : List Sta) (l : List Cl) : stK out l 0 = rdL out l := by simp [stK, rdL, rdF]
theorem stK_set {out : List Sta} {l : List Cl} {k : Nat} {x : Cl} (hx : l[k]? = some x) : stK out l (k + 1) = (stK out l k).set k (stF out x) := by
  obtain ⟨p, e⟩ := List.getElem?_eq_some_iff.1 hx
  have hd : l.drop k = x :: l.drop (k + 1) := by rw [List.drop_eq_getElem_cons p, e]
  unfold stK
  rw [List.take_succ_eq_append_getElem p, e, hd, List.map_append, List.map_cons, List.map_cons, List.map_nil, List.set_append, if_neg (by simp; omega)]
  have h0 : k - ((l.take k).map (stF out)).length = 0 := by simp; omega
  rw [h0, List.set_cons_zero, List.append_assoc]; rfl
theorem stK_same {out : List Sta} {l : List Cl} {k : Nat} {x : Cl} (hx : l[k]? = some x) (h : stF out x = rdF out x) : stK out l (k + 1) = stK out l k := by
  obtain ⟨p, e⟩ := List.getElem?_eq_some_iff.1 hx
  have hd : l.drop k = x :: l.drop (k + 1) := by rw [List.drop_eq_getElem_cons p, e]
  unfold stK
  rw [List.take_succ_eq_append_getElem p, e, hd, List.map_append, List.map_cons, List.map_cons, List.map_nil, List.append_assoc, h]; rfl
theorem stK_at {out : List Sta} {l : List Cl} {k : Nat} {x : Cl} (hx : l[k]? = some x) : (stK out l k)[k]? = some (rdF out x) := by
  obtain ⟨p, e⟩ := List.getElem?_eq_some_iff.1 hx
  have hd : l.drop k = x :: l.drop (k + 1) := by rw [List.drop_eq_getElem_cons p, e]
  unfold stK
  rw [hd, List.getElem?_append_right (by simp; omega)]
  have h0 : k - ((l.take k).map (stF out)).length = 0 := by simp; omega
  rw [h0]; rfl
theorem stK_end (out : List Sta) (l : List Cl) : stK out l l.length = l.map (stF out) := by simp [stK]
abbrev IxO (l : List Cl) : Type := { i : Nat // ∃ x, l[i]? = some x ∧ 0 ≤ x.took }
def encO {l : List Cl} (i : IxO l) : Value := .int .i64 (i.1 : Int)
def cfO (out : List Sta) {l : List Cl} (i j : IxO l) : Int := cfW (stI out l i.1) (stI out l j.1) (rdI l i.1) (rdI l j.1)
theorem ltO (out : List Sta) {l : List Cl} (i j : IxO l) : ltOf (cfO out) i j = decide (stI out l i.1 < stI out l j.1 ∨ (stI out l i.1 = stI out l j.1 ∧ rdI l i.1 = false ∧ rdI l j.1 = true)) := by
  unfold ltOf cfO cfW
  by_cases h : stI out l i.1 - stI out l j.1 = 0
  · rw [if_pos h]
    have h2 : stI out l i.1 = stI out l j.1 := by omega
    rw [h2]
    cases rdI l i.1 <;> cases rdI l j.1 <;> simp [nbW]
  · rw [if_neg h]
    have h2 : ¬ stI out l i.1 = stI out l j.1 := by omega
    congr 1
    apply propext
    constructor
    · intro h3; left; omega
    · rintro (h3 | ⟨h3, -⟩)
      · omega
      · exact absurd h3 h2
theorem swoO (out : List Sta) {l : List Cl} : SWO (ltOf (cfO out (l := l))) where
  irrefl x := by rw [ltO]; simp
  trans x y z h1 h2 := by
    rw [ltO, decide_eq_true_eq] at *
    rcases h1 with a | ⟨a, b, c⟩ <;> rcases h2 with a' | ⟨a', b', c'⟩
    · left; omega
    · left; omega
    · left; omega
    · rw [c] at b'; cases b'
  ntrans x y z h1 h2 := by
    rw [ltO, decide_eq_false_iff_not] at *
    rintro (a | ⟨a, b, c⟩)
    · by_cases q : stI out l x.1 < stI out l y.1
      · exact h1 (.inl q)
      · exact h2 (.inl (by omega))
    · by_cases q : stI out l x.1 < stI out l y.1
      · exact h1 (.inl q)
      · by_cases q2 : stI out l y.1 < stI out l z.1
        · exact h2 (.inl q2)
        · cases hy : rdI l y.1 with
          | false => exact h2 (.inr ⟨by omega, hy, c⟩)
          | true => exact h1 (.inr ⟨by omega, b, hy⟩)
theorem nlt_ord {out : List Sta} {l : List Cl} {i j : IxO l} (h : ltOf (cfO out) j i = false) : stI out l i.1 < stI out l j.1 ∨ (stI out l i.1 = stI out l j.1 ∧ (rdI l i.1 = true → rdI l j.1 = true)) := by
  rw [ltO, decide_eq_false_iff_not] at h
  by_cases q : stI out l i.1 < stI out l j.1
  · exact .inl q
  · refine .inr ⟨?_, fun hr => ?_⟩
    · by_cases q2 : stI out l j.1 < stI out l i.1
      · exact absurd (.inl q2) h
      · omega
    · cases hj : rdI l j.1 with
      | true => rfl
      | false =>
        exfalso
        by_cases q2 : stI out l j.1 < stI out l i.1
        · exact h (.inl q2)
        · exact h (.inr ⟨by omega, hj, hr⟩)
end Go.Proofs.YtmbjpjpdcmjjgaaGreatDoor
